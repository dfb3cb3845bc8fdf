/- Contracts: the reference's lexicons: that of all its words, and drawn ones, seldom not valid. Nothing is said of them but that they are short. -/
import Derived.Test.YtjdcdhhbgijaoaaGreatDoorLxD
namespace Go.Proofs.YtjdcdhhbgijaoaaGreatDoor
open Go.ChangeShapes Go.WideShapes Go.ChangeAt Go.RowKit Go.Sort

/-- a lexicon of at most M short words comes back -/
def LexOut (M : Nat) (w : World) (e : Ending) (w' : World) : Prop :=
  ∃ (g m cap : Nat) (ys : List ByteArray), e = .returned (.agg #[.slice (some ⟨g, 0, none⟩) m cap]) ∧ ys.length = m ∧ m ≤ M ∧ (∀ x ∈ ys, x.size ≤ 20) ∧ w'.ownsRow w.heap.size 9 1 (.slice (some ⟨g, 0, none⟩) m cap) m (ys.flatMap Tx.enc) ∧ Below w.heap.size w w'
/-- a lexicon of at most M short words is drawn; the source goes on -/
def LexDrawn (M : Nat) (w : World) (N b k : Nat) (e : Ending) (w' : World) : Prop :=
  ∃ (g m cap : Nat) (ys : List ByteArray), e = .returned (.agg #[.slice (some ⟨g, 0, none⟩) m cap]) ∧ ys.length = m ∧ m ≤ M ∧ (∀ x ∈ ys, x.size ≤ 20) ∧ w'.ownsRow w.heap.size 9 1 (.slice (some ⟨g, 0, none⟩) m cap) m (ys.flatMap Tx.enc) ∧ SrcAt w' N b k ∧ w.grownBy w' (some b)
set_option maxRecDepth 100000 in
set_option maxHeartbeats 2000000 in
theorem l12All_any (w : World) : Calls Tryz.prog 157 #[] w (LexOut 60 w) := by
  have hb : Below w.heap.size w (w.alloc (.cells #[.slice none 0 0] 28)) := (Below.refl _ _).alloc (Nat.le_refl _) _
  have V0 := Lib.hid (VarAt.new w 28 [.slice none 0 0])
  go_enter Tryz.func157, Tryz.ntmps157
  go_upto_region 1 with fail
  generalize w.alloc (.cells #[.slice none 0 0] 28) = w1 at *
  have hlt := V0.out.lt
  go_wp2_with fail
  refine (l05Some_any w1).mono ?_
  rintro e w2 ⟨rfl, ho, hd⟩
  replace V0 := Lib.hid (V0.out.kept hd)
  have hz := hd.size
  replace hb := hb.trans (hd.mono hb.size)
  clear hd
  go_wp2_with fail
  refine (l05Make_any someWords w1.heap.size 60 60 w1.heap.size w2 ho rfl (by decide) some_short).mono ?_
  rintro e w3 ⟨g, m, cap, ys, rfl, hl, hm, hy, ho3, hd⟩
  replace V0 := Lib.hid (V0.out.kept hd)
  replace hb := hb.trans (hd.mono hb.size)
  have hg := (ho3.lt g rfl).1
  clear ho hd
  have c0 := V0.out.cell (i := 0) rfl
  have f0 := V0.out.free 0
  obtain ⟨o0, k0⟩ := V0.out.set 0 (.slice (some ⟨g, 0, none⟩) m cap)
  have e0 := o0.cell (i := 0) (v := .slice (some ⟨g, 0, none⟩) m cap) rfl
  have ho4 := own_aside ho3 k0 (by first | omega | (dsimp only; omega))
  have HF := Lib.hid (own_mono ho4 (show w.heap.size ≤ w2.heap.size by omega))
  have hb4 := hb.grown k0 hb.size (fun q h => by cases h; exact Nat.le_refl _)
  clear o0 k0 ho3 ho4 hb V0
  go_wp2
  refine bodyPost_ret (v := .agg #[.slice (some ⟨g, 0, none⟩) m cap]) (by simp [results, Tryz.results157, go_sem, e0]) rfl ?_
  exact ⟨g, m, cap, ys, rfl, hl, by omega, hy, HF.out, hb4⟩
set_option maxRecDepth 100000 in
set_option maxHeartbeats 4000000 in
theorem l05Draw_any (N b k : Nat) (w : World) (hs : SrcAt w N b k) (hk : k < 268435456) (hN : N ≤ w.heap.size) :
    Calls Tryz.prog 224 #[.pointer (some ⟨b, 0, none⟩), .int .i64 20] w (LexDrawn 20 w N b (k + 50)) := by
  have hbN := hs.lt
  have hb : Below w.heap.size w (w.alloc (.cells #[.slice none 0 0] 28)) := (Below.refl _ _).alloc (Nat.le_refl _) _
  have HS := Lib.hid (hs.kept hb)
  have G := Lib.hid (grown_of_below (row := some b) hb)
  have V0 := Lib.hid (VarAt.new w 28 [.slice none 0 0])
  clear hs hb
  go_enter Tryz.func224, Tryz.ntmps224
  go_upto_region 1 with fail
  generalize w.alloc (.cells #[.slice none 0 0] 28) = w1 at *
  have hlt := V0.out.lt
  go_wp2_with fail
  refine (l05Some_any w1).mono ?_
  rintro e w2 ⟨rfl, ho, hd⟩
  replace V0 := Lib.hid (V0.out.kept hd)
  replace HS := Lib.hid (HS.out.kept hd)
  replace G := Lib.hid (grown_below G.out hd)
  have hz := hd.size
  have hx : Below w2.heap.size w2 (w2.alloc (.cells #[] 9)) := (Below.refl _ _).alloc (Nat.le_refl _) _
  have HL := Lib.hid (own_below ho hx)
  have HO : Hid ((w2.alloc (.cells #[] 9)).ownsRow (w.heap.size + 1) 9 1 (.slice (some ⟨w2.heap.size, 0, none⟩) 0 0) 0 ([].flatMap Tx.enc)) := Lib.hid (own_mono (own_empty w2 9) (by omega))
  replace V0 := Lib.hid (V0.out.kept hx)
  replace HS := Lib.hid (HS.out.kept hx)
  replace G := Lib.hid (grown_below G.out hx)
  clear hd ho hx
  go_upto_region 3 with fail
  generalize w2.alloc (.cells #[] 9) = w3 at *
  generalize w2.heap.size = g0 at *
  generalize w1.heap.size = B5 at *
  go_wp2_with fail
  refine (pick_any 21 N b _ _ HS.out (by omega)).mono ?_
  rintro e w4 ⟨x, ⟨x0, x1, _, _⟩, rfl, s4, g4⟩
  have x2 := x1 (by decide)
  obtain ⟨q, rfl⟩ : ∃ q : Nat, x = q := ⟨x.toNat, by omega⟩
  have HLT := (HL.out.lt B5 rfl).2
  replace V0 := Lib.hid (V0.out.grown g4 (by simp; omega))
  replace HL := Lib.hid (own_aside HL.out g4 (by first | omega | (dsimp only; omega)))
  replace HO := Lib.hid (own_aside HO.out g4 (by first | omega | (dsimp only; omega)))
  replace HS := Lib.hid s4
  replace G := Lib.hid (grownBy_trans G.out g4)
  clear s4 g4 x0 x1 HLT
  go_wp2_with fail
  go_loopw [6, 7] (fun ov kv wr => ∃ (q g1 m1 cap1 : Nat) (ys : List ByteArray), q ≤ 20 ∧ kv = .int .i64 q ∧ ov = .slice (some ⟨g1, 0, none⟩) m1 cap1 ∧ ys.length = m1 ∧ m1 + q ≤ 20 ∧ Hid (∀ x ∈ ys, x.size ≤ 20) ∧ Hid (wr.ownsRow (w.heap.size + 1) 9 1 (.slice (some ⟨g1, 0, none⟩) m1 cap1) m1 (ys.flatMap Tx.enc)) ∧ Hid (wr.ownsRow B5 9 1 (.slice (some ⟨B5, 0, none⟩) 60 60) 60 (someWords.flatMap Tx.enc)) ∧ Hid (SrcAt wr N b (k + 2 + 2 * (20 - q))) ∧ Hid (w.grownBy wr (some b)) ∧ Hid (VarAt wr w.heap.size 28 [.slice none 0 0])) (fun _ kv _ => (intOf kv).toNat)
  case atStart => exact ⟨q, g0, 0, 0, [], by omega, rfl, rfl, rfl, by omega, Lib.hid (fun x hx => by cases hx), HO, HL, Lib.hid (HS.out.mono (Nat.le_refl _) (by omega)), G, V0⟩
  case round =>
    clear HO HL HS G V0 x2
    obtain ⟨q, g1, m1, cap1, ys, hq, rfl, rfl, hyl, hmq, HY, HO, HL, HS, G, V0⟩ := hrel
    by_cases hq0 : 0 < q
    · have hq0I : (0 : Int) < (q : Int) := by omega
      obtain ⟨q', rfl⟩ : ∃ q', q = q' + 1 := ⟨q - 1, by omega⟩
      have wq : IntKind.i64.wrap (((q' + 1 : Nat) : Int) - 1) = (q' : Int) := by rw [show ((q' + 1 : Nat) : Int) - 1 = q' by omega]; exact IntWalk.i64_in _ (by omega)
      go_wp2_with fail
      refine (pick_any 60 N b _ _ HS.out (by omega)).mono ?_
      rintro e w5 ⟨x, ⟨x0, x1, _, _⟩, rfl, s5, g5⟩
      have x2 := x1 (by decide)
      obtain ⟨j, rfl⟩ : ∃ j : Nat, x = j := ⟨x.toNat, by omega⟩
      have hjl : j < someWords.length := by show j < 60; omega
      have hg1 := (HO.out.lt g1 rfl).1
      have hB5 := (HL.out.lt B5 rfl).2
      have hz1 := G.out.size
      replace V0 := Lib.hid (V0.out.grown g5 (by simp; omega))
      replace HL := Lib.hid (own_aside HL.out g5 (by first | omega | (dsimp only; omega)))
      replace HO := Lib.hid (own_aside HO.out g5 (by first | omega | (dsimp only; omega)))
      replace HS := Lib.hid s5
      replace G := Lib.hid (grownBy_trans G.out g5)
      have c0 := own_at HL.out rfl hjl
      have ht := some_short _ (List.getElem_mem hjl)
      have hjI : (j : Int) < 60 := by omega
      clear s5 g5 x0 x1 hB5 hz1
      generalize someWords[j] = t at *
      have hz2 := V0.out.lt
      go_wp2_with fail
      refine (l03Insert_any ys g1 m1 cap1 (w.heap.size + 1) t w5 HO.out hyl (by omega) ht HY.out (by omega)).mono ?_
      rintro e w6 ⟨g2, m2, cap2, zs, rfl, hzl, hm2, hz, ho2, hd⟩
      have HO2 := Lib.hid ho2
      have HZ := Lib.hid hz
      replace HL := Lib.hid (own_below HL.out hd)
      replace HS := Lib.hid ((HS.out.kept hd).mono (Nat.le_refl _) (show _ ≤ k + 2 + 2 * (20 - q') by omega))
      replace G := Lib.hid (grown_below G.out hd)
      replace V0 := Lib.hid (V0.out.kept hd)
      clear ho2 hz hd HO HY c0 ht hz2
      go_wp2
      go_roundw
      case rel => exact ⟨q', g2, m2, cap2, zs, by omega, rfl, rfl, hzl, by omega, HZ, HO2, HL, HS, G, V0⟩
      case measure => simp [intOf]
    · have hq0I : ¬ (0 : Int) < (q : Int) := by omega
      have c0 := V0.out.cell (i := 0) rfl
      have f0 := V0.out.free 0
      obtain ⟨o0, k0⟩ := V0.out.set 0 (.slice (some ⟨g1, 0, none⟩) m1 cap1)
      have hg1 := (HO.out.lt g1 rfl).1
      have e0 := o0.cell (i := 0) (v := .slice (some ⟨g1, 0, none⟩) m1 cap1) rfl
      have HF := Lib.hid (own_mono (own_aside HO.out k0 (by first | omega | (dsimp only; omega))) (show w.heap.size ≤ w.heap.size + 1 by omega))
      replace HS := Lib.hid ((HS.out.grown k0 (fun g e => by cases e; exact hN)).mono (Nat.le_refl _) (show _ ≤ k + 50 by omega))
      replace G := Lib.hid (grown_over G.out k0 (Nat.le_refl _))
      clear o0 k0 HO HL V0 hg1
      go_wp2
      refine bodyPost_ret (v := .agg #[.slice (some ⟨g1, 0, none⟩) m1 cap1]) (by simp [results, Tryz.results224, go_sem, e0]) rfl ?_
      exact ⟨g1, m1, cap1, ys, rfl, hyl, by omega, HY.out, HF.out, HS.out, G.out⟩
theorem wrap_u8' (c : UInt8) : IntKind.u8.wrap (c.toNat : Int) = (c.toNat : Int) := by
  have := c.toNat_lt
  rw [IntKind.wrap_u8]
  omega
theorem conv_two (W : World) (x y : UInt8) : (convert 22 9 (.slice (some ⟨W.heap.size, 0, none⟩) 2 2)).run Tryz.prog (W.alloc (.cells #[.int .u8 (x.toNat : Int), .int .u8 (y.toNat : Int)] 5)) = .ok (.string (mkB [x, y])) (W.alloc (.cells #[.int .u8 (x.toNat : Int), .int .u8 (y.toNat : Int)] 5)) := by
  refine bytes_str rfl fun j hj => ?_
  rw [Go.Addr.add_lit, Nat.zero_add]
  rcases (show j = 0 ∨ j = 1 by simp at hj; omega) with rfl | rfl
  · exact cell_new0 W _ _ rfl
  · exact cell_new0 W _ _ rfl
set_option maxRecDepth 100000 in
set_option maxHeartbeats 4000000 in
theorem l05Full_any (n : Nat) (w : World) (hn : n ≤ 202) : Calls Tryz.prog 225 #[.int .i64 n] w (ListOut w.heap.size 202 w) := by
  obtain ⟨i0, hi0, hi1, hi2, hi3⟩ := info_parts infoTx
  have hb : Below w.heap.size w (w.alloc (.cells #[] 9)) := (Below.refl _ _).alloc (Nat.le_refl _) _
  have HO : Hid ((w.alloc (.cells #[] 9)).ownsRow w.heap.size 9 1 (.slice (some ⟨w.heap.size, 0, none⟩) 0 0) 0 ([].flatMap Tx.enc)) := Lib.hid (own_empty w 9)
  go_enter Tryz.func225, Tryz.ntmps225
  go_upto_region 2 with fail
  generalize w.alloc (.cells #[] 9) = w1 at *
  go_wp2_with fail
  go_loopw [3, 4] (fun ov iv wr => ∃ (i g cap : Nat) (ys : List ByteArray), i ≤ n ∧ iv = .int .i64 i ∧ ov = .slice (some ⟨g, 0, none⟩) i cap ∧ ys.length = i ∧ Hid (∀ x ∈ ys, x.size ≤ 20) ∧ Hid (wr.ownsRow w.heap.size 9 1 (.slice (some ⟨g, 0, none⟩) i cap) i (ys.flatMap Tx.enc)) ∧ Below w.heap.size w wr) (fun _ iv _ => n - (intOf iv).toNat)
  case atStart => exact ⟨0, w.heap.size, 0, [], Nat.zero_le _, rfl, rfl, rfl, Lib.hid (fun x hx => by cases hx), HO, hb⟩
  case round =>
    clear HO hb
    obtain ⟨i, g, cap, ys, hi, rfl, rfl, hyl, HY, HO, hb⟩ := hrel
    by_cases hlt : i < n
    · have hiI : (i : Int) < (n : Int) := by omega
      obtain ⟨c, hc⟩ : ∃ c : UInt8, (c.toNat : Int) = 97 + (i : Int) / 26 := ⟨UInt8.ofNat (97 + i / 26), by simp; omega⟩
      obtain ⟨d, hd⟩ : ∃ d : UInt8, (d.toNat : Int) = 97 + (i : Int) % 26 := ⟨UInt8.ofNat (97 + i % 26), by simp; omega⟩
      have t1 : (i : Int).tdiv 26 = (i : Int) / 26 := Int.tdiv_eq_ediv_of_nonneg (by omega)
      have t2 : (i : Int).tmod 26 = (i : Int) % 26 := Int.tmod_eq_emod_of_nonneg (by omega)
      have e1 : IntKind.i64.wrap ((i : Int) / 26) = (i : Int) / 26 := IntWalk.i64_in _ (by omega)
      have e2 : IntKind.i64.wrap (97 + (i : Int) / 26) = (c.toNat : Int) := by rw [hc]; exact IntWalk.i64_in _ (by omega)
      have e3 : IntKind.i64.wrap (97 + (i : Int) % 26) = (d.toNat : Int) := by rw [hd]; exact IntWalk.i64_in _ (by omega)
      have e4 : IntKind.u8.wrap (c.toNat : Int) = (c.toNat : Int) := wrap_u8' c
      have e5 : IntKind.u8.wrap (d.toNat : Int) = (d.toNat : Int) := wrap_u8' d
      have hcv := conv_two wr c d
      have hx : Below wr.heap.size wr ((wr.alloc (.cells #[.int .u8 (c.toNat : Int), .int .u8 (d.toNat : Int)] 5)).alloc (.cells #[.string (mkB [c, d])] 9)) := ((Below.refl _ _).alloc (Nat.le_refl _) _).alloc (by simp) _
      have KN : Hid (∀ j u, (Tx.enc (mkB [c, d]))[j]? = some u → ((wr.alloc (.cells #[.int .u8 (c.toNat : Int), .int .u8 (d.toNat : Int)] 5)).alloc (.cells #[.string (mkB [c, d])] 9)).cell? ((⟨wr.heap.size + 1, 0, none⟩ : Addr).add j) = some u) := Lib.hid (by
        have := new_tx (wr.alloc (.cells #[.int .u8 (c.toNat : Int), .int .u8 (d.toNat : Int)] 5)) (mkB [c, d]) 9
        simp only [World.size_alloc] at this
        exact this)
      have hz := hb.size
      replace HO := Lib.hid (own_below HO.out hx)
      replace hb := hb.trans (hx.mono hb.size)
      have hcd : (mkB [c, d]).size ≤ 20 := by rw [mkB_size]; exact (show 2 ≤ 20 by decide)
      clear hx hc hd
      go_wp2_with (at_builtin; go_must (refine wpList_append_own _ rfl (.tmp 11) (.tmp 22) 26 rfl w.heap.size 9 i0 _ 1 16 Tryz.underlying26 hi0 hi1 hi2 hi3 rfl (by decide) _ i (ys.flatMap Tx.enc) (by rfl) HO.out ⟨wr.heap.size + 1, 0, none⟩ 1 1 (Tx.enc (mkB [c, d])) (by rfl) rfl KN.out (tx_one _) ?c1 ?c2 ?c3 ?_))
      case c1 => unfold maxLen; omega
      case c2 => omega
      case c3 => (first | omega | (simp only [World.size_alloc]; omega))
      intro v7 w7 hown hgr hnil
      obtain ⟨g7, cap7, rfl, _⟩ := own_some hown (fun e => by have h := hnil; rw [e] at h; simp at h)
      replace hb := hb.grown hgr hb.size (fun q e => by have := (HO.out.lt q e).1; omega)
      have HO7 : Hid (w7.ownsRow w.heap.size 9 1 (.slice (some ⟨g7, 0, none⟩) (i + 1) cap7) (i + 1) ((ys ++ [mkB [c, d]]).flatMap Tx.enc)) := Lib.hid (by first | exact hown | simpa using hown)
      have HZ : Hid (∀ x ∈ ys ++ [mkB [c, d]], x.size ≤ 20) := Lib.hid (fun x hx => by
        simp only [List.mem_append, List.mem_singleton] at hx
        rcases hx with hx | rfl
        · exact HY.out x hx
        · exact hcd)
      clear hown hgr hnil KN HO HY hcv hcd t1 t2 e1 e2 e3 e4 e5
      go_wp2
      go_roundw
      case rel => exact ⟨i + 1, g7, cap7, ys ++ [mkB [c, d]], by omega, by go_num, rfl, by rw [List.length_append, hyl]; rfl, HZ, HO7, hb⟩
      case measure => simp [intOf]; omega
    · obtain rfl : i = n := by omega
      go_wp2
      go_ret
      exact ⟨g, i, cap, ys, rfl, hyl, by omega, HY.out, HO.out, hb⟩
def bentWords : List ByteArray := [⟨#[97]⟩, ⟨#[97, 110]⟩, ⟨#[122, 111, 111]⟩, ⟨#[90, 111, 111]⟩, ⟨#[122, 122, 122, 122, 122, 122, 122, 122, 122, 122, 122, 122, 122]⟩]
theorem bent_short : ∀ x ∈ bentWords, x.size ≤ 20 := by
  have : bentWords.all (fun x => decide (x.size ≤ 20)) = true := by rfl
  intro x hx
  exact of_decide_eq_true (List.all_eq_true.1 this x hx)
set_option maxRecDepth 100000 in
set_option maxHeartbeats 4000000 in
theorem l05Bent_any (N b k : Nat) (w : World) (hs : SrcAt w N b k) (hk : k < 268435456) (hN : N ≤ w.heap.size) :
    Calls Tryz.prog 147 #[.pointer (some ⟨b, 0, none⟩)] w (LexDrawn 202 w N b (k + 60)) := by
  obtain ⟨i0, hi0, hi1, hi2, hi3⟩ := info_parts infoTx
  have hbN := hs.lt
  have hb : Below w.heap.size w (w.alloc (.cells #[.slice none 0 0] 28)) := (Below.refl _ _).alloc (Nat.le_refl _) _
  have HS := Lib.hid (hs.kept hb)
  have G := Lib.hid (grown_of_below (row := some b) hb)
  have V2 := Lib.hid (VarAt.new w 28 [.slice none 0 0])
  clear hs hb
  go_enter Tryz.func147, Tryz.ntmps147
  go_upto_region 1 with fail
  have hz1 : w.heap.size + 1 ≤ (w.alloc (.cells #[.slice none 0 0] 28)).heap.size := by simp
  generalize w.alloc (.cells #[.slice none 0 0] 28) = w1 at *
  go_wp2_with fail
  refine (l05Draw_any N b _ w1 HS.out (by omega) (by omega)).mono ?_
  rintro e w2 ⟨g, m, cap, ys, rfl, hl, hm, hy, ho, s2, g2⟩
  replace V2 := Lib.hid (V2.out.grown g2 (by simp; omega))
  have hg1 := (ho.lt g rfl).1
  have hg2 := (ho.lt g rfl).2
  have HO := Lib.hid (own_mono ho hz1)
  replace HS := Lib.hid s2
  have hz2 := g2.size
  replace G := Lib.hid (grownBy_trans G.out g2)
  have hx : Below w2.heap.size w2 (w2.alloc (.cells #[.slice (some ⟨g, 0, none⟩) m cap] 28)) := (Below.refl _ _).alloc (Nat.le_refl _) _
  have V3 := Lib.hid (VarAt.new w2 28 [.slice (some ⟨g, 0, none⟩) m cap])
  replace V2 := Lib.hid (V2.out.kept hx)
  replace HO := Lib.hid (own_below HO.out hx)
  replace HS := Lib.hid (HS.out.kept hx)
  replace G := Lib.hid (grown_below G.out hx)
  have hz3 : w.heap.size + 1 ≤ w2.heap.size := by omega
  clear hx ho s2 g2
  go_upto_region 2 with fail
  generalize w2.alloc (.cells #[.slice (some ⟨g, 0, none⟩) m cap] 28) = w3 at *
  generalize w2.heap.size = B3 at *
  have HY := Lib.hid hy
  have hgw : w.heap.size + 1 ≤ g := by omega
  clear hy hg1
  go_wp2_with fail
  refine (pick_any 20 N b _ _ HS.out (by omega)).mono ?_
  rintro e w4 ⟨x, ⟨x0, x1, _, _⟩, rfl, s4, g4⟩
  have x2 := x1 (by decide)
  replace V2 := Lib.hid (V2.out.grown g4 (by simp; omega))
  replace V3 := Lib.hid (V3.out.grown g4 (by simp; omega))
  replace HO := Lib.hid (own_aside HO.out g4 (by first | omega | (dsimp only; omega)))
  replace HS := Lib.hid s4
  replace G := Lib.hid (grownBy_trans G.out g4)
  clear g4 s4
  clear x1
  by_cases h0 : x = 0
  · subst h0
    go_upto_region 4 with fail
    have hd : Below w4.heap.size w4 w4.drew := (Below.refl _ _).drew
    replace V2 := Lib.hid (V2.out.kept hd)
    replace V3 := Lib.hid (V3.out.kept hd)
    replace HO := Lib.hid (own_below HO.out hd)
    replace HS := Lib.hid (HS.out.kept hd)
    replace G := Lib.hid (grown_below G.out hd)
    clear hd
    refine wp_region_G 6 (fun W => W.cell? ⟨B3, 0, none⟩ = some (.slice (some ⟨g, 0, none⟩) m cap)) (by kernel_rfl) (V3.out.cell (i := 0) rfl) (fun hHeld => ?_)
    clear hHeld
    generalize w4.drew = w6 at *
    refine slotG 0 10 (.pointer (some ⟨B3, 0, none⟩)) ?_ (hS := fun _ => V3.out.cell (i := 0) rfl)
    simp only [S3]
    refine slotL 1 11 (.slice (some ⟨g, 0, none⟩) m cap) ?_ (hw := waitsFor_of (by kernel_rfl)) (hq := by kernel_rfl) (hS := V3.out.cell (i := 0) rfl) (hy := Or.inl ⟨by rfl, fun w' hS => by have c9 : w'.cell? ⟨B3, 0, none⟩ = some (.slice (some ⟨g, 0, none⟩) m cap) := hS; go_simp⟩)
    simp only [S3]
    refine slotG 2 12 (.pointer (some ⟨b, 0, none⟩)) ?_ (hS := fun _ => V3.out.cell (i := 0) rfl)
    simp only [S3]
    refine oneG 3 (by kernel_rfl) rfl (fun K hK => ?_)
    have hx : Below w6.heap.size w6 (w6.alloc (.cells (bentWords.flatMap Str.enc).toArray 9)) := (Below.refl _ _).alloc (Nat.le_refl _) _
    have HC := Lib.hid (cells_new (enc := Str.enc) (sz := 1) (fun _ => rfl) w6 bentWords 9)
    have hlt6 := V3.out.lt
    replace V2 := Lib.hid (V2.out.kept hx)
    replace V3 := Lib.hid (V3.out.kept hx)
    replace HO := Lib.hid (own_below HO.out hx)
    replace HS := Lib.hid (HS.out.kept hx)
    replace G := Lib.hid (grown_below G.out hx)
    clear hx
    go_simp
    refine hK.out _ _ (fun _ => V3.out.cell (i := 0) rfl) (fun hHeld => ?_)
    clear hK K hHeld
    refine oneG 4 (by kernel_rfl) rfl (fun K hK => ?_)
    go_simp
    refine (text_any bentWords w6.heap.size 5 N b _ _ HS.out (by omega) HC.out (by decide) (by decide) (by omega)).mono ?_
    rintro e w7 ⟨y, hyx, rfl, s7, g7⟩
    replace V2 := Lib.hid (V2.out.grown g7 (by simp; omega))
    replace V3 := Lib.hid (V3.out.grown g7 (by simp; omega))
    replace HO := Lib.hid (own_aside HO.out g7 (by first | omega | (dsimp only; omega)))
    replace HS := Lib.hid s7
    replace G := Lib.hid (grownBy_trans G.out g7)
    clear g7 s7
    have hys := bent_short y hyx
    clear hyx HC
    go_wp2_with fail
    refine hK.out _ _ (fun _ => V3.out.cell (i := 0) rfl) (fun hHeld => ?_)
    clear hK K hHeld
    refine oneG 5 (by kernel_rfl) rfl (fun K hK => ?_)
    have hx : Below w7.heap.size w7 (w7.alloc (.cells #[.string y] 9)) := (Below.refl _ _).alloc (Nat.le_refl _) _
    have KN := Lib.hid (new_tx w7 y 9)
    have hlt7 := V3.out.lt
    have hz7 := G.out.size
    replace V2 := Lib.hid (V2.out.kept hx)
    replace V3 := Lib.hid (V3.out.kept hx)
    replace HO := Lib.hid (own_below HO.out hx)
    replace HS := Lib.hid (HS.out.kept hx)
    replace G := Lib.hid (grown_below G.out hx)
    clear hx
    go_simp
    refine hK.out _ _ (fun _ => V3.out.cell (i := 0) rfl) (fun hHeld => ?_)
    clear hK K hHeld
    refine oneG 6 (by kernel_rfl) rfl (fun K hK => ?_)
    refine step_append_lies _ rfl (.tmp 11) (.tmp 15) 26 rfl (w.heap.size + 1) 9 i0 _ 1 16 Tryz.underlying26 hi0 hi1 hi2 hi3 rfl (by decide) _ m (ys.flatMap Tx.enc) (by rfl) HO.out ⟨w7.heap.size, 0, none⟩ 1 1 (Tx.enc y) (by rfl) rfl KN.out (tx_one y) (by decide) ?c1 ?c2 ?c3 _ rfl ?_
    case c1 => unfold maxLen; omega
    case c2 => omega
    case c3 => (first | omega | (simp only [World.size_alloc]; omega))
    intro g8 cap8 w8 hown hgr hwh hlt8
    have hg8 := (World.ownsRow.lt hown g8 rfl).1
    have hy8 : ∀ x ∈ ys ++ [y], x.size ≤ 20 := by
      intro x hx
      simp only [List.mem_append, List.mem_singleton] at hx
      rcases hx with hx | rfl
      · exact HY.out x hx
      · exact hys
    have HZ := Lib.hid hy8
    have HL8 : (ys ++ [y]).length = m + 1 := by rw [List.length_append, hl]; rfl
    replace V2 := Lib.hid (V2.out.grown hgr (by intro e; have e9 : w.heap.size = g := Option.some.inj e; omega))
    replace V3 := Lib.hid (V3.out.grown hgr (by intro e; have e9 : B3 = g := Option.some.inj e; omega))
    replace HS := Lib.hid (HS.out.grown hgr (fun g' e => by have e9 : g = g' := Option.some.inj e; omega))
    replace G := Lib.hid (grown_over G.out (show _ from hgr) (show w.heap.size ≤ g by omega))
    replace HO : Hid (w8.ownsRow (w.heap.size + 1) 9 1 (.slice (some ⟨g8, 0, none⟩) (m + 1) cap8) (m + 1) ((ys ++ [y]).flatMap Tx.enc)) := Lib.hid (by rw [snoc_flat Tx.enc]; exact hown)
    have hg9 : g8 ≠ B3 := by
      rcases hwh with h | h
      · have e9 : g = g8 := Option.some.inj h
        omega
      · try simp only [World.size_alloc] at h
        omega
    clear hwh hown hgr hlt8 KN HY hy8 hz7 hlt7 hlt6
    go_simp
    refine hK.out _ _ (fun h => absurd h (by decide)) (fun hHeld => ?_)
    clear hK K hHeld
    refine slotG 7 17 (.pointer (some ⟨B3, 0, none⟩)) ?_ (hS := fun h => absurd h (by decide))
    simp only [S3]
    refine oneG 8 (by kernel_rfl) rfl (fun K hK => ?_)
    have y0 := V3.out.cell (i := 0) rfl
    have g0 := V3.out.free 0
    obtain ⟨o9, k9⟩ := V3.out.set 0 (.slice (some ⟨g8, 0, none⟩) (m + 1) cap8)
    replace HS := Lib.hid (HS.out.grown k9 (fun g e => by simp at e; omega))
    replace G := Lib.hid (grown_over G.out k9 (by omega))
    replace V2 := Lib.hid (V2.out.grown k9 (by simp; omega))
    replace HO := Lib.hid (own_aside HO.out k9 (by first | omega | (dsimp only; omega)))
    replace V3 := Lib.hid o9
    clear o9 k9
    go_simp
    refine hK.out _ _ (fun h => absurd h (by decide)) (fun hHeld => ?_)
    clear hK K hHeld y0 g0
    generalize World.setCell w8 ⟨B3, 0, none⟩ _ = w9 at *
    refine doneG (by kernel_rfl) ?_ _
    go_upto_region 7 with fail
    have c3 := V3.out.cell (i := 0) (v := .slice (some ⟨g8, 0, none⟩) (m + 1) cap8) rfl
    have y0 := V2.out.cell (i := 0) rfl
    have f0 := V2.out.free 0
    obtain ⟨o0, k0⟩ := V2.out.set 0 (.slice (some ⟨g8, 0, none⟩) (m + 1) cap8)
    have hg1 := (HO.out.lt g8 rfl).1
    have e0 := o0.cell (i := 0) (v := .slice (some ⟨g8, 0, none⟩) (m + 1) cap8) rfl
    have HF := Lib.hid (own_mono (own_aside HO.out k0 (by first | omega | (dsimp only; omega))) (show w.heap.size ≤ w.heap.size + 1 by omega))
    replace HS := Lib.hid ((HS.out.grown k0 (fun g e => by cases e; exact hN)).mono (Nat.le_refl _) (show _ ≤ k + 60 by omega))
    replace G := Lib.hid (grown_over G.out k0 (Nat.le_refl _))
    clear o0 k0 HO V2 V3 hg1
    go_wp2
    refine bodyPost_ret (v := .agg #[.slice (some ⟨g8, 0, none⟩) (m + 1) cap8]) (by simp [results, Tryz.results147, go_sem, e0]) rfl ?_
    exact ⟨g8, (m + 1), cap8, ys ++ [y], rfl, HL8, (by omega), HZ.out, HF.out, HS.out, G.out⟩
  · by_cases h1 : x = 1
    · subst h1
      go_wp2_with fail
      refine (pick_any 2 N b _ _ HS.out (by omega)).mono ?_
      rintro e w5 ⟨y, ⟨y0, y1, _, _⟩, rfl, s5, g5⟩
      have y2 := y1 (by decide)
      replace V2 := Lib.hid (V2.out.grown g5 (by simp; omega))
      replace V3 := Lib.hid (V3.out.grown g5 (by simp; omega))
      replace HO := Lib.hid (own_aside HO.out g5 (by first | omega | (dsimp only; omega)))
      replace HS := Lib.hid s5
      replace G := Lib.hid (grownBy_trans G.out g5)
      clear g5 s5
      clear y1
      obtain ⟨n, hn⟩ : ∃ n : Nat, 200 + y = n := ⟨(200 + y).toNat, by omega⟩
      have wn : IntKind.i64.wrap (200 + y) = (n : Int) := by rw [hn]; exact IntWalk.i64_in _ (by omega)
      have hlt5 := V3.out.lt
      have hz5 := G.out.size
      go_wp2_with fail
      refine (l05Full_any n _ (by omega)).mono ?_
      rintro e w6 ⟨g6, m6, cap6, zs, rfl, hzl, hm6, hz6, ho6, hd⟩
      have hg6 := (ho6.lt g6 rfl).1
      replace V2 := Lib.hid (V2.out.kept hd)
      replace V3 := Lib.hid (V3.out.kept hd)
      replace HO := Lib.hid (own_below HO.out hd)
      replace HS := Lib.hid (HS.out.kept hd)
      replace G := Lib.hid (grown_below G.out hd)
      clear hd
      have y0 := V3.out.cell (i := 0) rfl
      have g0 := V3.out.free 0
      obtain ⟨o9, k9⟩ := V3.out.set 0 (.slice (some ⟨g6, 0, none⟩) m6 cap6)
      replace HS := Lib.hid (HS.out.grown k9 (fun g e => by simp at e; omega))
      replace G := Lib.hid (grown_over G.out k9 (by omega))
      replace V2 := Lib.hid (V2.out.grown k9 (by simp; omega))
      replace HO := Lib.hid (own_mono (own_aside ho6 k9 (by first | omega | (dsimp only; omega))) (show w.heap.size + 1 ≤ _ by omega))
      replace V3 := Lib.hid o9
      clear o9 k9 ho6 HY
      have HZ := Lib.hid hz6
      clear hz6
      go_upto_region 7 with fail
      clear y0 g0
      generalize World.setCell _ ⟨B3, 0, none⟩ _ = w9 at *
      have c3 := V3.out.cell (i := 0) (v := .slice (some ⟨g6, 0, none⟩) m6 cap6) rfl
      have y0 := V2.out.cell (i := 0) rfl
      have f0 := V2.out.free 0
      obtain ⟨o0, k0⟩ := V2.out.set 0 (.slice (some ⟨g6, 0, none⟩) m6 cap6)
      have hg1 := (HO.out.lt g6 rfl).1
      have e0 := o0.cell (i := 0) (v := .slice (some ⟨g6, 0, none⟩) m6 cap6) rfl
      have HF := Lib.hid (own_mono (own_aside HO.out k0 (by first | omega | (dsimp only; omega))) (show w.heap.size ≤ w.heap.size + 1 by omega))
      replace HS := Lib.hid ((HS.out.grown k0 (fun g e => by cases e; exact hN)).mono (Nat.le_refl _) (show _ ≤ k + 60 by omega))
      replace G := Lib.hid (grown_over G.out k0 (Nat.le_refl _))
      clear o0 k0 HO V2 V3 hg1
      go_wp2
      refine bodyPost_ret (v := .agg #[.slice (some ⟨g6, 0, none⟩) m6 cap6]) (by simp [results, Tryz.results147, go_sem, e0]) rfl ?_
      exact ⟨g6, m6, cap6, zs, rfl, hzl, (by omega), HZ.out, HF.out, HS.out, G.out⟩
    · go_upto_region 7 with fail
      have c3 := V3.out.cell (i := 0) (v := .slice (some ⟨g, 0, none⟩) m cap) rfl
      have y0 := V2.out.cell (i := 0) rfl
      have f0 := V2.out.free 0
      obtain ⟨o0, k0⟩ := V2.out.set 0 (.slice (some ⟨g, 0, none⟩) m cap)
      have hg1 := (HO.out.lt g rfl).1
      have e0 := o0.cell (i := 0) (v := .slice (some ⟨g, 0, none⟩) m cap) rfl
      have HF := Lib.hid (own_mono (own_aside HO.out k0 (by first | omega | (dsimp only; omega))) (show w.heap.size ≤ w.heap.size + 1 by omega))
      replace HS := Lib.hid ((HS.out.grown k0 (fun g e => by cases e; exact hN)).mono (Nat.le_refl _) (show _ ≤ k + 60 by omega))
      replace G := Lib.hid (grown_over G.out k0 (Nat.le_refl _))
      clear o0 k0 HO V2 V3 hg1
      go_wp2
      refine bodyPost_ret (v := .agg #[.slice (some ⟨g, 0, none⟩) m cap]) (by simp [results, Tryz.results147, go_sem, e0]) rfl ?_
      exact ⟨g, m, cap, ys, rfl, hl, (by omega), HY.out, HF.out, HS.out, G.out⟩
end Go.Proofs.YtjdcdhhbgijaoaaGreatDoor
