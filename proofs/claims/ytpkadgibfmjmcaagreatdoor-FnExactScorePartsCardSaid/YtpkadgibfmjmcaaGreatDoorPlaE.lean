/- Contracts: the reference's words that a play forms. For valid plays on valid boards. -/
import Derived.Test.YtpkadgibfmjmcaaGreatDoorPlaD
import Derived.Test.YtpkadgibfmjmcaaGreatDoorTx
namespace Go.Proofs.YtpkadgibfmjmcaaGreatDoor
open Go.ChangeShapes Go.WideShapes Go.ChangeAt Go.RowKit Go.Sort

/-- the words that the first offsets form -/
def formB (F : Fl) (R C : Int) (s : ByteArray) (is : List Nat) : List ByteArray := s :: (acrossL F R C s.data.toList is).map mkB
theorem formB_yes {F : Fl} {R C : Int} {s : ByteArray} {is : List Nat} {i : Nat} (h : 1 < (crossW F R (C + i) (s.data.toList.getD i 0)).length) : formB F R C s (is ++ [i]) = formB F R C s is ++ [mkB (crossW F R (C + i) (s.data.toList.getD i 0))] := by
  unfold formB
  rw [acrossL_snoc, if_pos h, List.map_append]
  rfl
theorem formB_no {F : Fl} {R C : Int} {s : ByteArray} {is : List Nat} {i : Nat} (h : ¬ 1 < (crossW F R (C + i) (s.data.toList.getD i 0)).length) : formB F R C s (is ++ [i]) = formB F R C s is := by
  unfold formB
  rw [acrossL_snoc, if_neg h, List.append_nil]
theorem formB_len (F : Fl) (R C : Int) (s : ByteArray) (is : List Nat) : (formB F R C s is).length ≤ is.length + 1 := by
  unfold formB
  have := acrossL_len F R C s.data.toList is
  simp only [List.length_cons, List.length_map]
  omega
theorem formB_size {F : Fl} {R C : Int} {s : ByteArray} {is : List Nat} (hs : s.size ≤ 12) : ∀ x ∈ formB F R C s is, x.size ≤ 33 := by
  intro x hx
  unfold formB at hx
  cases hx with
  | head => omega
  | tail _ hx =>
    obtain ⟨l, hl, rfl⟩ := List.mem_map.1 hx
    unfold acrossL at hl
    obtain ⟨i, _, rfl⟩ := List.mem_map.1 (List.mem_filter.1 hl).1
    rw [mkB_size]
    exact crossW_len _ _ _ _
theorem take_nat {fr : List Nat} {k : Nat} (h : k < fr.length) {i : Nat} (hi : fr[k] = i) : fr.take (k + 1) = fr.take k ++ [i] := by
  rw [List.take_succ_eq_append_getElem h, hi]
theorem row_nat {w : World} {base gf cap : Nat} {fr : List Nat} {n : Nat} (h : w.ownsRow base 2 1 (.slice (some ⟨gf, 0, none⟩) n cap) n (fr.flatMap N64.enc)) {k : Nat} (hk : k < fr.length) {i : Nat} (hi : fr[k] = i) : w.cell? ⟨gf, k, none⟩ = some (.int .i64 (i : Int)) := by
  have h1 := own_news0 h k (.int .i64 (i : Int)) (by
    have := flatMap_get (enc := N64.enc) (sz := 1) N64.enc_len fr hk (j := 0) (by omega)
    rw [Nat.mul_one, Nat.add_zero] at this
    rw [this, hi]
    rfl)
  rwa [Go.Addr.add_lit, Nat.zero_add] at h1
theorem row_txt {w : World} {base gf cap : Nat} {xs : List ByteArray} {n : Nat} (h : w.ownsRow base 9 1 (.slice (some ⟨gf, 0, none⟩) n cap) n (xs.flatMap Tx.enc)) {k : Nat} (hk : k < xs.length) : w.cell? ⟨gf, k, none⟩ = some (.string xs[k]) := by
  have h1 := own_news0 h k (.string xs[k]) (by
    have := flatMap_get (enc := Tx.enc) (sz := 1) Tx.enc_len xs hk (j := 0) (by omega)
    rw [Nat.mul_one, Nat.add_zero] at this
    rw [this]
    rfl)
  rwa [Go.Addr.add_lit, Nat.zero_add] at h1
theorem own_new_tx (w : World) (s : ByteArray) (t : TypeId) (base : Nat) (hb : base ≤ w.heap.size) : (w.alloc (.cells #[.string s] t)).ownsRow base t 1 (.slice (some ⟨w.heap.size, 0, none⟩) 1 1) 1 [.string s] :=
  ⟨by simp, .inr ⟨w.heap.size, 1, #[.string s], rfl, hb, heap_alloc_new w _, Nat.le_refl _, by unfold maxLen; omega, by simp, by simp⟩⟩
set_option maxRecDepth 100000 in
set_option maxHeartbeats 4000000 in
theorem l12Formed_any (f : Brd) (n : Nat) (row col : Int) (down : Bool) (s : ByteArray) (g o : Nat) (w : World) (hb0 : f.Good n) (hg : BAt w g o f) (hs : s.size ≤ 12) (hr0 : 0 ≤ row) (hr1 : row < n) (hc0 : 0 ≤ col) (hc1 : col + s.size ≤ n) :
    Calls Tryz.prog 173 #[.pointer (some ⟨g, o, none⟩), .agg #[.int .i64 row, .int .i64 col, .bool down, .string s]] w (TextsPost w (formB f.cell row col s (freshL f.cell row col s.size))) := by
  obtain ⟨i0, hi0, hi1, hi2, hi3⟩ := info_parts infoTx
  have hlt := hg.lt
  have hn15 := hb0.hi
  obtain ⟨w2, hw2⟩ : ∃ w2, w2 = (w.alloc (.cells #[.int .i64 row, .int .i64 col, .bool down, .string s] 38)).alloc (.cells #[.string s] 9) := ⟨_, rfl⟩
  have hb : Below w.heap.size w w2 := by rw [hw2]; exact ((Below.refl _ _).alloc (Nat.le_refl _) _).alloc (by simp) _
  have V0 : Hid (VarAt w2 w.heap.size 38 [.int .i64 row, .int .i64 col, .bool down, .string s]) := by
    rw [hw2]
    exact Lib.hid ((VarAt.new w 38 [.int .i64 row, .int .i64 col, .bool down, .string s]).kept ((Below.refl _ _).alloc (Nat.le_refl _) _))
  have HG : Hid (BAt w2 g o f) := by
    rw [hw2]
    exact Lib.hid ((hg.kept ((Below.refl _ _).alloc (Nat.le_refl _) _)).kept ((Below.refl _ _).alloc (Nat.le_refl _) _))
  have HO : Hid (w2.ownsRow (w.heap.size + 1) 9 1 (.slice (some ⟨w.heap.size + 1, 0, none⟩) 1 1) 1 ((formB f.cell row col s []).flatMap Tx.enc)) := by
    rw [hw2]
    have := own_new_tx (w.alloc (.cells #[.int .i64 row, .int .i64 col, .bool down, .string s] 38)) s 9 (w.heap.size + 1) (by simp)
    simp only [World.size_alloc] at this
    exact Lib.hid this
  have HFR : Hid (∀ W, BAt W g o f → Calls Tryz.prog 96 #[.pointer (some ⟨g, o, none⟩), .agg #[.int .i64 row, .int .i64 col, .bool down, .string s]] W (NatsPost W (freshL f.cell row col s.size))) := Lib.hid (fun W h => l12Fresh_any f n row col down s g o W hb0 h hs hr0 hr1 hc0 hc1)
  have HCR : Hid (∀ c' (x : UInt8) W, BAt W g o f → Calls Tryz.prog 97 #[.pointer (some ⟨g, o, none⟩), .int .i64 row, .int .i64 c', .int .u8 (x.toNat : Int)] W fun e w' => (∃ z : Int, e = .returned (.tuple #[.string (mkB (crossW f.cell row c' x)), .int .i64 z])) ∧ Below W.heap.size W w') := Lib.hid (fun c' x W h => l12Cross_any f n row c' x g o W hb0 h hr0 hr1)
  have HLT : Hid (∀ i ∈ freshL f.cell row col s.size, i < s.size) := Lib.hid (fun i h => (freshL_lt h).1)
  have hfl := freshL_len f.cell row col s.size
  have HYES := Lib.hid (fun is i h => formB_yes (F := f.cell) (R := row) (C := col) (s := s) (is := is) (i := i) h)
  have HNO := Lib.hid (fun is i h => formB_no (F := f.cell) (R := row) (C := col) (s := s) (is := is) (i := i) h)
  have HFB := Lib.hid (formB_len f.cell row col s)
  have HW2 := Lib.hid hw2
  clear hw2 hg hb0
  generalize freshL f.cell row col s.size = fr at *
  go_enter Tryz.func173, Tryz.ntmps173
  go_upto_region 2 with fail
  rw [← HW2.out]
  clear HW2
  have c0 := V0.out.cell (i := 0) rfl
  have c1 := V0.out.cell (i := 1) rfl
  have c2 := V0.out.cell (i := 2) rfl
  have c3 := V0.out.cell (i := 3) rfl
  go_wp2_with fail
  refine (HFR.out _ HG.out).mono ?_
  rintro e w3 ⟨gf, cf, rfl, hx0, hd⟩
  have hgf := (hx0.lt gf rfl).1
  have hgo : w.heap.size + 1 < w2.heap.size := (HO.out.lt _ rfl).2
  have HX := Lib.hid (own_mono hx0 (show w.heap.size + 1 ≤ _ by omega))
  clear hx0 c0 c1 c2 c3
  replace hb := hb.trans (hd.mono hb.size)
  replace HO := Lib.hid (own_below HO.out hd)
  replace V0 := Lib.hid (V0.out.kept hd)
  replace HG := Lib.hid (HG.out.kept hd)
  clear hd
  generalize hfrl : fr.length = m at *
  go_wp2_with fail
  go_loopw [5, 7] (fun ov iv wr => ∃ (k g1 cap ny : Nat), k ≤ m ∧ iv = .int .i64 k ∧ ov = .slice (some ⟨g1, 0, none⟩) ny cap ∧ Hid ((formB f.cell row col s (fr.take k)).length = ny) ∧ g1 ≠ gf ∧ gf < wr.heap.size ∧ Hid (wr.ownsRow (w.heap.size + 1) 9 1 (.slice (some ⟨g1, 0, none⟩) ny cap) ny ((formB f.cell row col s (fr.take k)).flatMap Tx.enc)) ∧ Hid (wr.ownsRow (w.heap.size + 1) 2 1 (.slice (some ⟨gf, 0, none⟩) m cf) m (fr.flatMap N64.enc)) ∧ Hid (BAt wr g o f) ∧ Hid (VarAt wr w.heap.size 38 [.int .i64 row, .int .i64 col, .bool down, .string s]) ∧ Below w.heap.size w wr) (fun _ iv _ => m - (intOf iv).toNat)
  case atStart => exact ⟨0, _, 1, 1, Nat.zero_le _, rfl, rfl, Lib.hid rfl, by omega, (HX.out.lt gf rfl).2, HO, HX, HG, V0, hb⟩
  case round =>
    clear HO HX HG V0 hb
    obtain ⟨k, g1, cap, ny, hk, rfl, rfl, HNY, hne, hgw, HO, HX, HG, V0, hb⟩ := hrel
    have hz2 := V0.out.lt
    by_cases hkm : k < m
    · obtain ⟨i, hi⟩ : ∃ i, i = fr[k]'(by omega) := ⟨_, rfl⟩
      have hkf : k < fr.length := by omega
      have HTK := Lib.hid (take_nat hkf hi.symm)
      have his : i < s.size := by rw [hi]; exact HLT.out _ (List.getElem_mem _)
      have HCL := Lib.hid (fun (W : World) (h : W.ownsRow (w.heap.size + 1) 2 1 (.slice (some ⟨gf, 0, none⟩) m cf) m (fr.flatMap N64.enc)) => row_nat h hkf hi.symm)
      have HGDX := Lib.hid (getD_byt his)
      have HY2 := Lib.hid (fun h => HYES.out (fr.take k) i h)
      have HN2 := Lib.hid (fun h => HNO.out (fr.take k) i h)
      rw [HGDX.out] at HY2 HN2
      have hfb := HFB.out (fr.take k)
      have hny : ny ≤ 13 := by
        have := HNY.out
        have h2 : (fr.take k).length ≤ k := by rw [List.length_take]; omega
        omega
      clear hi hkf HGDX hfb
      have wr1 : IntKind.i64.wrap (col + (i : Int)) = col + i := IntWalk.i64_in _ (by omega)
      have hii : (i : Int) < (s.size : Int) := by omega
      have hin0 : (0 : Int) ≤ (i : Int) := by omega
      go_upto_region 6 with fail
      have hd : Below wr.heap.size wr wr.drew := (Below.refl _ _).drew
      have hgw2 := Nat.lt_of_lt_of_le hgw hd.size
      replace hb := hb.trans (hd.mono hb.size)
      replace HO := Lib.hid (own_below HO.out hd)
      replace HX := Lib.hid (own_below HX.out hd)
      replace V0 := Lib.hid (V0.out.kept hd)
      replace HG := Lib.hid (HG.out.kept hd)
      clear hd
      go_region_held3 (fun w' => w'.cell? ⟨w.heap.size, 0, none⟩ = some (.int .i64 row) ∧ w'.cell? ⟨w.heap.size, 1, none⟩ = some (.int .i64 col) ∧ w'.cell? ⟨w.heap.size, 3, none⟩ = some (.string s) ∧ w'.cell? ⟨gf, k, none⟩ = some (.int .i64 (i : Int)))
        (exact ⟨V0.out.cell (i := 0) rfl, V0.out.cell (i := 1) rfl, V0.out.cell (i := 3) rfl, HCL.out _ HX.out⟩)
        ((go_at_call 97; refine (HCR.out (col + i) s[i] _ HG.out).mono ?_; rintro e wq ⟨⟨z, rfl⟩, hd⟩; replace HO := Lib.hid (own_below HO.out hd); replace HX := Lib.hid (own_below HX.out hd); replace V0 := Lib.hid (V0.out.kept hd); replace HG := Lib.hid (HG.out.kept hd); replace hgw2 := Nat.lt_of_lt_of_le hgw2 hd.size; replace hb := hb.trans (hd.mono hb.size); clear hd))
      generalize wq = wa at *
      have HSZ : Hid ((mkB (crossW f.cell row (col + i) s[i])).size = (crossW f.cell row (col + i) s[i]).length) := Lib.hid (mkB_size _)
      by_cases hl : 1 < (crossW f.cell row (col + i) s[i]).length
      · have HFE := Lib.hid (HY2.out hl)
        have hsz : 1 < (mkB (crossW f.cell row (col + i) s[i])).size := by rw [HSZ.out]; exact hl
        clear hl HSZ HY2 HN2
        rw [← HTK.out] at HFE
        generalize mkB (crossW f.cell row (col + i) s[i]) = sw at *
        have hx : Below wa.heap.size wa (wa.alloc (.cells #[.string sw] 9)) := (Below.refl _ _).alloc (Nat.le_refl _) _
        have KN := Lib.hid (new_tx wa sw 9)
        have hz3 := V0.out.lt
        replace hb := hb.trans (hx.mono hb.size)
        replace HO := Lib.hid (own_below HO.out hx)
        replace HX := Lib.hid (own_below HX.out hx)
        replace V0 := Lib.hid (V0.out.kept hx)
        replace HG := Lib.hid (HG.out.kept hx)
        clear hx
        go_wp2_with (at_builtin; go_must (refine wpList_append_lies _ rfl (.tmp 46) (.tmp 48) 45 rfl (w.heap.size + 1) 9 i0 _ 1 16 Tryz.underlying45 hi0 hi1 hi2 hi3 rfl (by decide) _ ny ((formB f.cell row col s (fr.take k)).flatMap Tx.enc) (by rfl) HO.out ⟨wa.heap.size, 0, none⟩ 1 1 (Tx.enc sw) (by rfl) rfl KN.out (tx_one sw) (by decide) ?c1 ?c2 ?c3 _ rfl ?_))
        case c1 => unfold maxLen; omega
        case c2 => omega
        case c3 => (first | omega | (simp only [World.size_alloc]; omega))
        intro g7 cap7 w7 hown hgr hwh hlt7
        have hb7 := hb.grown hgr hb.size (fun q e => by have := (HO.out.lt q e).1; omega)
        have HNY7 : Hid ((formB f.cell row col s (fr.take (k + 1))).length = ny + 1) := Lib.hid (by rw [HFE.out, List.length_append, HNY.out]; rfl)
        have HO7 : Hid (w7.ownsRow (w.heap.size + 1) 9 1 (.slice (some ⟨g7, 0, none⟩) (ny + 1) cap7) (ny + 1) ((formB f.cell row col s (fr.take (k + 1))).flatMap Tx.enc)) := Lib.hid (by
          rw [HFE.out, snoc_flat Tx.enc]; exact hown)
        have hne7 : g7 ≠ gf := by
          rcases hwh with h | h
          · simp [Value.ownBlock] at h; omega
          · rw [h]; (first | omega | (simp only [World.size_alloc]; omega))
        have HX7 := Lib.hid (HX.out.kept hgr (.inr (by simp [Value.ownBlock]; omega)))
        have V7 := Lib.hid (V0.out.grown hgr (own_ne HO.out (by omega)))
        have HG7 := Lib.hid (HG.out.grown hgr (own_ne HO.out (by omega)))
        have hgw7 : gf < w7.heap.size := Nat.lt_of_lt_of_le (by (first | omega | (simp only [World.size_alloc]; omega))) hgr.size
        clear hown hgr hwh KN HO hb V0 HG HX
        go_wp2
        go_roundw
        case rel => exact ⟨k + 1, g7, cap7, ny + 1, by omega, by go_num, by go_num, HNY7, hne7, hgw7, HO7, HX7, HG7, V7, hb7⟩
        case measure => simp [intOf]; omega
      · have HFE := Lib.hid (HN2.out hl)
        have hsz : ¬ 1 < (mkB (crossW f.cell row (col + i) s[i])).size := by rw [HSZ.out]; exact hl
        clear hl HSZ HY2 HN2
        rw [← HTK.out] at HFE
        generalize mkB (crossW f.cell row (col + i) s[i]) = sw at *
        have HNY7 : Hid ((formB f.cell row col s (fr.take (k + 1))).length = ny) := Lib.hid (by rw [HFE.out, HNY.out])
        have HO7 : Hid (wa.ownsRow (w.heap.size + 1) 9 1 (.slice (some ⟨g1, 0, none⟩) ny cap) ny ((formB f.cell row col s (fr.take (k + 1))).flatMap Tx.enc)) := Lib.hid (by rw [HFE.out]; exact HO.out)
        clear HO
        go_wp2
        go_roundw
        case rel => exact ⟨k + 1, g1, cap, ny, by omega, by go_num, rfl, HNY7, hne, hgw2, HO7, HX, HG, V0, hb⟩
        case measure => simp [intOf]; omega
    · obtain rfl : k = m := by omega
      have hO := HO.out
      have hN := HNY.out
      rw [List.take_of_length_le (by omega)] at hO hN
      have HON := Lib.hid hO
      have HNN := Lib.hid hN
      clear hO hN HO HNY
      go_wp2
      go_ret
      exact ⟨g1, cap, by rw [HNN.out]; rfl, by rw [HNN.out]; exact own_mono HON.out (by omega), hb⟩
end Go.Proofs.YtpkadgibfmjmcaaGreatDoor
