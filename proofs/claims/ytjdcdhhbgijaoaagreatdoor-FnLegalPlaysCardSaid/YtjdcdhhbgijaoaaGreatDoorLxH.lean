/- Contracts: the reference's drawn piles, seldom not valid. Nothing is said of them but that · Contract: the reference's draw of what LegalPlay is asked. Nothing is said of it but that  · Contract: the reference's draw for LegalPlay. Nothing is said of what comes but that its t -/
import Derived.Test.YtjdcdhhbgijaoaaGreatDoorDbE
import Derived.Test.YtjdcdhhbgijaoaaGreatDoorDbS
import Derived.Test.YtjdcdhhbgijaoaaGreatDoorLgA
import Derived.Test.YtjdcdhhbgijaoaaGreatDoorDbQ
import Derived.Test.YtjdcdhhbgijaoaaGreatDoorLxE
import Derived.Test.YtjdcdhhbgijaoaaGreatDoorLgF
import Derived.Deep.DeepCutAuto
namespace Go.Proofs.YtjdcdhhbgijaoaaGreatDoor
open Go.ChangeShapes Go.WideShapes Go.ChangeAt Go.RowKit Go.Sort

def pileTexts : List ByteArray := [⟨#[97]⟩, ⟨#[101]⟩, ⟨#[101]⟩, ⟨#[110]⟩, ⟨#[114]⟩, ⟨#[115]⟩, ⟨#[116]⟩, ⟨#[98]⟩, ⟨#[63]⟩]
def oddTexts : List ByteArray := [⟨#[97]⟩, ⟨#[63]⟩, ⟨#[65]⟩, ⟨#[49]⟩]
theorem pile_one : ∀ x ∈ pileTexts, x.size = 1 := by
  have : pileTexts.all (fun x => decide (x.size = 1)) = true := by rfl
  intro x hx
  exact of_decide_eq_true (List.all_eq_true.1 this x hx)
theorem odd_one : ∀ x ∈ oddTexts, x.size = 1 := by
  have : oddTexts.all (fun x => decide (x.size = 1)) = true := by rfl
  intro x hx
  exact of_decide_eq_true (List.all_eq_true.1 this x hx)
/-- a text of at most M bytes is drawn; the source goes on -/
def TextDrawn (M : Nat) (w : World) (N b k : Nat) (e : Ending) (w' : World) : Prop := ∃ s : ByteArray, s.size ≤ M ∧ e = .returned (.string s) ∧ SrcAt w' N b k ∧ w.grownBy w' (some b)
set_option maxRecDepth 100000 in
set_option maxHeartbeats 4000000 in
theorem l03Draw_any (N b k : Nat) (w : World) (hs : SrcAt w N b k) (hk : k < 268435456) :
    Calls Tryz.prog 233 #[.pointer (some ⟨b, 0, none⟩), .int .i64 7] w (TextDrawn 7 w N b (k + 20)) := by
  have hbN := hs.lt
  have HS := Lib.hid hs
  have G := Lib.hid (grown_of_below (row := some b) (Below.refl w.heap.size w))
  clear hs
  go_enter Tryz.func233, Tryz.ntmps233
  go_wp2_with fail
  refine (pick_any 8 N b _ _ HS.out (by omega)).mono ?_
  rintro e w4 ⟨x, ⟨x0, x1, _, _⟩, rfl, s4, g4⟩
  have x2 := x1 (by decide)
  obtain ⟨q, rfl⟩ : ∃ q : Nat, x = q := ⟨x.toNat, by omega⟩
  replace HS := Lib.hid s4
  replace G := Lib.hid (grownBy_trans G.out g4)
  clear g4 s4
  clear x0 x1
  go_wp2_with fail
  go_loopw [5, 6] (fun ov kv wr => ∃ (q : Nat) (s : ByteArray), q ≤ 7 ∧ kv = .int .i64 q ∧ ov = .string s ∧ s.size + q ≤ 7 ∧ Hid (SrcAt wr N b (k + 2 + 2 * (7 - q))) ∧ Hid (w.grownBy wr (some b))) (fun _ kv _ => (intOf kv).toNat)
  case atStart => exact ⟨q, ⟨#[]⟩, by omega, rfl, rfl, (show 0 + q ≤ 7 by omega), Lib.hid (HS.out.mono (Nat.le_refl _) (by omega)), G⟩
  case round =>
    clear HS G x2
    obtain ⟨q, s, hq, rfl, rfl, hsq, HS, G⟩ := hrel
    by_cases hq0 : 0 < q
    · have hq0I : (0 : Int) < (q : Int) := by omega
      obtain ⟨q', rfl⟩ : ∃ q', q = q' + 1 := ⟨q - 1, by omega⟩
      have wq : IntKind.i64.wrap (((q' + 1 : Nat) : Int) - 1) = (q' : Int) := by rw [show ((q' + 1 : Nat) : Int) - 1 = q' by omega]; exact IntWalk.i64_in _ (by omega)
      have hlt := HS.out.size
      have hx : Below wr.heap.size wr (wr.alloc (.cells (pileTexts.flatMap Str.enc).toArray 9)) := (Below.refl _ _).alloc (Nat.le_refl _) _
      have HC := Lib.hid (cells_new (enc := Str.enc) (sz := 1) (fun _ => rfl) wr pileTexts 9)
      replace HS := Lib.hid (HS.out.kept hx)
      replace G := Lib.hid (grown_below G.out hx)
      clear hx
      go_wp2_with fail
      refine (text_any pileTexts wr.heap.size 9 N b _ _ HS.out (by omega) HC.out (by decide) (by decide) (by omega)).mono ?_
      rintro e w5 ⟨t, hx, rfl, s5, g5⟩
      replace HS := Lib.hid s5
      replace G := Lib.hid (grownBy_trans G.out g5)
      clear g5 s5
      have ht := pile_one t hx
      have hsz : s.size + t.size ≤ 9223372036854775807 := by omega
      have hst : (s ++ t).size + q' ≤ 7 := by rw [ByteArray.size_append]; omega
      have HS2 := Lib.hid (HS.out.mono (Nat.le_refl _) (show k + 2 + 2 * (7 - (q' + 1)) + 2 ≤ k + 2 + 2 * (7 - q') by omega))
      clear HC hx HS hlt
      go_wp2
      go_roundw
      case rel => exact ⟨q', s ++ t, by omega, rfl, rfl, hst, HS2, G⟩
      case measure => simp [intOf]
    · have hq0I : ¬ (0 : Int) < (q : Int) := by omega
      go_wp2_with fail
      refine (l03Sort_any s _ (by omega)).mono ?_
      rintro e w6 ⟨R, rfl, _, hp, hd⟩
      have hR : (mkB R).size ≤ 7 := by
        rw [mkB_size, hp.length_eq]
        have : s.data.toList.length = s.size := by simp
        omega
      replace HS := Lib.hid (HS.out.kept hd)
      replace G := Lib.hid (grown_below G.out hd)
      clear hd
      clear hp
      go_wp2
      go_ret
      exact ⟨mkB R, hR, rfl, HS.out.mono (Nat.le_refl _) (by omega), G.out⟩
set_option maxRecDepth 100000 in
set_option maxHeartbeats 4000000 in
theorem l03Bent_any (N b k : Nat) (w : World) (hs : SrcAt w N b k) (hk : k < 134217728) :
    Calls Tryz.prog 158 #[.pointer (some ⟨b, 0, none⟩), .int .i64 7] w (TextDrawn 200 w N b (k + 40)) := by
  have hbN := hs.lt
  have HS := Lib.hid hs
  have HRP : Hid (∀ (n : Nat) (W : World), n ≤ 1000 → Calls Tryz.prog 101 #[.int .u8 101, .int .i64 (n : Int)] W fun e w' => e = .returned (.string (mkB (List.replicate n 101))) ∧ Below W.heap.size W w') := Lib.hid (fun (n : Nat) (W : World) (h : n ≤ 1000) => l02Repeat_any 101 n W (Nat.le_trans h (by decide)))
  clear hs
  go_enter Tryz.func158, Tryz.ntmps158
  go_wp2_with fail
  refine (l03Draw_any N b k w HS.out (by omega)).mono ?_
  rintro e w2 ⟨s, hsz, rfl, s2, g2⟩
  replace HS := Lib.hid s2
  have G := Lib.hid g2
  clear s2 g2
  go_wp2_with fail
  refine (pick_any 20 N b _ _ HS.out (by omega)).mono ?_
  rintro e w4 ⟨x, ⟨x0, x1, _, _⟩, rfl, s4, g4⟩
  replace HS := Lib.hid s4
  replace G := Lib.hid (grownBy_trans G.out g4)
  clear g4 s4
  clear x0 x1
  by_cases h0 : x = 0
  · subst h0
    have hlt := HS.out.size
    have hx : Below w4.heap.size w4 (w4.alloc (.cells (oddTexts.flatMap Str.enc).toArray 9)) := (Below.refl _ _).alloc (Nat.le_refl _) _
    have HC := Lib.hid (cells_new (enc := Str.enc) (sz := 1) (fun _ => rfl) w4 oddTexts 9)
    replace HS := Lib.hid (HS.out.kept hx)
    replace G := Lib.hid (grown_below G.out hx)
    clear hx
    go_wp2_with fail
    refine (text_any oddTexts w4.heap.size 4 N b _ _ HS.out (by omega) HC.out (by decide) (by decide) (by omega)).mono ?_
    rintro e w5 ⟨t, hx, rfl, s5, g5⟩
    replace HS := Lib.hid s5
    replace G := Lib.hid (grownBy_trans G.out g5)
    clear g5 s5
    have ht := odd_one t hx
    have hsz2 : s.size + t.size ≤ 9223372036854775807 := by omega
    have hst : (s ++ t).size ≤ 200 := by rw [ByteArray.size_append]; omega
    clear HC hx hlt
    go_wp2
    go_ret
    exact ⟨s ++ t, hst, rfl, HS.out.mono (Nat.le_refl _) (by omega), G.out⟩
  · by_cases h1 : x = 1
    · subst h1
      go_wp2_with fail
      refine (pick_any 2 N b _ _ HS.out (by omega)).mono ?_
      rintro e w5 ⟨y, ⟨y0, y1, _, _⟩, rfl, s5, g5⟩
      have y2 := y1 (by decide)
      replace HS := Lib.hid s5
      replace G := Lib.hid (grownBy_trans G.out g5)
      clear g5 s5
      clear y1
      obtain ⟨n, hn⟩ : ∃ n : Nat, 120 + y = n := ⟨(120 + y).toNat, by omega⟩
      have wn : IntKind.i64.wrap (120 + y) = (n : Int) := by rw [hn]; exact IntWalk.i64_in _ (by omega)
      go_wp2_with fail
      refine (HRP.out n _ (by omega)).mono ?_
      rintro e w6 ⟨rfl, hd⟩
      replace HS := Lib.hid (HS.out.kept hd)
      replace G := Lib.hid (grown_below G.out hd)
      clear hd
      have hst : (mkB (List.replicate n (101 : UInt8))).size ≤ 200 := by rw [mkB_size, List.length_replicate]; omega
      clear HRP wn
      go_wp2
      go_ret
      exact ⟨_, hst, rfl, HS.out.mono (Nat.le_refl _) (by omega), G.out⟩
    · have e0 : (x == 0) = false := by simpa using h0
      have e1 : (x == 1) = false := by simpa using h1
      clear HRP
      go_wp2
      go_ret
      exact ⟨s, by omega, rfl, HS.out.mono (Nat.le_refl _) (by omega), G.out⟩
end Go.Proofs.YtjdcdhhbgijaoaaGreatDoor
namespace Go.Proofs.YtjdcdhhbgijaoaaGreatDoor
open Go.ChangeShapes Go.WideShapes Go.ChangeAt Go.RowKit Go.Sort

/-- a board, words, a rack and a play are drawn; the source goes on -/
def LegalDrawn (w : World) (N b k : Nat) (e : Ending) (w' : World) : Prop :=
  ∃ (bd : Brd) (p : Ply) (g m cap : Nat) (ys : List ByteArray) (rack : ByteArray), bd.premium.size ≤ 300 ∧ bd.cells.size ≤ 300 ∧ p.word.size ≤ 20 ∧ rack.size ≤ 1000 ∧ ys.length = m ∧ m ≤ 202 ∧ (∀ x ∈ ys, x.size ≤ 20) ∧ e = .returned (.tuple #[.agg #[.int .i64 bd.size, .string bd.premium, .string bd.cells], .agg #[.slice (some ⟨g, 0, none⟩) m cap], .string rack, .agg #[.int .i64 p.row, .int .i64 p.col, .bool p.down, .string p.word]]) ∧ w'.ownsRow w.heap.size 9 1 (.slice (some ⟨g, 0, none⟩) m cap) m (ys.flatMap Tx.enc) ∧ SrcAt w' N b k ∧ w.grownBy w' (some b)
set_option maxRecDepth 100000 in
set_option maxHeartbeats 8000000 in
theorem l12DrawLegal_any (N b k : Nat) (w : World) (hs : SrcAt w N b k) (hk : k < 67108864) (hN : N ≤ w.heap.size) :
    Calls Tryz.prog 68 #[.pointer (some ⟨b, 0, none⟩)] w (LegalDrawn w N b (k + 400)) := by
  have hbN := hs.lt
  obtain ⟨w1, hw1⟩ : ∃ w1, w1 = ((w.alloc (.cells #[.int .i64 0, .string ⟨#[]⟩, .string ⟨#[]⟩] 25)).alloc (.cells #[.slice none 0 0] 28)).alloc (.cells #[.int .i64 0, .int .i64 0, .bool false, .string ⟨#[]⟩] 30) := ⟨_, rfl⟩
  have hb : Below w.heap.size w w1 := by rw [hw1]; exact (((Below.refl _ _).alloc (Nat.le_refl _) _).alloc (by simp) _).alloc (by simp; omega) _
  have hz1 : w.heap.size + 1 + 1 < w1.heap.size := by rw [hw1]; simp
  have V2 : Hid (VarAt w1 w.heap.size 25 [.int .i64 0, .string ⟨#[]⟩, .string ⟨#[]⟩]) := by
    rw [hw1]
    exact Lib.hid (((VarAt.new w 25 [.int .i64 0, .string ⟨#[]⟩, .string ⟨#[]⟩]).kept ((Below.refl _ _).alloc (Nat.le_refl _) _)).kept ((Below.refl _ _).alloc (Nat.le_refl _) _))
  have V3 : Hid (VarAt w1 (w.heap.size + 1) 28 [.slice none 0 0]) := by
    rw [hw1]
    have := (VarAt.new (w.alloc (.cells #[.int .i64 0, .string ⟨#[]⟩, .string ⟨#[]⟩] 25)) 28 [.slice none 0 0]).kept ((Below.refl _ _).alloc (Nat.le_refl _) (.cells #[.int .i64 0, .int .i64 0, .bool false, .string ⟨#[]⟩] 30))
    simp only [World.size_alloc] at this
    exact Lib.hid this
  have V5 : Hid (VarAt w1 (w.heap.size + 1 + 1) 30 [.int .i64 0, .int .i64 0, .bool false, .string ⟨#[]⟩]) := by
    rw [hw1]
    have := VarAt.new ((w.alloc (.cells #[.int .i64 0, .string ⟨#[]⟩, .string ⟨#[]⟩] 25)).alloc (.cells #[.slice none 0 0] 28)) 30 [.int .i64 0, .int .i64 0, .bool false, .string ⟨#[]⟩]
    simp only [World.size_alloc] at this
    exact Lib.hid this
  have HS := Lib.hid (hs.kept hb)
  have G := Lib.hid (grown_of_below (row := some b) hb)
  have HW1 := Lib.hid hw1
  clear hs hb hw1
  go_enter Tryz.func68, Tryz.ntmps68
  go_upto_region 1 with fail
  rw [← HW1.out]
  clear HW1
  go_wp2_with fail
  refine (l12Bent_any N b k _ HS.out (by omega) (by omega)).mono ?_
  rintro e w2 ⟨bd, p, hP, hC, hW, rfl, s2, g2⟩
  have hz2 := g2.size
  replace V2 := Lib.hid (V2.out.grown g2 (by simp; omega))
  replace V3 := Lib.hid (V3.out.grown g2 (by simp; omega))
  replace V5 := Lib.hid (V5.out.grown g2 (by simp; omega))
  replace HS := Lib.hid s2
  replace G := Lib.hid (grownBy_trans G.out g2)
  clear g2 s2
  have hd : Below w2.heap.size w2 ((w2.alloc (.cells #[.int .i64 bd.size, .string bd.premium, .string bd.cells] 25)).alloc (.cells #[.int .i64 p.row, .int .i64 p.col, .bool p.down, .string p.word] 30)) := ((Below.refl _ _).alloc (Nat.le_refl _) _).alloc (by simp) _
  have V6 := Lib.hid ((VarAt.new w2 25 [.int .i64 bd.size, .string bd.premium, .string bd.cells]).kept ((Below.refl _ _).alloc (Nat.le_refl _) (.cells #[.int .i64 p.row, .int .i64 p.col, .bool p.down, .string p.word] 30)))
  have V7 : Hid (VarAt ((w2.alloc (.cells #[.int .i64 bd.size, .string bd.premium, .string bd.cells] 25)).alloc (.cells #[.int .i64 p.row, .int .i64 p.col, .bool p.down, .string p.word] 30)) (w2.heap.size + 1) 30 [.int .i64 p.row, .int .i64 p.col, .bool p.down, .string p.word]) := by
    have := VarAt.new (w2.alloc (.cells #[.int .i64 bd.size, .string bd.premium, .string bd.cells] 25)) 30 [.int .i64 p.row, .int .i64 p.col, .bool p.down, .string p.word]
    simp only [World.size_alloc] at this
    exact Lib.hid this
  replace V2 := Lib.hid (V2.out.kept hd)
  replace V3 := Lib.hid (V3.out.kept hd)
  replace V5 := Lib.hid (V5.out.kept hd)
  replace HS := Lib.hid (HS.out.kept hd)
  replace G := Lib.hid (grown_below G.out hd)
  clear hd
  go_upto_region 2 with fail
  generalize (w2.alloc (.cells #[.int .i64 bd.size, .string bd.premium, .string bd.cells] 25)).alloc (.cells #[.int .i64 p.row, .int .i64 p.col, .bool p.down, .string p.word] 30) = w3 at *
  have hB6 : w.heap.size + 1 + 1 < w2.heap.size := by omega
  generalize w2.heap.size = B6 at *
  clear hz1 hz2
  go_wp2_with fail
  refine (l12All_any w3).mono ?_
  rintro e w4 ⟨g, m, cap, ys, rfl, hl, hm, hy, ho, hd⟩
  have hlt7 := V7.out.lt
  have hz4 := hd.size
  have hg := (ho.lt g rfl).1
  replace V2 := Lib.hid (V2.out.kept hd)
  replace V3 := Lib.hid (V3.out.kept hd)
  replace V5 := Lib.hid (V5.out.kept hd)
  replace HS := Lib.hid (HS.out.kept hd)
  replace G := Lib.hid (grown_below G.out hd)
  replace V6 := Lib.hid (V6.out.kept hd)
  replace V7 := Lib.hid (V7.out.kept hd)
  have hx : Below w4.heap.size w4 (w4.alloc (.cells #[.slice (some ⟨g, 0, none⟩) m cap] 28)) := (Below.refl _ _).alloc (Nat.le_refl _) _
  have V8 := Lib.hid (VarAt.new w4 28 [.slice (some ⟨g, 0, none⟩) m cap])
  have HO := Lib.hid (own_mono (own_below ho hx) (show w.heap.size + 1 + 1 + 1 ≤ _ by omega))
  replace V2 := Lib.hid (V2.out.kept hx)
  replace V3 := Lib.hid (V3.out.kept hx)
  replace V5 := Lib.hid (V5.out.kept hx)
  replace HS := Lib.hid (HS.out.kept hx)
  replace G := Lib.hid (grown_below G.out hx)
  replace V6 := Lib.hid (V6.out.kept hx)
  replace V7 := Lib.hid (V7.out.kept hx)
  have hB8 : B6 + 1 < w4.heap.size := by omega
  clear hd hx ho hz4
  go_upto_region 3 with fail
  generalize w4.alloc (.cells #[.slice (some ⟨g, 0, none⟩) m cap] 28) = w5 at *
  generalize w4.heap.size = B8 at *
  have hgw : w.heap.size + 1 + 1 + 1 ≤ g := by omega
  clear hg hlt7
  go_wp2_with fail
  refine (one_any 4 N b _ _ HS.out (by omega)).mono ?_
  rintro e w6 ⟨y, rfl, s6, g6⟩
  replace V2 := Lib.hid (V2.out.grown g6 (by simp; omega))
  replace V3 := Lib.hid (V3.out.grown g6 (by simp; omega))
  replace V5 := Lib.hid (V5.out.grown g6 (by simp; omega))
  replace V6 := Lib.hid (V6.out.grown g6 (by simp; omega))
  replace V7 := Lib.hid (V7.out.grown g6 (by simp; omega))
  replace V8 := Lib.hid (V8.out.grown g6 (by simp; omega))
  replace HO := Lib.hid (own_aside HO.out g6 (by first | omega | (dsimp only; omega)))
  replace HS := Lib.hid s6
  replace G := Lib.hid (grownBy_trans G.out g6)
  clear g6 s6
  go_upto_if 19 with fail
  go_cut [] (fun wx => ∃ (g m cap : Nat) (ys : List ByteArray), w.heap.size + 1 + 1 + 1 ≤ g ∧ ys.length = m ∧ m ≤ 202 ∧ Hid (∀ x ∈ ys, x.size ≤ 20) ∧ Hid (wx.ownsRow (w.heap.size + 1 + 1 + 1) 9 1 (.slice (some ⟨g, 0, none⟩) m cap) m (ys.flatMap Tx.enc)) ∧ Hid (VarAt wx B8 28 [.slice (some ⟨g, 0, none⟩) m cap]) ∧ Hid (VarAt wx w.heap.size 25 [.int .i64 0, .string ⟨#[]⟩, .string ⟨#[]⟩]) ∧ Hid (VarAt wx (w.heap.size + 1) 28 [.slice none 0 0]) ∧ Hid (VarAt wx (w.heap.size + 1 + 1) 30 [.int .i64 0, .int .i64 0, .bool false, .string ⟨#[]⟩]) ∧ Hid (VarAt wx B6 25 [.int .i64 bd.size, .string bd.premium, .string bd.cells]) ∧ Hid (VarAt wx (B6 + 1) 30 [.int .i64 p.row, .int .i64 p.col, .bool p.down, .string p.word]) ∧ Hid (SrcAt wx N b (k + 270)) ∧ Hid (w.grownBy wx (some b)))
  case first =>
    cases y with
    | false =>
      go_wp2_with fail
      go_meet
      exact ⟨g, m, cap, ys, hgw, hl, by omega, Lib.hid hy, HO, V8, V2, V3, V5, V6, V7, Lib.hid (HS.out.mono (Nat.le_refl _) (by omega)), G⟩
    | true =>
      have hlt8 := V8.out.lt
      go_wp2_with fail
      refine (l05Bent_any N b _ _ HS.out (by omega) (by omega)).mono ?_
      rintro e w7 ⟨g7, m7, cap7, zs, rfl, hl7, hm7, hy7, ho7, s7, g7'⟩
      have hg7 := (ho7.lt g7 rfl).1
      replace V2 := Lib.hid (V2.out.grown g7' (by simp; omega))
      replace V3 := Lib.hid (V3.out.grown g7' (by simp; omega))
      replace V5 := Lib.hid (V5.out.grown g7' (by simp; omega))
      replace V6 := Lib.hid (V6.out.grown g7' (by simp; omega))
      replace V7 := Lib.hid (V7.out.grown g7' (by simp; omega))
      replace V8 := Lib.hid (V8.out.grown g7' (by simp; omega))
      replace HS := Lib.hid s7
      replace G := Lib.hid (grownBy_trans G.out g7')
      clear g7' s7
      have y0 := V8.out.cell (i := 0) rfl
      have f0 := V8.out.free 0
      obtain ⟨o9, k9⟩ := V8.out.set 0 (.slice (some ⟨g7, 0, none⟩) m7 cap7)
      have HS2 := Lib.hid ((HS.out.grown k9 (fun g e => by simp at e; omega)).mono (Nat.le_refl _) (show _ ≤ k + 270 by omega))
      have G2 := Lib.hid (grown_over G.out k9 (by omega))
      replace V2 := Lib.hid (V2.out.grown k9 (by simp; omega))
      replace V3 := Lib.hid (V3.out.grown k9 (by simp; omega))
      replace V5 := Lib.hid (V5.out.grown k9 (by simp; omega))
      replace V6 := Lib.hid (V6.out.grown k9 (by simp; omega))
      replace V7 := Lib.hid (V7.out.grown k9 (by simp; omega))
      have HO7 := Lib.hid (own_mono (own_aside ho7 k9 (by first | omega | (dsimp only; omega))) (show w.heap.size + 1 + 1 + 1 ≤ _ by omega))
      have V8' := Lib.hid o9
      have hgw7 : w.heap.size + 1 + 1 + 1 ≤ g7 := by omega
      clear o9 k9 ho7 HO HS G
      go_wp2_with fail
      go_meet
      exact ⟨g7, m7, cap7, zs, hgw7, hl7, hm7, Lib.hid hy7, HO7, V8', V2, V3, V5, V6, V7, HS2, G2⟩
  case rest =>
    clear HO V8 V2 V3 V5 V6 V7 HS G hgw hl hm hy
    obtain ⟨g, m, cap, ys, hgw, hl, hm, HY, HO, V8, V2, V3, V5, V6, V7, HS, G⟩ := hcut
    generalize wc = w7 at *
    go_wp2_with fail
    refine (l03Bent_any N b _ _ HS.out (by omega)).mono ?_
    rintro e w8 ⟨rk, hrk, rfl, s8, g8⟩
    replace V2 := Lib.hid (V2.out.grown g8 (by simp; omega))
    replace V3 := Lib.hid (V3.out.grown g8 (by simp; omega))
    replace V5 := Lib.hid (V5.out.grown g8 (by simp; omega))
    replace V6 := Lib.hid (V6.out.grown g8 (by simp; omega))
    replace V7 := Lib.hid (V7.out.grown g8 (by simp; omega))
    replace V8 := Lib.hid (V8.out.grown g8 (by simp; omega))
    replace HO := Lib.hid (own_aside HO.out g8 (by first | omega | (dsimp only; omega)))
    replace HS := Lib.hid s8
    replace G := Lib.hid (grownBy_trans G.out g8)
    clear g8 s8
    go_wp2_with fail
    refine (one_any 2 N b _ _ HS.out (by omega)).mono ?_
    rintro e wE ⟨y, rfl, s9, g9⟩
    replace V2 := Lib.hid (V2.out.grown g9 (by simp; omega))
    replace V3 := Lib.hid (V3.out.grown g9 (by simp; omega))
    replace V5 := Lib.hid (V5.out.grown g9 (by simp; omega))
    replace V6 := Lib.hid (V6.out.grown g9 (by simp; omega))
    replace V7 := Lib.hid (V7.out.grown g9 (by simp; omega))
    replace V8 := Lib.hid (V8.out.grown g9 (by simp; omega))
    replace HO := Lib.hid (own_aside HO.out g9 (by first | omega | (dsimp only; omega)))
    replace HS := Lib.hid s9
    replace G := Lib.hid (grownBy_trans G.out g9)
    clear g9 s9
    cases y with
    | false =>
      have hRK : (rk).size ≤ 1000 := (by omega)
      go_upto_region 9 with fail
      have hd : Below wE.heap.size wE wE.drew := (Below.refl _ _).drew
      replace V2 := Lib.hid (V2.out.kept hd)
      replace V3 := Lib.hid (V3.out.kept hd)
      replace V5 := Lib.hid (V5.out.kept hd)
      replace HS := Lib.hid (HS.out.kept hd)
      replace G := Lib.hid (grown_below G.out hd)
      replace V6 := Lib.hid (V6.out.kept hd)
      replace V7 := Lib.hid (V7.out.kept hd)
      replace V8 := Lib.hid (V8.out.kept hd)
      replace HO := Lib.hid (own_below HO.out hd)
      clear hd
      refine wp_region_held_drew (S := fun W => W.rangeAt B6 0 [.int .i64 bd.size, .string bd.premium, .string bd.cells] ∧ W.rangeAt B8 0 [.slice (some ⟨g, 0, none⟩) m cap] ∧ W.rangeAt (B6 + 1) 0 [.int .i64 p.row, .int .i64 p.col, .bool p.down, .string p.word]) (by kernel_rfl) ⟨V6.out.range, V8.out.range, V7.out.range⟩ (fun hHeld => ?_)
      generalize World.drew _ = wD at *
      refine slotA 0 38 (.agg #[.int .i64 bd.size, .string bd.premium, .string bd.cells]) ?_ (hy := yieldsIf_load_mid (by rfl) 25 _ rfl B6 0 rfl [.int .i64 bd.size, .string bd.premium, .string bd.cells] _ (fun w' hS => hS.1) Tryz.underlying25 rfl (by kernel_rfl))
      simp only [S3]
      refine slotA 1 39 (.agg #[.slice (some ⟨g, 0, none⟩) m cap]) ?_ (hy := yieldsIf_load_mid (by rfl) 28 _ rfl B8 0 rfl [.slice (some ⟨g, 0, none⟩) m cap] _ (fun w' hS => hS.2.1) Tryz.underlying28 rfl (by kernel_rfl))
      simp only [S3]
      refine slotA 2 40 (.string rk) ?_
      simp only [S3]
      refine slotA 3 41 (.agg #[.int .i64 p.row, .int .i64 p.col, .bool p.down, .string p.word]) ?_ (hy := yieldsIf_load_mid (by rfl) 30 _ rfl (B6 + 1) 0 rfl [.int .i64 p.row, .int .i64 p.col, .bool p.down, .string p.word] _ (fun w' hS => hS.2.2) Tryz.underlying30 rfl (by kernel_rfl))
      simp only [S3]
      clear hHeld
      refine wpAnyH_ready (rs := [4]) (by kernel_rfl) (by simp) ?_
      refine AllReadyH.cons (o := _) rfl (fun K hK => ?_) AllReadyH.nil
      obtain ⟨o2, GG⟩ := V2.out.put [.int .i64 bd.size, .string bd.premium, .string bd.cells] rfl
      have tR := V2.out.there (n := 3) rfl
      refine mk_store rfl rfl 25 (.tmp 2) (.tmp 38) rfl w.heap.size 0 #[.int .i64 bd.size, .string bd.premium, .string bd.cells] rfl rfl tR (by kernel_rfl) (by simp [Value.oneCell']) ?_
      replace HS := Lib.hid (HS.out.grown GG (fun g e => by simp at e; omega))
      replace G := Lib.hid (grown_over G.out GG (by omega))
      replace V6 := Lib.hid (V6.out.grown GG (by simp; omega))
      replace V7 := Lib.hid (V7.out.grown GG (by simp; omega))
      replace V8 := Lib.hid (V8.out.grown GG (by simp; omega))
      replace HO := Lib.hid (own_aside HO.out GG (by first | omega | (dsimp only; omega)))
      replace V3 := Lib.hid (V3.out.grown GG (by simp <;> omega))
      replace V5 := Lib.hid (V5.out.grown GG (by simp <;> omega))
      replace V2 := Lib.hid o2
      refine hK.out _ _ ⟨V6.out.range, V8.out.range, V7.out.range⟩ (fun hHeld9 => ?_)
      clear hK K tR o2 GG hHeld9
      change wpAnyH _ _ _ _ _ _ _ _ (World.setCells _ w.heap.size 0 [.int .i64 bd.size, .string bd.premium, .string bd.cells])
      generalize World.setCells _ w.heap.size 0 [.int .i64 bd.size, .string bd.premium, .string bd.cells] = wz at *
      refine wpAnyH_ready (rs := [5]) (by kernel_rfl) (by simp) ?_
      refine AllReadyH.cons (o := _) rfl (fun K hK => ?_) AllReadyH.nil
      obtain ⟨o2, GG⟩ := V3.out.put [.slice (some ⟨g, 0, none⟩) m cap] rfl
      have tR := V3.out.there (n := 1) rfl
      refine mk_store rfl rfl 28 (.tmp 3) (.tmp 39) rfl (w.heap.size + 1) 0 #[.slice (some ⟨g, 0, none⟩) m cap] rfl rfl tR (by kernel_rfl) (by simp [Value.oneCell']) ?_
      replace HS := Lib.hid (HS.out.grown GG (fun g e => by simp at e; omega))
      replace G := Lib.hid (grown_over G.out GG (by omega))
      replace V6 := Lib.hid (V6.out.grown GG (by simp; omega))
      replace V7 := Lib.hid (V7.out.grown GG (by simp; omega))
      replace V8 := Lib.hid (V8.out.grown GG (by simp; omega))
      replace HO := Lib.hid (own_aside HO.out GG (by first | omega | (dsimp only; omega)))
      replace V2 := Lib.hid (V2.out.grown GG (by simp <;> omega))
      replace V5 := Lib.hid (V5.out.grown GG (by simp <;> omega))
      replace V3 := Lib.hid o2
      refine hK.out _ _ ⟨V6.out.range, V8.out.range, V7.out.range⟩ (fun hHeld9 => ?_)
      clear hK K tR o2 GG hHeld9
      change wpAnyH _ _ _ _ _ _ _ _ (World.setCells _ (w.heap.size + 1) 0 [.slice (some ⟨g, 0, none⟩) m cap])
      generalize World.setCells _ (w.heap.size + 1) 0 [.slice (some ⟨g, 0, none⟩) m cap] = wz at *
      refine slotA 6 4 (.string rk) ?_ (hS := ⟨V6.out.range, V8.out.range, V7.out.range⟩)
      simp only [S3]
      refine wpAnyH_ready (rs := [7]) (by kernel_rfl) (by simp) ?_
      refine AllReadyH.cons (o := _) rfl (fun K hK => ?_) AllReadyH.nil
      obtain ⟨o2, GG⟩ := V5.out.put [.int .i64 p.row, .int .i64 p.col, .bool p.down, .string p.word] rfl
      have tR := V5.out.there (n := 4) rfl
      refine mk_store rfl rfl 30 (.tmp 5) (.tmp 41) rfl (w.heap.size + 1 + 1) 0 #[.int .i64 p.row, .int .i64 p.col, .bool p.down, .string p.word] rfl rfl tR (by kernel_rfl) (by simp [Value.oneCell']) ?_
      replace HS := Lib.hid (HS.out.grown GG (fun g e => by simp at e; omega))
      replace G := Lib.hid (grown_over G.out GG (by omega))
      replace V6 := Lib.hid (V6.out.grown GG (by simp; omega))
      replace V7 := Lib.hid (V7.out.grown GG (by simp; omega))
      replace V8 := Lib.hid (V8.out.grown GG (by simp; omega))
      replace HO := Lib.hid (own_aside HO.out GG (by first | omega | (dsimp only; omega)))
      replace V2 := Lib.hid (V2.out.grown GG (by simp <;> omega))
      replace V3 := Lib.hid (V3.out.grown GG (by simp <;> omega))
      replace V5 := Lib.hid o2
      refine hK.out _ _ ⟨V6.out.range, V8.out.range, V7.out.range⟩ (fun hHeld9 => ?_)
      clear hK K tR o2 GG hHeld9
      change wpAnyH _ _ _ _ _ _ _ _ (World.setCells _ (w.heap.size + 1 + 1) 0 [.int .i64 p.row, .int .i64 p.col, .bool p.down, .string p.word])
      generalize World.setCells _ (w.heap.size + 1 + 1) 0 [.int .i64 p.row, .int .i64 p.col, .bool p.down, .string p.word] = wz at *
      refine wpAnyH_done (by kernel_rfl) ?_ _
      have e0 := V2.out.cell (i := 0) (v := .int .i64 bd.size) rfl
      have e1 := V2.out.cell (i := 1) (v := .string bd.premium) rfl
      have e2 := V2.out.cell (i := 2) (v := .string bd.cells) rfl
      have l0 := V3.out.cell (i := 0) (v := .slice (some ⟨g, 0, none⟩) m cap) rfl
      have u0 := V5.out.cell (i := 0) (v := .int .i64 p.row) rfl
      have u1 := V5.out.cell (i := 1) (v := .int .i64 p.col) rfl
      have u2 := V5.out.cell (i := 2) (v := .bool p.down) rfl
      have u3 := V5.out.cell (i := 3) (v := .string p.word) rfl
      clear V2 V3 V5 V6 V7 V8
      go_wp2
      refine bodyPost_ret (v := .tuple #[.agg #[.int .i64 bd.size, .string bd.premium, .string bd.cells], .agg #[.slice (some ⟨g, 0, none⟩) m cap], .string rk, .agg #[.int .i64 p.row, .int .i64 p.col, .bool p.down, .string p.word]]) (by simp [results, Tryz.results68, go_sem, e0, e1, e2, l0, u0, u1, u2, u3]) rfl ?_
      exact ⟨bd, p, g, m, cap, ys, rk, hP, hC, hW, hRK, hl, hm, HY.out, rfl, own_mono HO.out (by omega), HS.out.mono (Nat.le_refl _) (by omega), G.out⟩
    | true =>
      have HB : Hid (BAt wE B6 0 bd) := Lib.hid ⟨V6.out.cell (i := 0) rfl, V6.out.cell (i := 1) rfl, V6.out.cell (i := 2) rfl⟩
      have c0 := V7.out.cell (i := 0) (v := .int .i64 p.row) rfl
      have c1 := V7.out.cell (i := 1) (v := .int .i64 p.col) rfl
      have c2 := V7.out.cell (i := 2) (v := .bool p.down) rfl
      have c3 := V7.out.cell (i := 3) (v := .string p.word) rfl
      go_wp2_with fail
      refine (l12Ok_any bd p B6 0 _ HB.out ⟨by omega, by omega⟩ (show p.word.size ≤ _ by omega)).mono ?_
      rintro e wF ⟨rfl, hd⟩
      clear c0 c1 c2 c3 HB
      replace V2 := Lib.hid (V2.out.kept hd)
      replace V3 := Lib.hid (V3.out.kept hd)
      replace V5 := Lib.hid (V5.out.kept hd)
      replace HS := Lib.hid (HS.out.kept hd)
      replace G := Lib.hid (grown_below G.out hd)
      replace V6 := Lib.hid (V6.out.kept hd)
      replace V7 := Lib.hid (V7.out.kept hd)
      replace V8 := Lib.hid (V8.out.kept hd)
      replace HO := Lib.hid (own_below HO.out hd)
      clear hd
      cases hk : bd.okPlay p with
      | false =>
        clear hk
        obtain ⟨wE, rfl⟩ : ∃ wE, wE = wF := ⟨_, rfl⟩
        have hRK : (rk).size ≤ 1000 := (by omega)
        go_upto_region 9 with fail
        have hd : Below wE.heap.size wE wE.drew := (Below.refl _ _).drew
        replace V2 := Lib.hid (V2.out.kept hd)
        replace V3 := Lib.hid (V3.out.kept hd)
        replace V5 := Lib.hid (V5.out.kept hd)
        replace HS := Lib.hid (HS.out.kept hd)
        replace G := Lib.hid (grown_below G.out hd)
        replace V6 := Lib.hid (V6.out.kept hd)
        replace V7 := Lib.hid (V7.out.kept hd)
        replace V8 := Lib.hid (V8.out.kept hd)
        replace HO := Lib.hid (own_below HO.out hd)
        clear hd
        refine wp_region_held_drew (S := fun W => W.rangeAt B6 0 [.int .i64 bd.size, .string bd.premium, .string bd.cells] ∧ W.rangeAt B8 0 [.slice (some ⟨g, 0, none⟩) m cap] ∧ W.rangeAt (B6 + 1) 0 [.int .i64 p.row, .int .i64 p.col, .bool p.down, .string p.word]) (by kernel_rfl) ⟨V6.out.range, V8.out.range, V7.out.range⟩ (fun hHeld => ?_)
        generalize World.drew _ = wD at *
        refine slotA 0 38 (.agg #[.int .i64 bd.size, .string bd.premium, .string bd.cells]) ?_ (hy := yieldsIf_load_mid (by rfl) 25 _ rfl B6 0 rfl [.int .i64 bd.size, .string bd.premium, .string bd.cells] _ (fun w' hS => hS.1) Tryz.underlying25 rfl (by kernel_rfl))
        simp only [S3]
        refine slotA 1 39 (.agg #[.slice (some ⟨g, 0, none⟩) m cap]) ?_ (hy := yieldsIf_load_mid (by rfl) 28 _ rfl B8 0 rfl [.slice (some ⟨g, 0, none⟩) m cap] _ (fun w' hS => hS.2.1) Tryz.underlying28 rfl (by kernel_rfl))
        simp only [S3]
        refine slotA 2 40 (.string rk) ?_
        simp only [S3]
        refine slotA 3 41 (.agg #[.int .i64 p.row, .int .i64 p.col, .bool p.down, .string p.word]) ?_ (hy := yieldsIf_load_mid (by rfl) 30 _ rfl (B6 + 1) 0 rfl [.int .i64 p.row, .int .i64 p.col, .bool p.down, .string p.word] _ (fun w' hS => hS.2.2) Tryz.underlying30 rfl (by kernel_rfl))
        simp only [S3]
        clear hHeld
        refine wpAnyH_ready (rs := [4]) (by kernel_rfl) (by simp) ?_
        refine AllReadyH.cons (o := _) rfl (fun K hK => ?_) AllReadyH.nil
        obtain ⟨o2, GG⟩ := V2.out.put [.int .i64 bd.size, .string bd.premium, .string bd.cells] rfl
        have tR := V2.out.there (n := 3) rfl
        refine mk_store rfl rfl 25 (.tmp 2) (.tmp 38) rfl w.heap.size 0 #[.int .i64 bd.size, .string bd.premium, .string bd.cells] rfl rfl tR (by kernel_rfl) (by simp [Value.oneCell']) ?_
        replace HS := Lib.hid (HS.out.grown GG (fun g e => by simp at e; omega))
        replace G := Lib.hid (grown_over G.out GG (by omega))
        replace V6 := Lib.hid (V6.out.grown GG (by simp; omega))
        replace V7 := Lib.hid (V7.out.grown GG (by simp; omega))
        replace V8 := Lib.hid (V8.out.grown GG (by simp; omega))
        replace HO := Lib.hid (own_aside HO.out GG (by first | omega | (dsimp only; omega)))
        replace V3 := Lib.hid (V3.out.grown GG (by simp <;> omega))
        replace V5 := Lib.hid (V5.out.grown GG (by simp <;> omega))
        replace V2 := Lib.hid o2
        refine hK.out _ _ ⟨V6.out.range, V8.out.range, V7.out.range⟩ (fun hHeld9 => ?_)
        clear hK K tR o2 GG hHeld9
        change wpAnyH _ _ _ _ _ _ _ _ (World.setCells _ w.heap.size 0 [.int .i64 bd.size, .string bd.premium, .string bd.cells])
        generalize World.setCells _ w.heap.size 0 [.int .i64 bd.size, .string bd.premium, .string bd.cells] = wz at *
        refine wpAnyH_ready (rs := [5]) (by kernel_rfl) (by simp) ?_
        refine AllReadyH.cons (o := _) rfl (fun K hK => ?_) AllReadyH.nil
        obtain ⟨o2, GG⟩ := V3.out.put [.slice (some ⟨g, 0, none⟩) m cap] rfl
        have tR := V3.out.there (n := 1) rfl
        refine mk_store rfl rfl 28 (.tmp 3) (.tmp 39) rfl (w.heap.size + 1) 0 #[.slice (some ⟨g, 0, none⟩) m cap] rfl rfl tR (by kernel_rfl) (by simp [Value.oneCell']) ?_
        replace HS := Lib.hid (HS.out.grown GG (fun g e => by simp at e; omega))
        replace G := Lib.hid (grown_over G.out GG (by omega))
        replace V6 := Lib.hid (V6.out.grown GG (by simp; omega))
        replace V7 := Lib.hid (V7.out.grown GG (by simp; omega))
        replace V8 := Lib.hid (V8.out.grown GG (by simp; omega))
        replace HO := Lib.hid (own_aside HO.out GG (by first | omega | (dsimp only; omega)))
        replace V2 := Lib.hid (V2.out.grown GG (by simp <;> omega))
        replace V5 := Lib.hid (V5.out.grown GG (by simp <;> omega))
        replace V3 := Lib.hid o2
        refine hK.out _ _ ⟨V6.out.range, V8.out.range, V7.out.range⟩ (fun hHeld9 => ?_)
        clear hK K tR o2 GG hHeld9
        change wpAnyH _ _ _ _ _ _ _ _ (World.setCells _ (w.heap.size + 1) 0 [.slice (some ⟨g, 0, none⟩) m cap])
        generalize World.setCells _ (w.heap.size + 1) 0 [.slice (some ⟨g, 0, none⟩) m cap] = wz at *
        refine slotA 6 4 (.string rk) ?_ (hS := ⟨V6.out.range, V8.out.range, V7.out.range⟩)
        simp only [S3]
        refine wpAnyH_ready (rs := [7]) (by kernel_rfl) (by simp) ?_
        refine AllReadyH.cons (o := _) rfl (fun K hK => ?_) AllReadyH.nil
        obtain ⟨o2, GG⟩ := V5.out.put [.int .i64 p.row, .int .i64 p.col, .bool p.down, .string p.word] rfl
        have tR := V5.out.there (n := 4) rfl
        refine mk_store rfl rfl 30 (.tmp 5) (.tmp 41) rfl (w.heap.size + 1 + 1) 0 #[.int .i64 p.row, .int .i64 p.col, .bool p.down, .string p.word] rfl rfl tR (by kernel_rfl) (by simp [Value.oneCell']) ?_
        replace HS := Lib.hid (HS.out.grown GG (fun g e => by simp at e; omega))
        replace G := Lib.hid (grown_over G.out GG (by omega))
        replace V6 := Lib.hid (V6.out.grown GG (by simp; omega))
        replace V7 := Lib.hid (V7.out.grown GG (by simp; omega))
        replace V8 := Lib.hid (V8.out.grown GG (by simp; omega))
        replace HO := Lib.hid (own_aside HO.out GG (by first | omega | (dsimp only; omega)))
        replace V2 := Lib.hid (V2.out.grown GG (by simp <;> omega))
        replace V3 := Lib.hid (V3.out.grown GG (by simp <;> omega))
        replace V5 := Lib.hid o2
        refine hK.out _ _ ⟨V6.out.range, V8.out.range, V7.out.range⟩ (fun hHeld9 => ?_)
        clear hK K tR o2 GG hHeld9
        change wpAnyH _ _ _ _ _ _ _ _ (World.setCells _ (w.heap.size + 1 + 1) 0 [.int .i64 p.row, .int .i64 p.col, .bool p.down, .string p.word])
        generalize World.setCells _ (w.heap.size + 1 + 1) 0 [.int .i64 p.row, .int .i64 p.col, .bool p.down, .string p.word] = wz at *
        refine wpAnyH_done (by kernel_rfl) ?_ _
        have e0 := V2.out.cell (i := 0) (v := .int .i64 bd.size) rfl
        have e1 := V2.out.cell (i := 1) (v := .string bd.premium) rfl
        have e2 := V2.out.cell (i := 2) (v := .string bd.cells) rfl
        have l0 := V3.out.cell (i := 0) (v := .slice (some ⟨g, 0, none⟩) m cap) rfl
        have u0 := V5.out.cell (i := 0) (v := .int .i64 p.row) rfl
        have u1 := V5.out.cell (i := 1) (v := .int .i64 p.col) rfl
        have u2 := V5.out.cell (i := 2) (v := .bool p.down) rfl
        have u3 := V5.out.cell (i := 3) (v := .string p.word) rfl
        clear V2 V3 V5 V6 V7 V8
        go_wp2
        refine bodyPost_ret (v := .tuple #[.agg #[.int .i64 bd.size, .string bd.premium, .string bd.cells], .agg #[.slice (some ⟨g, 0, none⟩) m cap], .string rk, .agg #[.int .i64 p.row, .int .i64 p.col, .bool p.down, .string p.word]]) (by simp [results, Tryz.results68, go_sem, e0, e1, e2, l0, u0, u1, u2, u3]) rfl ?_
        exact ⟨bd, p, g, m, cap, ys, rk, hP, hC, hW, hRK, hl, hm, HY.out, rfl, own_mono HO.out (by omega), HS.out.mono (Nat.le_refl _) (by omega), G.out⟩
      | true =>
        obtain ⟨n, hp⟩ := okPlay_good hk
        have hfl : (bd.fresh p).length ≤ p.word.size := freshL_len _ _ _ _
        have hs12 := hp.twelve
        have HFL : Hid (∀ W, BAt W B6 0 bd → Calls Tryz.prog 91 #[.pointer (some ⟨B6, 0, none⟩), .agg #[.int .i64 p.row, .int .i64 p.col, .bool p.down, .string p.word]] W fun e w' => e = .returned (flatV bd p) ∧ Below W.heap.size W w') := Lib.hid (fun W h => l12Flat_any bd p n B6 0 W hp.good h)
        have HPL : Hid (∀ x W, BAt W x 0 (bd.flat p.down) → Calls Tryz.prog 123 #[.pointer (some ⟨x, 0, none⟩), .agg #[.int .i64 p.flat.row, .int .i64 p.flat.col, .bool p.flat.down, .string p.word]] W (StrPost W (placedB p.word (bd.fresh p)))) := Lib.hid (fun x W h => by
          refine l12Placed_of (bd.flat p.down) p.flat.row p.flat.col p.flat.down p.word (bd.fresh p) x W h (Lib.hid (fun W2 h2 => ?_)) (fun i hi => (freshL_lt hi).1) (by omega)
          have := l12Fresh_any (bd.flat p.down) n p.flat.row p.flat.col p.flat.down p.word x 0 W2 (hp.good.flat p.down) h2 hp.twelve (by rw [Ply.flat_row]; exact hp.r0) (by rw [Ply.flat_row]; exact hp.r1) (by rw [Ply.flat_col]; exact hp.c0) (by rw [Ply.flat_col]; exact hp.c1)
          rw [Ply.flat_row, Ply.flat_col] at this ⊢
          exact this)
        have HTI : Hid (∀ W, Calls Tryz.prog 122 #[.string (mkB (placedB p.word (bd.fresh p)))] W fun e w' => ∃ t : ByteArray, t.size ≤ 1000 ∧ e = .returned (.string t) ∧ Below W.heap.size W w') := Lib.hid (fun W => by
          have := l03Tiles_any (mkB (placedB p.word (bd.fresh p))) W (by rw [mkB_size, placedB_len]; omega)
          rw [mkB_data] at this
          refine this.mono ?_
          rintro e w' ⟨R, h1, h2, h3, h4⟩
          refine ⟨mkB R, ?_, h1, h4⟩
          rw [mkB_size, h3.length_eq, List.length_map, placedB_len]
          omega)
        clear hp hk hfl hs12
        generalize placedB p.word (bd.fresh p) = pb at *
        have HB : Hid (BAt wF B6 0 bd) := Lib.hid ⟨V6.out.cell (i := 0) rfl, V6.out.cell (i := 1) rfl, V6.out.cell (i := 2) rfl⟩
        have c0 := V7.out.cell (i := 0) (v := .int .i64 p.row) rfl
        have c1 := V7.out.cell (i := 1) (v := .int .i64 p.col) rfl
        have c2 := V7.out.cell (i := 2) (v := .bool p.down) rfl
        have c3 := V7.out.cell (i := 3) (v := .string p.word) rfl
        go_wp2_with fail
        refine (HFL.out _ HB.out).mono ?_
        rintro e wG ⟨rfl, hd⟩
        unfold flatV
        clear c0 c1 c2 c3 HB HFL
        replace V2 := Lib.hid (V2.out.kept hd)
        replace V3 := Lib.hid (V3.out.kept hd)
        replace V5 := Lib.hid (V5.out.kept hd)
        replace HS := Lib.hid (HS.out.kept hd)
        replace G := Lib.hid (grown_below G.out hd)
        replace V6 := Lib.hid (V6.out.kept hd)
        replace V7 := Lib.hid (V7.out.kept hd)
        replace V8 := Lib.hid (V8.out.kept hd)
        replace HO := Lib.hid (own_below HO.out hd)
        clear hd
        generalize bd.flat p.down = f at *
        generalize p.flat.row = fr0 at *
        generalize p.flat.col = fc at *
        generalize p.flat.down = fd at *
        have HF : Hid (BAt ((wG.alloc (.cells #[.int .i64 f.size, .string f.premium, .string f.cells] 25)).alloc (.cells #[.int .i64 fr0, .int .i64 fc, .bool fd, .string p.word] 30)) wG.heap.size 0 f) := Lib.hid ((BAt.new wG f 25).kept ((Below.refl _ _).alloc (Nat.le_refl _) _))
        have HQ : Hid (VarAt ((wG.alloc (.cells #[.int .i64 f.size, .string f.premium, .string f.cells] 25)).alloc (.cells #[.int .i64 fr0, .int .i64 fc, .bool fd, .string p.word] 30)) (wG.heap.size + 1) 30 [.int .i64 fr0, .int .i64 fc, .bool fd, .string p.word]) := Lib.hid (by
          have := VarAt.new (wG.alloc (.cells #[.int .i64 f.size, .string f.premium, .string f.cells] 25)) 30 [.int .i64 fr0, .int .i64 fc, .bool fd, .string p.word]
          simp only [World.size_alloc] at this
          exact this)
        have hd : Below wG.heap.size wG ((wG.alloc (.cells #[.int .i64 f.size, .string f.premium, .string f.cells] 25)).alloc (.cells #[.int .i64 fr0, .int .i64 fc, .bool fd, .string p.word] 30)) := ((Below.refl _ _).alloc (Nat.le_refl _) _).alloc (by simp) _
        replace V2 := Lib.hid (V2.out.kept hd)
        replace V3 := Lib.hid (V3.out.kept hd)
        replace V5 := Lib.hid (V5.out.kept hd)
        replace HS := Lib.hid (HS.out.kept hd)
        replace G := Lib.hid (grown_below G.out hd)
        replace V6 := Lib.hid (V6.out.kept hd)
        replace V7 := Lib.hid (V7.out.kept hd)
        replace V8 := Lib.hid (V8.out.kept hd)
        replace HO := Lib.hid (own_below HO.out hd)
        clear hd
        go_upto_region 8 with fail
        generalize (wG.alloc (.cells #[.int .i64 f.size, .string f.premium, .string f.cells] 25)).alloc (.cells #[.int .i64 fr0, .int .i64 fc, .bool fd, .string p.word] 30) = wH at *
        have q0 := HQ.out.cell (i := 0) rfl
        have q1 := HQ.out.cell (i := 1) rfl
        have q2 := HQ.out.cell (i := 2) rfl
        have q3 := HQ.out.cell (i := 3) rfl
        go_wp2_with fail
        refine (HPL.out _ _ HF.out).mono ?_
        rintro e wI ⟨rfl, hd⟩
        clear q0 q1 q2 q3 HF HQ HPL
        replace V2 := Lib.hid (V2.out.kept hd)
        replace V3 := Lib.hid (V3.out.kept hd)
        replace V5 := Lib.hid (V5.out.kept hd)
        replace HS := Lib.hid (HS.out.kept hd)
        replace G := Lib.hid (grown_below G.out hd)
        replace V6 := Lib.hid (V6.out.kept hd)
        replace V7 := Lib.hid (V7.out.kept hd)
        replace V8 := Lib.hid (V8.out.kept hd)
        replace HO := Lib.hid (own_below HO.out hd)
        clear hd
        go_wp2_with fail
        refine (HTI.out _).mono ?_
        rintro e wE ⟨tl, htl, rfl, hd⟩
        clear HTI
        replace V2 := Lib.hid (V2.out.kept hd)
        replace V3 := Lib.hid (V3.out.kept hd)
        replace V5 := Lib.hid (V5.out.kept hd)
        replace HS := Lib.hid (HS.out.kept hd)
        replace G := Lib.hid (grown_below G.out hd)
        replace V6 := Lib.hid (V6.out.kept hd)
        replace V7 := Lib.hid (V7.out.kept hd)
        replace V8 := Lib.hid (V8.out.kept hd)
        replace HO := Lib.hid (own_below HO.out hd)
        clear hd
        have hRK : (tl).size ≤ 1000 := htl
        go_upto_region 9 with fail
        have hd : Below wE.heap.size wE wE.drew := (Below.refl _ _).drew
        replace V2 := Lib.hid (V2.out.kept hd)
        replace V3 := Lib.hid (V3.out.kept hd)
        replace V5 := Lib.hid (V5.out.kept hd)
        replace HS := Lib.hid (HS.out.kept hd)
        replace G := Lib.hid (grown_below G.out hd)
        replace V6 := Lib.hid (V6.out.kept hd)
        replace V7 := Lib.hid (V7.out.kept hd)
        replace V8 := Lib.hid (V8.out.kept hd)
        replace HO := Lib.hid (own_below HO.out hd)
        clear hd
        refine wp_region_held_drew (S := fun W => W.rangeAt B6 0 [.int .i64 bd.size, .string bd.premium, .string bd.cells] ∧ W.rangeAt B8 0 [.slice (some ⟨g, 0, none⟩) m cap] ∧ W.rangeAt (B6 + 1) 0 [.int .i64 p.row, .int .i64 p.col, .bool p.down, .string p.word]) (by kernel_rfl) ⟨V6.out.range, V8.out.range, V7.out.range⟩ (fun hHeld => ?_)
        generalize World.drew _ = wD at *
        refine slotA 0 38 (.agg #[.int .i64 bd.size, .string bd.premium, .string bd.cells]) ?_ (hy := yieldsIf_load_mid (by rfl) 25 _ rfl B6 0 rfl [.int .i64 bd.size, .string bd.premium, .string bd.cells] _ (fun w' hS => hS.1) Tryz.underlying25 rfl (by kernel_rfl))
        simp only [S3]
        refine slotA 1 39 (.agg #[.slice (some ⟨g, 0, none⟩) m cap]) ?_ (hy := yieldsIf_load_mid (by rfl) 28 _ rfl B8 0 rfl [.slice (some ⟨g, 0, none⟩) m cap] _ (fun w' hS => hS.2.1) Tryz.underlying28 rfl (by kernel_rfl))
        simp only [S3]
        refine slotA 2 40 (.string tl) ?_
        simp only [S3]
        refine slotA 3 41 (.agg #[.int .i64 p.row, .int .i64 p.col, .bool p.down, .string p.word]) ?_ (hy := yieldsIf_load_mid (by rfl) 30 _ rfl (B6 + 1) 0 rfl [.int .i64 p.row, .int .i64 p.col, .bool p.down, .string p.word] _ (fun w' hS => hS.2.2) Tryz.underlying30 rfl (by kernel_rfl))
        simp only [S3]
        clear hHeld
        refine wpAnyH_ready (rs := [4]) (by kernel_rfl) (by simp) ?_
        refine AllReadyH.cons (o := _) rfl (fun K hK => ?_) AllReadyH.nil
        obtain ⟨o2, GG⟩ := V2.out.put [.int .i64 bd.size, .string bd.premium, .string bd.cells] rfl
        have tR := V2.out.there (n := 3) rfl
        refine mk_store rfl rfl 25 (.tmp 2) (.tmp 38) rfl w.heap.size 0 #[.int .i64 bd.size, .string bd.premium, .string bd.cells] rfl rfl tR (by kernel_rfl) (by simp [Value.oneCell']) ?_
        replace HS := Lib.hid (HS.out.grown GG (fun g e => by simp at e; omega))
        replace G := Lib.hid (grown_over G.out GG (by omega))
        replace V6 := Lib.hid (V6.out.grown GG (by simp; omega))
        replace V7 := Lib.hid (V7.out.grown GG (by simp; omega))
        replace V8 := Lib.hid (V8.out.grown GG (by simp; omega))
        replace HO := Lib.hid (own_aside HO.out GG (by first | omega | (dsimp only; omega)))
        replace V3 := Lib.hid (V3.out.grown GG (by simp <;> omega))
        replace V5 := Lib.hid (V5.out.grown GG (by simp <;> omega))
        replace V2 := Lib.hid o2
        refine hK.out _ _ ⟨V6.out.range, V8.out.range, V7.out.range⟩ (fun hHeld9 => ?_)
        clear hK K tR o2 GG hHeld9
        change wpAnyH _ _ _ _ _ _ _ _ (World.setCells _ w.heap.size 0 [.int .i64 bd.size, .string bd.premium, .string bd.cells])
        generalize World.setCells _ w.heap.size 0 [.int .i64 bd.size, .string bd.premium, .string bd.cells] = wz at *
        refine wpAnyH_ready (rs := [5]) (by kernel_rfl) (by simp) ?_
        refine AllReadyH.cons (o := _) rfl (fun K hK => ?_) AllReadyH.nil
        obtain ⟨o2, GG⟩ := V3.out.put [.slice (some ⟨g, 0, none⟩) m cap] rfl
        have tR := V3.out.there (n := 1) rfl
        refine mk_store rfl rfl 28 (.tmp 3) (.tmp 39) rfl (w.heap.size + 1) 0 #[.slice (some ⟨g, 0, none⟩) m cap] rfl rfl tR (by kernel_rfl) (by simp [Value.oneCell']) ?_
        replace HS := Lib.hid (HS.out.grown GG (fun g e => by simp at e; omega))
        replace G := Lib.hid (grown_over G.out GG (by omega))
        replace V6 := Lib.hid (V6.out.grown GG (by simp; omega))
        replace V7 := Lib.hid (V7.out.grown GG (by simp; omega))
        replace V8 := Lib.hid (V8.out.grown GG (by simp; omega))
        replace HO := Lib.hid (own_aside HO.out GG (by first | omega | (dsimp only; omega)))
        replace V2 := Lib.hid (V2.out.grown GG (by simp <;> omega))
        replace V5 := Lib.hid (V5.out.grown GG (by simp <;> omega))
        replace V3 := Lib.hid o2
        refine hK.out _ _ ⟨V6.out.range, V8.out.range, V7.out.range⟩ (fun hHeld9 => ?_)
        clear hK K tR o2 GG hHeld9
        change wpAnyH _ _ _ _ _ _ _ _ (World.setCells _ (w.heap.size + 1) 0 [.slice (some ⟨g, 0, none⟩) m cap])
        generalize World.setCells _ (w.heap.size + 1) 0 [.slice (some ⟨g, 0, none⟩) m cap] = wz at *
        refine slotA 6 4 (.string tl) ?_ (hS := ⟨V6.out.range, V8.out.range, V7.out.range⟩)
        simp only [S3]
        refine wpAnyH_ready (rs := [7]) (by kernel_rfl) (by simp) ?_
        refine AllReadyH.cons (o := _) rfl (fun K hK => ?_) AllReadyH.nil
        obtain ⟨o2, GG⟩ := V5.out.put [.int .i64 p.row, .int .i64 p.col, .bool p.down, .string p.word] rfl
        have tR := V5.out.there (n := 4) rfl
        refine mk_store rfl rfl 30 (.tmp 5) (.tmp 41) rfl (w.heap.size + 1 + 1) 0 #[.int .i64 p.row, .int .i64 p.col, .bool p.down, .string p.word] rfl rfl tR (by kernel_rfl) (by simp [Value.oneCell']) ?_
        replace HS := Lib.hid (HS.out.grown GG (fun g e => by simp at e; omega))
        replace G := Lib.hid (grown_over G.out GG (by omega))
        replace V6 := Lib.hid (V6.out.grown GG (by simp; omega))
        replace V7 := Lib.hid (V7.out.grown GG (by simp; omega))
        replace V8 := Lib.hid (V8.out.grown GG (by simp; omega))
        replace HO := Lib.hid (own_aside HO.out GG (by first | omega | (dsimp only; omega)))
        replace V2 := Lib.hid (V2.out.grown GG (by simp <;> omega))
        replace V3 := Lib.hid (V3.out.grown GG (by simp <;> omega))
        replace V5 := Lib.hid o2
        refine hK.out _ _ ⟨V6.out.range, V8.out.range, V7.out.range⟩ (fun hHeld9 => ?_)
        clear hK K tR o2 GG hHeld9
        change wpAnyH _ _ _ _ _ _ _ _ (World.setCells _ (w.heap.size + 1 + 1) 0 [.int .i64 p.row, .int .i64 p.col, .bool p.down, .string p.word])
        generalize World.setCells _ (w.heap.size + 1 + 1) 0 [.int .i64 p.row, .int .i64 p.col, .bool p.down, .string p.word] = wz at *
        refine wpAnyH_done (by kernel_rfl) ?_ _
        have e0 := V2.out.cell (i := 0) (v := .int .i64 bd.size) rfl
        have e1 := V2.out.cell (i := 1) (v := .string bd.premium) rfl
        have e2 := V2.out.cell (i := 2) (v := .string bd.cells) rfl
        have l0 := V3.out.cell (i := 0) (v := .slice (some ⟨g, 0, none⟩) m cap) rfl
        have u0 := V5.out.cell (i := 0) (v := .int .i64 p.row) rfl
        have u1 := V5.out.cell (i := 1) (v := .int .i64 p.col) rfl
        have u2 := V5.out.cell (i := 2) (v := .bool p.down) rfl
        have u3 := V5.out.cell (i := 3) (v := .string p.word) rfl
        clear V2 V3 V5 V6 V7 V8
        go_wp2
        refine bodyPost_ret (v := .tuple #[.agg #[.int .i64 bd.size, .string bd.premium, .string bd.cells], .agg #[.slice (some ⟨g, 0, none⟩) m cap], .string tl, .agg #[.int .i64 p.row, .int .i64 p.col, .bool p.down, .string p.word]]) (by simp [results, Tryz.results68, go_sem, e0, e1, e2, l0, u0, u1, u2, u3]) rfl ?_
        exact ⟨bd, p, g, m, cap, ys, tl, hP, hC, hW, hRK, hl, hm, HY.out, rfl, own_mono HO.out (by omega), HS.out.mono (Nat.le_refl _) (by omega), G.out⟩
/-- what LegalPlay is asked comes back -/
def LegalOut (w : World) (e : Ending) (w' : World) : Prop :=
  ∃ (bd : Brd) (p : Ply) (g m cap : Nat) (ys : List ByteArray) (rack : ByteArray), bd.premium.size ≤ 300 ∧ bd.cells.size ≤ 300 ∧ p.word.size ≤ 20 ∧ rack.size ≤ 1000 ∧ ys.length = m ∧ m ≤ 202 ∧ (∀ x ∈ ys, x.size ≤ 20) ∧ e = .returned (.tuple #[.agg #[.int .i64 bd.size, .string bd.premium, .string bd.cells], .agg #[.slice (some ⟨g, 0, none⟩) m cap], .string rack, .agg #[.int .i64 p.row, .int .i64 p.col, .bool p.down, .string p.word]]) ∧ SliceAt w' 1 Tx.enc (some ⟨g, 0, none⟩) ys ∧ Below w.heap.size w w'
end Go.Proofs.YtjdcdhhbgijaoaaGreatDoor
namespace Go.Proofs.YtjdcdhhbgijaoaaGreatDoor
open Go.ChangeShapes Go.WideShapes Go.ChangeAt Go.RowKit Go.Sort

set_option maxRecDepth 100000 in
set_option maxHeartbeats 2000000 in
theorem DrawLegalPlay_any (ca : Option Addr) (ccap : Nat) (bs : List Int) (w : World) (hc : CodeAt w w.heap.size ca bs) : Calls Tryz.prog 10 #[.slice ca bs.length ccap] w (LegalOut w) := by
  obtain ⟨w1, hw1⟩ : ∃ w1, w1 = ((w.alloc (.cells #[.int .i64 0, .string ⟨#[]⟩, .string ⟨#[]⟩] 25)).alloc (.cells #[.slice none 0 0] 28)).alloc (.cells #[.int .i64 0, .int .i64 0, .bool false, .string ⟨#[]⟩] 30) := ⟨_, rfl⟩
  have hb : Below w.heap.size w w1 := by rw [hw1]; exact (((Below.refl _ _).alloc (Nat.le_refl _) _).alloc (by simp) _).alloc (by simp; omega) _
  have hz1 : w1.heap.size = w.heap.size + 1 + 1 + 1 := by rw [hw1]; simp
  have V2 : Hid (VarAt w1 w.heap.size 25 [.int .i64 0, .string ⟨#[]⟩, .string ⟨#[]⟩]) := by
    rw [hw1]
    exact Lib.hid (((VarAt.new w 25 [.int .i64 0, .string ⟨#[]⟩, .string ⟨#[]⟩]).kept ((Below.refl _ _).alloc (Nat.le_refl _) _)).kept ((Below.refl _ _).alloc (Nat.le_refl _) _))
  have V3 : Hid (VarAt w1 (w.heap.size + 1) 28 [.slice none 0 0]) := by
    rw [hw1]
    have := (VarAt.new (w.alloc (.cells #[.int .i64 0, .string ⟨#[]⟩, .string ⟨#[]⟩] 25)) 28 [.slice none 0 0]).kept ((Below.refl _ _).alloc (Nat.le_refl _) (.cells #[.int .i64 0, .int .i64 0, .bool false, .string ⟨#[]⟩] 30))
    simp only [World.size_alloc] at this
    exact Lib.hid this
  have V5 : Hid (VarAt w1 (w.heap.size + 1 + 1) 30 [.int .i64 0, .int .i64 0, .bool false, .string ⟨#[]⟩]) := by
    rw [hw1]
    have := VarAt.new ((w.alloc (.cells #[.int .i64 0, .string ⟨#[]⟩, .string ⟨#[]⟩] 25)).alloc (.cells #[.slice none 0 0] 28)) 30 [.int .i64 0, .int .i64 0, .bool false, .string ⟨#[]⟩]
    simp only [World.size_alloc] at this
    exact Lib.hid this
  have HC : Hid (CodeAt w1 w1.heap.size ca bs) := by
    obtain ⟨c1, c2, c3, c4⟩ := hc
    exact Lib.hid ⟨c1.kept hb, c2, c3, fun h0 cb co e => by have := c4 h0 cb co e; omega⟩
  have HW1 := Lib.hid hw1
  clear hc hw1
  go_enter Tryz.func10, Tryz.ntmps10
  go_upto_region 1 with fail
  rw [← HW1.out]
  clear HW1
  have HZ1 := Lib.hid hz1
  clear hz1
  go_wp2_with fail
  refine (l00From_any ca ccap bs _ HC.out).mono ?_
  rintro e w2 ⟨rfl, h2, s2, hz2⟩
  have hz1 := HZ1.out
  have HS := Lib.hid s2
  replace V2 := Lib.hid (V2.out.kept h2)
  replace V3 := Lib.hid (V3.out.kept h2)
  replace V5 := Lib.hid (V5.out.kept h2)
  replace hb := hb.trans (h2.mono hb.size)
  have hz3 : w1.heap.size + 1 ≤ w2.heap.size := by omega
  have hz4 : w.heap.size + 1 + 1 < w1.heap.size := by omega
  generalize w1.heap.size = B1 at *
  clear h2 s2 HC hz1 HZ1 hz2
  go_wp2_with fail
  refine (l12DrawLegal_any (B1 + 1) B1 0 _ HS.out (by omega) hz3).mono ?_
  rintro e w3 ⟨bd, p, g, m, cap, ys, rk, hP, hC, hW, hR, hl, hm, hy, rfl, ho, s3, g3⟩
  have hg := (ho.lt g rfl).1
  replace V2 := Lib.hid (V2.out.grown g3 (by simp; omega))
  replace V3 := Lib.hid (V3.out.grown g3 (by simp; omega))
  replace V5 := Lib.hid (V5.out.grown g3 (by simp; omega))
  replace hb := hb.grown g3 hb.size (fun q h => by cases h; omega)
  have HO := Lib.hid ho
  clear s3 g3 HS ho
  have c0 := V2.out.cell (i := 0) rfl
  have c1 := V2.out.cell (i := 1) rfl
  have c2 := V2.out.cell (i := 2) rfl
  have f0 := V2.out.free 0
  have f1 := V2.out.free 1
  have f2 := V2.out.free 2
  obtain ⟨o0, k0⟩ := V2.out.set 0 (.int .i64 bd.size)
  obtain ⟨o1, k1⟩ := o0.set 1 (.string bd.premium)
  obtain ⟨o2, k2⟩ := o1.set 2 (.string bd.cells)
  have G2 := grownBy_trans (grownBy_trans k0 k1) k2
  replace V3 := Lib.hid (V3.out.grown G2 (by simp <;> omega))
  replace V5 := Lib.hid (V5.out.grown G2 (by simp <;> omega))
  replace HO := Lib.hid (own_aside HO.out G2 (by first | omega | (dsimp only; omega)))
  have x0 := V3.out.cell (i := 0) rfl
  have y0 := V3.out.free 0
  obtain ⟨q0, n0⟩ := V3.out.set 0 (.slice (some ⟨g, 0, none⟩) m cap)
  replace V5 := Lib.hid (V5.out.grown n0 (by simp <;> omega))
  replace HO := Lib.hid (own_aside HO.out n0 (by first | omega | (dsimp only; omega)))
  have O2 := o2.grown n0 (by simp <;> omega)
  have d0 := V5.out.cell (i := 0) rfl
  have d1 := V5.out.cell (i := 1) rfl
  have d2 := V5.out.cell (i := 2) rfl
  have d3 := V5.out.cell (i := 3) rfl
  have g0 := V5.out.free 0
  have g1 := V5.out.free 1
  have g2 := V5.out.free 2
  have g3 := V5.out.free 3
  obtain ⟨p0, l0⟩ := V5.out.set 0 (.int .i64 p.row)
  obtain ⟨p1, l1⟩ := p0.set 1 (.int .i64 p.col)
  obtain ⟨p2, l2⟩ := p1.set 2 (.bool p.down)
  obtain ⟨p3, l3⟩ := p2.set 3 (.string p.word)
  have G3 := grownBy_trans (grownBy_trans (grownBy_trans l0 l1) l2) l3
  have O2' := O2.grown G3 (by simp <;> omega)
  have Q0' := q0.grown G3 (by simp <;> omega)
  have HF := Lib.hid (own_aside HO.out G3 (by first | omega | (dsimp only; omega)))
  have hb9 := ((hb.grown G2 hb.size (fun q h => by cases h; omega)).grown n0 (Nat.le_trans hb.size G2.size) (fun q h => by cases h; omega)).grown G3 (Nat.le_trans (Nat.le_trans hb.size G2.size) n0.size) (fun q h => by cases h; omega)
  have e0 := O2'.cell (i := 0) (v := .int .i64 bd.size) rfl
  have e1 := O2'.cell (i := 1) (v := .string bd.premium) rfl
  have e2 := O2'.cell (i := 2) (v := .string bd.cells) rfl
  have e3 := Q0'.cell (i := 0) (v := .slice (some ⟨g, 0, none⟩) m cap) rfl
  have u0 := p3.cell (i := 0) (v := .int .i64 p.row) rfl
  have u1 := p3.cell (i := 1) (v := .int .i64 p.col) rfl
  have u2 := p3.cell (i := 2) (v := .bool p.down) rfl
  have u3 := p3.cell (i := 3) (v := .string p.word) rfl
  clear o0 o1 o2 k0 k1 k2 G2 p0 p1 p2 p3 l0 l1 l2 l3 G3 O2 O2' V2 V3 V5 hb q0 n0 Q0' HO
  go_wp2
  refine bodyPost_ret (v := .tuple #[.agg #[.int .i64 bd.size, .string bd.premium, .string bd.cells], .agg #[.slice (some ⟨g, 0, none⟩) m cap], .string rk, .agg #[.int .i64 p.row, .int .i64 p.col, .bool p.down, .string p.word]]) (by simp [results, Tryz.results10, go_sem, e0, e1, e2, e3, u0, u1, u2, u3]) rfl ?_
  exact ⟨bd, p, g, m, cap, ys, rk, hP, hC, hW, hR, hl, hm, hy, rfl, own_slice Tx.enc_len HF.out hl.symm, hb9⟩
end Go.Proofs.YtjdcdhhbgijaoaaGreatDoor
