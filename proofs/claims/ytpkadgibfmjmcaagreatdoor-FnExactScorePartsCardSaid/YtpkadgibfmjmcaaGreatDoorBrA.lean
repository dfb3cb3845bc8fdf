/- Contracts: the reference's boards: a cell, a premium, a square, what is on it. For valid boards. -/
import Derived.Test.YtpkadgibfmjmcaaGreatDoorBdP
import Derived.Deep.RegionHeld3
import Derived.IntWalk
namespace Go.Proofs.YtpkadgibfmjmcaaGreatDoor
open Go.ChangeShapes Go.WideShapes Go.ChangeAt Go.RowKit Go.Sort

/-- a board lies at an address -/
def BAt (w : World) (g o : Nat) (b : Brd) : Prop :=
  w.cell? ⟨g, o, none⟩ = some (.int .i64 b.size) ∧ w.cell? ⟨g, o + 1, none⟩ = some (.string b.premium) ∧ w.cell? ⟨g, o + 2, none⟩ = some (.string b.cells)
theorem BAt.kept {w w' : World} {g o : Nat} {b : Brd} (h : BAt w g o b) (hb : Below w.heap.size w w') : BAt w' g o b :=
  ⟨cell_kept h.1 hb, cell_kept h.2.1 hb, cell_kept h.2.2 hb⟩
theorem BAt.drew {w w' : World} {g o : Nat} {b : Brd} (h : BAt w g o b) (hb : Drew w w') : BAt w' g o b := h.kept (hb.below _)
theorem BAt.grown {w w' : World} {g o : Nat} {b : Brd} (h : BAt w g o b) {row : Option Nat} (hg : w.grownBy w' row) (hne : some g ≠ row) : BAt w' g o b :=
  ⟨hg.cell h.1 hne, hg.cell h.2.1 hne, hg.cell h.2.2 hne⟩
theorem BAt.new (w : World) (b : Brd) (t : TypeId) : BAt (w.alloc (.cells #[.int .i64 b.size, .string b.premium, .string b.cells] t)) w.heap.size 0 b :=
  ⟨cell_new0 w _ t rfl, cell_new0 w _ t rfl, cell_new0 w _ t rfl⟩
theorem BAt.lt {w : World} {g o : Nat} {b : Brd} (h : BAt w g o b) : g < w.heap.size := block_lt h.1

theorem l03Capital_any (c : Int) (w : World) : Calls Tryz.prog 170 #[.int .u8 c] w fun e w' => e = .returned (.bool (capB c)) ∧ w = w' := by
  go_enter Tryz.func170, Tryz.ntmps170
  go_wp2
  all_goals (go_ret; exact ⟨ret_bool (by unfold capB; rw [Bool.eq_iff_iff]; simp only [Bool.and_eq_true, decide_eq_true_eq, Bool.false_eq_true, false_iff]; omega), rfl⟩)
theorem capital_any (c : Int) (w : World) : Calls Tryz.prog 177 #[.int .u8 c] w fun e w' => e = .returned (.bool (capB c)) ∧ w = w' := by
  go_enter Tryz.func177, Tryz.ntmps177
  go_wp2
  all_goals (go_ret; exact ⟨ret_bool (by unfold capB; rw [Bool.eq_iff_iff]; simp only [Bool.and_eq_true, decide_eq_true_eq, Bool.false_eq_true, false_iff]; omega), rfl⟩)
theorem l11Cell_any (c : UInt8) (w : World) : Calls Tryz.prog 115 #[.int .u8 (c.toNat : Int)] w fun e w' => e = .returned (.bool (cellB c.toNat)) ∧ w = w' := by
  cases h1 : ((c.toNat : Int) == 46) with
  | true =>
    have HE : Hid (cellB c.toNat = true) := Lib.hid (by unfold cellB; rw [h1]; rfl)
    go_enter Tryz.func115, Tryz.ntmps115
    go_wp2
    go_ret
    exact ⟨ret_bool HE.out.symm, rfl⟩
  | false =>
    cases h2 : smallB (c.toNat : Int) with
    | true =>
      have HE : Hid (cellB c.toNat = true) := Lib.hid (by unfold cellB; rw [h1, h2]; rfl)
      go_enter Tryz.func115, Tryz.ntmps115
      go_wp2_with fail
      refine (l01Small_any _ _).mono ?_
      rintro e w' ⟨rfl, rfl⟩
      rw [h2]
      clear h2
      go_wp2
      go_ret
      exact ⟨ret_bool HE.out.symm, rfl⟩
    | false =>
      have HE : Hid (cellB c.toNat = capB c.toNat) := Lib.hid (by unfold cellB; rw [h1, h2]; rfl)
      go_enter Tryz.func115, Tryz.ntmps115
      go_wp2_with fail
      refine (l01Small_any _ _).mono ?_
      rintro e w' ⟨rfl, rfl⟩
      rw [h2]
      clear h2
      go_wp2_with fail
      refine (l03Capital_any _ _).mono ?_
      rintro e w' ⟨rfl, rfl⟩
      go_wp2
      go_ret
      exact ⟨ret_bool HE.out.symm, rfl⟩
theorem cellOk_any (c : UInt8) (w : World) : Calls Tryz.prog 128 #[.int .u8 (c.toNat : Int)] w fun e w' => e = .returned (.bool (cellB c.toNat)) ∧ w = w' := by
  cases h1 : ((c.toNat : Int) == 46) with
  | true =>
    have HE : Hid (cellB c.toNat = true) := Lib.hid (by unfold cellB; rw [h1]; rfl)
    go_enter Tryz.func128, Tryz.ntmps128
    go_wp2
    go_ret
    exact ⟨ret_bool HE.out.symm, rfl⟩
  | false =>
    cases h2 : smallB (c.toNat : Int) with
    | true =>
      have HE : Hid (cellB c.toNat = true) := Lib.hid (by unfold cellB; rw [h1, h2]; rfl)
      go_enter Tryz.func128, Tryz.ntmps128
      go_wp2_with fail
      refine (small_any _ _).mono ?_
      rintro e w' ⟨rfl, rfl⟩
      rw [h2]
      clear h2
      go_wp2
      go_ret
      exact ⟨ret_bool HE.out.symm, rfl⟩
    | false =>
      have HE : Hid (cellB c.toNat = capB c.toNat) := Lib.hid (by unfold cellB; rw [h1, h2]; rfl)
      go_enter Tryz.func128, Tryz.ntmps128
      go_wp2_with fail
      refine (small_any _ _).mono ?_
      rintro e w' ⟨rfl, rfl⟩
      rw [h2]
      clear h2
      go_wp2_with fail
      refine (capital_any _ _).mono ?_
      rintro e w' ⟨rfl, rfl⟩
      go_wp2
      go_ret
      exact ⟨ret_bool HE.out.symm, rfl⟩
theorem l11Premium_any (c : UInt8) (w : World) : Calls Tryz.prog 116 #[.int .u8 (c.toNat : Int)] w fun e w' => e = .returned (.bool (premB c.toNat)) ∧ w = w' := by
  have HE : Hid (∀ b : Bool, premB c.toNat = b → Ending.returned (.bool b) = Ending.returned (.bool (premB c.toNat))) := Lib.hid (fun b h => by rw [h])
  have HP : Hid (premB (c.toNat : Int) = (((c.toNat : Int) == 50) || ((c.toNat : Int) == 51) || ((c.toNat : Int) == 100) || ((c.toNat : Int) == 116) || ((c.toNat : Int) == 46))) := Lib.hid rfl
  cases h1 : ((c.toNat : Int) == 46) with
  | true =>
    go_enter Tryz.func116, Tryz.ntmps116
    go_wp2
    go_ret
    exact ⟨HE.out _ (by rw [HP.out, h1]; simp), rfl⟩
  | false =>
    cases h2 : ((c.toNat : Int) == 50) with
    | true =>
      go_enter Tryz.func116, Tryz.ntmps116
      go_wp2
      go_ret
      exact ⟨HE.out _ (by rw [HP.out, h2]; simp), rfl⟩
    | false =>
      cases h3 : ((c.toNat : Int) == 51) with
      | true =>
        go_enter Tryz.func116, Tryz.ntmps116
        go_wp2
        go_ret
        exact ⟨HE.out _ (by rw [HP.out, h3]; simp), rfl⟩
      | false =>
        cases h4 : ((c.toNat : Int) == 100) with
        | true =>
          go_enter Tryz.func116, Tryz.ntmps116
          go_wp2
          go_ret
          exact ⟨HE.out _ (by rw [HP.out, h4]; simp), rfl⟩
        | false =>
          go_enter Tryz.func116, Tryz.ntmps116
          go_wp2
          go_ret
          exact ⟨HE.out _ (by rw [HP.out, h1, h2, h3, h4]; simp), rfl⟩
theorem l11Size_any (x : Int) (w : World) : Calls Tryz.prog 114 #[.int .i64 x] w fun e w' => e = .returned (.bool (withinB x 5 15)) ∧ w = w' := by
  go_enter Tryz.func114, Tryz.ntmps114
  go_wp2_with fail
  refine (l00In_any _ _ _ _).mono ?_
  rintro e w' ⟨rfl, rfl⟩
  go_wp2
  go_ret
  exact ⟨rfl, rfl⟩
theorem sizeOk_any (x : Int) (w : World) : Calls Tryz.prog 125 #[.int .i64 x] w fun e w' => e = .returned (.bool (withinB x 5 15)) ∧ w = w' := by
  go_enter Tryz.func125, Tryz.ntmps125
  go_wp2_with fail
  refine (within_any _ _ _ _).mono ?_
  rintro e w' ⟨rfl, rfl⟩
  go_wp2
  go_ret
  exact ⟨rfl, rfl⟩
set_option maxHeartbeats 1000000 in
theorem l11In_any (b : Brd) (n : Nat) (r c : Int) (g o : Nat) (w : World) (hb : b.Good n) (hg : BAt w g o b) :
    Calls Tryz.prog 154 #[.pointer (some ⟨g, o, none⟩), .int .i64 r, .int .i64 c] w fun e w' => e = .returned (.bool (b.inB r c)) ∧ w = w' := by
  have HS : Hid (b.inB r c = (withinB r 0 ((n : Int) - 1) && withinB c 0 ((n : Int) - 1))) := Lib.hid (by unfold Brd.inB; rw [hb.size])
  obtain ⟨g0, g1, g2⟩ := hg
  rw [hb.size] at g0
  have h15 := hb.hi
  have h5 := hb.lo
  clear g1 g2 hb
  cases h1 : withinB r 0 ((n : Int) - 1) with
  | false =>
    have HE : Hid (b.inB r c = false) := Lib.hid (by rw [HS.out, h1]; rfl)
    go_enter Tryz.func154, Tryz.ntmps154
    go_wp2_with fail
    refine (l00In_any _ _ _ _).mono ?_
    rintro e w' ⟨rfl, rfl⟩
    rw [h1]
    clear h1
    go_wp2
    go_ret
    exact ⟨ret_bool HE.out.symm, rfl⟩
  | true =>
    have HE : Hid (b.inB r c = withinB c 0 ((n : Int) - 1)) := Lib.hid (by rw [HS.out, h1]; rfl)
    go_enter Tryz.func154, Tryz.ntmps154
    go_wp2_with fail
    refine (l00In_any _ _ _ _).mono ?_
    rintro e w' ⟨rfl, rfl⟩
    rw [h1]
    clear h1
    go_wp2_with fail
    refine (l00In_any _ _ _ _).mono ?_
    rintro e w' ⟨rfl, rfl⟩
    go_wp2
    go_ret
    exact ⟨ret_bool HE.out.symm, rfl⟩
/-- the bounds of a square's place -/
theorem Brd.Good.place {b : Brd} {n : Nat} (hb : b.Good n) {r c : Int} (hi : b.inB r c = true) : ∃ (i j q : Nat), r = i ∧ c = j ∧ q = i * n ∧ (i : Int) * (n : Int) = (q : Int) ∧ q + j < b.cells.size ∧ q + j < 225 ∧ i < n ∧ j < n ∧ (∀ h : q + j < b.cells.size, b.cell r c = b.cells[q + j]) := by
  have hi2 := hb.inB.1 hi
  obtain ⟨i, rfl⟩ := Int.eq_ofNat_of_zero_le hi2.1.1
  obtain ⟨j, rfl⟩ := Int.eq_ofNat_of_zero_le hi2.2.1
  have hl := hb.get (r := i) (c := j) (by omega) (by omega)
  have h2 := sq_mono hb.hi
  have h3 := hb.cells
  exact ⟨i, j, i * n, rfl, rfl, rfl, by push_cast; rfl, hl, by omega, by omega, by omega, fun h => hb.cell_in (by omega) (by omega) rfl h⟩
set_option maxHeartbeats 2000000 in
theorem l11At_any (b : Brd) (n : Nat) (r c : Int) (g o : Nat) (w : World) (hb : b.Good n) (hg : BAt w g o b) (hi : b.inB r c = true) :
    Calls Tryz.prog 156 #[.pointer (some ⟨g, o, none⟩), .int .i64 r, .int .i64 c] w fun e w' => e = .returned (.int .u8 ((b.cell r c).toNat : Int)) ∧ Drew w w' := by
  obtain ⟨i, j, q, rfl, rfl, hq, hqi, hl, hlt, hin, hjn, hc⟩ := hb.place hi
  have HX := Lib.hid (hc hl)
  obtain ⟨g0, g1, g2⟩ := hg
  rw [hb.size] at g0
  have h15 := hb.hi
  clear hb hi hc hq
  go_enter Tryz.func156, Tryz.ntmps156
  go_wp2_with fail
  have w1 : IntKind.i64.wrap (q : Int) = q := IntWalk.i64_in _ (by omega)
  have w2 : IntKind.i64.wrap ((q : Int) + (j : Int)) = (q : Int) + j := IntWalk.i64_in _ (by omega)
  have w3 : ((q : Int) + (j : Int)).toNat = q + j := by omega
  have w4 : (0 : Int) ≤ (q : Int) + (j : Int) := by omega
  have w5 : (q : Int) + (j : Int) < (b.cells.size : Int) := by omega
  go_quiet (fail)
  clear w1 w2
  go_wp2
  go_ret
  exact ⟨by rw [HX.out]; rfl, ⟨_, rfl⟩⟩
theorem u8_46 {c : UInt8} (h : c.toNat = 46) : c = 46 := UInt8.toNat_inj.1 h
set_option maxHeartbeats 1000000 in
theorem l11Full_any (b : Brd) (n : Nat) (r c : Int) (g o : Nat) (w : World) (hb : b.Good n) (hg : BAt w g o b) :
    Calls Tryz.prog 155 #[.pointer (some ⟨g, o, none⟩), .int .i64 r, .int .i64 c] w fun e w' => e = .returned (.bool (fullC (b.cell r c))) ∧ Drew w w' := by
  cases hi : b.inB r c with
  | false =>
    have HE : Hid (fullC (b.cell r c) = false) := Lib.hid (by rw [Brd.cell_out hi]; rfl)
    go_enter Tryz.func155, Tryz.ntmps155
    go_wp2_with fail
    refine (l11In_any b n r c g o _ hb hg).mono ?_
    rintro e w' ⟨rfl, rfl⟩
    rw [hi]
    go_wp2
    go_ret
    exact ⟨ret_bool HE.out.symm, Drew.refl _⟩
  | true =>
    have HE : Hid (fullC (b.cell r c) = (((b.cell r c).toNat : Int) != 46)) := Lib.hid (by
      rw [hb.full_eq hi, Bool.eq_iff_iff, bne_iff_ne, bne_iff_ne]
      exact not_congr ⟨fun h => by rw [h]; rfl, fun h => u8_46 (by omega)⟩)
    go_enter Tryz.func155, Tryz.ntmps155
    go_wp2_with fail
    refine (l11In_any b n r c g o _ hb hg).mono ?_
    rintro e w' ⟨rfl, rfl⟩
    rw [hi]
    go_wp2_with fail
    refine (l11At_any b n r c g o _ hb hg hi).mono ?_
    rintro e w' ⟨rfl, hd⟩
    have HD := Lib.hid hd
    clear hd
    go_wp2
    go_ret
    exact ⟨ret_bool HE.out.symm, HD.out⟩
end Go.Proofs.YtpkadgibfmjmcaaGreatDoor
