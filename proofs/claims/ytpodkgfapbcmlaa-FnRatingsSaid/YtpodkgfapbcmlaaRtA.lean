/- Contracts: ExpectedOf (program and reference), ValidClub of the reference. -/
import Derived.Test.YtpodkgfapbcmlaaRtP
import Derived.Test.YtpodkgfapbcmlaaAllS
namespace Go.Proofs.Ytpodkgfapbcmlaa
open Go.ChangeShapes Go.WideShapes Go.ChangeAt Go.RowKit Go.Sort

def expectedOf (a b : Int) : Int × Int := if (withinB a 0 4000 && withinB b 0 4000) = true then (expect a b, 0) else (0, 2)
theorem expectedOf_no {a b : Int} (h : (withinB a 0 4000 && withinB b 0 4000) = false) : expectedOf a b = (0, 2) := by unfold expectedOf; rw [if_neg (by rw [h]; decide)]
theorem expectedOf_yes {a b : Int} (h1 : withinB a 0 4000 = true) (h2 : withinB b 0 4000 = true) : expectedOf a b = (expect a b, 0) := by unfold expectedOf; rw [if_pos (by rw [h1, h2]; rfl)]
theorem within_bd {a : Int} (h : withinB a 0 4000 = true) : 0 ≤ a ∧ a ≤ 4000 := by simpa [withinB] using h
theorem expectedOf_swap (a b : Int) : (expectedOf b a).2 = (expectedOf a b).2 ∧ ((expectedOf a b).2 = 0 → (expectedOf a b).1 + (expectedOf b a).1 = 4000) := by
  cases h1 : withinB a 0 4000 with
  | false => rw [expectedOf_no (a := a) (b := b) (by simp [h1]), expectedOf_no (a := b) (b := a) (by simp [h1])]; exact ⟨rfl, fun h => absurd h (by decide)⟩
  | true =>
    cases h2 : withinB b 0 4000 with
    | false => rw [expectedOf_no (a := a) (b := b) (by simp [h2]), expectedOf_no (a := b) (b := a) (by simp [h2])]; exact ⟨rfl, fun h => absurd h (by decide)⟩
    | true => rw [expectedOf_yes h1 h2, expectedOf_yes h2 h1]; exact ⟨rfl, fun _ => expect_sum a b⟩
theorem expectedOf_bd (a b : Int) : 0 ≤ (expectedOf a b).1 ∧ (expectedOf a b).1 ≤ 4000 := by
  unfold expectedOf
  split
  · exact expect_bd a b
  · exact ⟨by decide, by decide⟩
theorem ExpectedOf_any (a b : Int) (w : World) : Calls Try.prog 36 #[.int .i64 a, .int .i64 b] w fun e w' => e = .returned (.tuple #[.int .i64 (expectedOf a b).1, .int .i64 (expectedOf a b).2]) ∧ w = w' := by
  have hx := within_any a 0 4000 w
  have hy := within_any b 0 4000 w
  cases h1 : withinB a 0 4000 with
  | false =>
    have HE := Lib.hid (expectedOf_no (a := a) (b := b) (by rw [h1]; rfl))
    rw [h1] at hx
    have HX := Lib.hid hx
    clear hx hy h1
    go_enter Try.func36, Try.ntmps36
    go_wp2_with (go_at_call 82; refine HX.out.mono ?_; rintro e w' ⟨rfl, rfl⟩)
    go_ret2
    rw [HE.out]
    exact ⟨rfl, rfl⟩
  | true =>
    rw [h1] at hx
    cases h2 : withinB b 0 4000 with
    | false =>
      have HE := Lib.hid (expectedOf_no (a := a) (b := b) (by rw [h2, Bool.and_false]))
      rw [h2] at hy
      have HX := Lib.hid hx
      have HY := Lib.hid hy
      clear hx hy h1 h2
      go_enter Try.func36, Try.ntmps36
      go_wp2_with fail
      refine HX.out.mono ?_
      rintro e w' ⟨rfl, rfl⟩
      go_wp2_with fail
      refine HY.out.mono ?_
      rintro e w' ⟨rfl, rfl⟩
      go_wp2
      go_ret2
      rw [HE.out]
      exact ⟨rfl, rfl⟩
    | true =>
      obtain ⟨a0, a1⟩ := within_bd h1
      obtain ⟨b0, b1⟩ := within_bd h2
      have HE := Lib.hid (expectedOf_yes h1 h2)
      rw [h2] at hy
      have HX := Lib.hid hx
      have HY := Lib.hid hy
      have HZ := Lib.hid (expected_any a b w a0 a1 b0 b1)
      clear hx hy h1 h2
      go_enter Try.func36, Try.ntmps36
      go_wp2_with fail
      refine HX.out.mono ?_
      rintro e w' ⟨rfl, rfl⟩
      go_wp2_with fail
      refine HY.out.mono ?_
      rintro e w' ⟨rfl, rfl⟩
      go_wp2_with fail
      refine HZ.out.mono ?_
      rintro e w' ⟨rfl, rfl⟩
      go_wp2
      go_ret2
      rw [HE.out]
      exact ⟨rfl, rfl⟩
theorem specExpectedOf_any (a b : Int) (w : World) : Calls Try.prog 37 #[.int .i64 a, .int .i64 b] w fun e w' => e = .returned (.tuple #[.int .i64 (expectedOf a b).1, .int .i64 (expectedOf a b).2]) ∧ w = w' := by
  have hx := l26Rating_any a w
  have hy := l26Rating_any b w
  cases h1 : withinB a 0 4000 with
  | false =>
    have HE := Lib.hid (expectedOf_no (a := a) (b := b) (by rw [h1]; rfl))
    rw [h1] at hx
    have HX := Lib.hid hx
    clear hx hy h1
    go_enter Try.func37, Try.ntmps37
    go_wp2_with (go_at_call 84; refine HX.out.mono ?_; rintro e w' ⟨rfl, rfl⟩)
    go_ret2
    rw [HE.out]
    exact ⟨rfl, rfl⟩
  | true =>
    rw [h1] at hx
    cases h2 : withinB b 0 4000 with
    | false =>
      have HE := Lib.hid (expectedOf_no (a := a) (b := b) (by rw [h2, Bool.and_false]))
      rw [h2] at hy
      have HX := Lib.hid hx
      have HY := Lib.hid hy
      clear hx hy h1 h2
      go_enter Try.func37, Try.ntmps37
      go_wp2_with fail
      refine HX.out.mono ?_
      rintro e w' ⟨rfl, rfl⟩
      go_wp2_with fail
      refine HY.out.mono ?_
      rintro e w' ⟨rfl, rfl⟩
      go_wp2
      go_ret2
      rw [HE.out]
      exact ⟨rfl, rfl⟩
    | true =>
      obtain ⟨a0, a1⟩ := within_bd h1
      obtain ⟨b0, b1⟩ := within_bd h2
      have HE := Lib.hid (expectedOf_yes h1 h2)
      rw [h2] at hy
      have HX := Lib.hid hx
      have HY := Lib.hid hy
      have HZ := Lib.hid (l26Expected_any a b w a0 a1 b0 b1)
      clear hx hy h1 h2
      go_enter Try.func37, Try.ntmps37
      go_wp2_with fail
      refine HX.out.mono ?_
      rintro e w' ⟨rfl, rfl⟩
      go_wp2_with fail
      refine HY.out.mono ?_
      rintro e w' ⟨rfl, rfl⟩
      go_wp2_with fail
      refine HZ.out.mono ?_
      rintro e w' ⟨rfl, rfl⟩
      go_wp2
      go_ret2
      rw [HE.out]
      exact ⟨rfl, rfl⟩
theorem specValidClub_any (ms : List Mem) (a : Option Addr) (cap : Nat) (w : World) (hm : SliceAt w 2 Mem.enc a ms) (hl : ms.length ≤ 9223372036854775807) (hf : MemsFit ms) :
    Calls Try.prog 41 #[.agg #[.slice a ms.length cap]] w fun e w' => e = .returned (.bool (clubOk ms)) ∧ Below w.heap.size w w' := by
  have hb : Below w.heap.size w (w.alloc (.cells #[.slice a ms.length cap] 30)) := (Below.refl _ _).alloc (Nat.le_refl _) _
  have c1 := cell_new0 w #[.slice a ms.length cap] 30 (i := 0) (v := .slice a ms.length cap) rfl
  have HM := Lib.hid (hm.kept hb)
  clear hm
  go_enter Try.func41, Try.ntmps41
  go_wp2_with fail
  refine (l26Ok_any ms _ 0 a cap _ c1 HM.out hl hf).mono ?_
  rintro e w2 ⟨rfl, hd⟩
  go_wp2
  go_ret
  exact ⟨rfl, hb.trans ((hd.below _).mono hb.size)⟩
end Go.Proofs.Ytpodkgfapbcmlaa
