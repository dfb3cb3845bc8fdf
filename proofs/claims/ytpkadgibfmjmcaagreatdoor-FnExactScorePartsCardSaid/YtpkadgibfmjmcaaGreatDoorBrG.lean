/- Contracts: the reference's letters around a square. For valid boards. -/
import Derived.Test.YtpkadgibfmjmcaaGreatDoorBrE
namespace Go.Proofs.YtpkadgibfmjmcaaGreatDoor
open Go.ChangeShapes Go.WideShapes Go.ChangeAt Go.RowKit Go.Sort

/-! ### Plain -/
theorem upL_full {F : Fl} {c r : Int} {k : Nat} (h : fullC (F r c) = true) : upL F c (k + 1) r = F r c :: upL F c k (r - 1) := by
  rw [upL, if_pos h]
theorem upL_stop {F : Fl} {c r : Int} {k : Nat} (h : fullC (F r c) = false) : upL F c k r = [] := by
  cases k with
  | zero => rfl
  | succ k => rw [upL, h]; rfl
theorem dnL_full {F : Fl} {c r : Int} {k : Nat} (h : fullC (F r c) = true) : dnL F c (k + 1) r = F r c :: dnL F c k (r + 1) := by
  rw [dnL, if_pos h]
theorem dnL_stop {F : Fl} {c r : Int} {k : Nat} (h : fullC (F r c) = false) : dnL F c k r = [] := by
  cases k with
  | zero => rfl
  | succ k => rw [dnL, h]; rfl
/-- the letters that were read, and those that are left, are all -/
theorem run_step {pre rest U : List UInt8} {x : UInt8} (h : pre ++ x :: rest = U) : (pre ++ [x]) ++ rest = U := by
  rw [List.append_assoc]; exact h
theorem run_end {pre U : List UInt8} (h : pre ++ [] = U) : pre = U := by rwa [List.append_nil] at h

theorem Drew.bels {w w' : World} (h : Drew w w') : Below w.heap.size w w' := h.below _
end Go.Proofs.YtpkadgibfmjmcaaGreatDoor
