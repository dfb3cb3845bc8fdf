/- What AddMember answers, as a plain function. -/
import Derived.Test.YtpodkgfapbcmlaaAddP
import Derived.Test.YtpodkgfapbcmlaaAll
namespace Go.Proofs.Ytpodkgfapbcmlaa
open Go.ChangeShapes Go.WideShapes Go.ChangeAt Go.RowKit Go.Sort

def addMember (ms : List Mem) (m : Mem) : List Mem × Int :=
  if (clubOk ms && memOk m) = false then ([], 1) else if 0 ≤ findMem m.name ms then ([], 4) else if 12 ≤ ms.length then ([], 5) else (addMem ms m, 0)
theorem addMem_len (ms : List Mem) (m : Mem) : (addMem ms m).length = ms.length + 1 := by
  induction ms with
  | nil => rfl
  | cons x xs ih => unfold addMem; split <;> simp [ih]
theorem addMember_bad {ms : List Mem} {m : Mem} (h : (clubOk ms && memOk m) = false) : addMember ms m = ([], 1) := by unfold addMember; rw [if_pos h]
theorem addMember_found {ms : List Mem} {m : Mem} (h : (clubOk ms && memOk m) = true) (h1 : 0 ≤ findMem m.name ms) : addMember ms m = ([], 4) := by unfold addMember; rw [if_neg (by simp [h]), if_pos h1]
theorem addMember_full {ms : List Mem} {m : Mem} (h : (clubOk ms && memOk m) = true) (h1 : ¬ 0 ≤ findMem m.name ms) (h2 : 12 ≤ ms.length) : addMember ms m = ([], 5) := by unfold addMember; rw [if_neg (by simp [h]), if_neg h1, if_pos h2]
theorem addMember_ok {ms : List Mem} {m : Mem} (h : (clubOk ms && memOk m) = true) (h1 : ¬ 0 ≤ findMem m.name ms) (h2 : ¬ 12 ≤ ms.length) : addMember ms m = (addMem ms m, 0) := by unfold addMember; rw [if_neg (by simp [h]), if_neg h1, if_neg h2]
end Go.Proofs.Ytpodkgfapbcmlaa
