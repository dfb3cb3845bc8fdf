/- Contracts of the small functions on bytes, numbers and names (IsName, within, ..), of the program and of the reference. No condition. · Contract of the statements' own markText (m and the decimal digits of a number). -/
import Derived.Test.YtpkadgibfmjmcaaGreatDoorProg
import Derived.Test.YtpkadgibfmjmcaaGreatDoorBase
import Derived.Handy
namespace Go.Proofs.YtpkadgibfmjmcaaGreatDoor
open Go.ChangeShapes Go.WideShapes Go.ChangeAt Go.RowKit

def smallB (c : Int) : Bool := decide (97 ≤ c) && decide (c ≤ 122)
def digitB (c : Int) : Bool := decide (48 ≤ c) && decide (c ≤ 57)
def nameCh (c : UInt8) : Bool := smallB c.toNat || digitB c.toNat || c.toNat == 45
def headSmall : List UInt8 → Bool
  | [] => false
  | c :: _ => smallB c.toNat
def isNameL (l : List UInt8) : Bool := decide (1 ≤ l.length) && decide (l.length ≤ 12) && headSmall l && l.all nameCh
def withinB (x lo hi : Int) : Bool := decide (lo ≤ x) && decide (x ≤ hi)

theorem small_any (c : Int) (w : World) : Calls Tryz.prog 176 #[.int .u8 c] w fun e w' => e = .returned (.bool (smallB c)) ∧ w = w' := by
  go_enter Tryz.func176, Tryz.ntmps176
  go_wp2
  all_goals (go_ret; exact ⟨ret_bool (by unfold smallB; rw [Bool.eq_iff_iff]; simp only [Bool.and_eq_true, decide_eq_true_eq, Bool.false_eq_true, false_iff]; omega), rfl⟩)
theorem l01Small_any (c : Int) (w : World) : Calls Tryz.prog 89 #[.int .u8 c] w fun e w' => e = .returned (.bool (smallB c)) ∧ w = w' := by
  go_enter Tryz.func89, Tryz.ntmps89
  go_wp2
  all_goals (go_ret; exact ⟨ret_bool (by unfold smallB; rw [Bool.eq_iff_iff]; simp only [Bool.and_eq_true, decide_eq_true_eq, Bool.false_eq_true, false_iff]; omega), rfl⟩)
theorem within_any (x lo hi : Int) (w : World) : Calls Tryz.prog 78 #[.int .i64 x, .int .i64 lo, .int .i64 hi] w fun e w' => e = .returned (.bool (withinB x lo hi)) ∧ w = w' := by
  go_enter Tryz.func78, Tryz.ntmps78
  go_wp2
  all_goals (go_ret; exact ⟨ret_bool (by unfold withinB; rw [Bool.eq_iff_iff]; simp only [Bool.and_eq_true, decide_eq_true_eq, Bool.false_eq_true, false_iff]; omega), rfl⟩)
theorem l00In_any (x lo hi : Int) (w : World) : Calls Tryz.prog 84 #[.int .i64 x, .int .i64 lo, .int .i64 hi] w fun e w' => e = .returned (.bool (withinB x lo hi)) ∧ w = w' := by
  go_enter Tryz.func84, Tryz.ntmps84
  go_wp2
  all_goals (go_ret; exact ⟨ret_bool (by unfold withinB; rw [Bool.eq_iff_iff]; simp only [Bool.and_eq_true, decide_eq_true_eq, Bool.false_eq_true, false_iff]; omega), rfl⟩)

theorem take_all_succ {l : List UInt8} {p : UInt8 → Bool} {k : Nat} (h : k < l.length) : (l.take (k + 1)).all p = ((l.take k).all p && p l[k]) := by
  rw [List.take_succ_eq_append_getElem h, List.all_append]
  simp
theorem all_false_of {l : List UInt8} {p : UInt8 → Bool} {k : Nat} (h : k < l.length) (hp : p l[k] = false) : l.all p = false := by
  rw [List.all_eq_false]
  exact ⟨l[k], List.getElem_mem h, by simp [hp]⟩
theorem name_no_short {l : List UInt8} (h : l.length < 1) : isNameL l = false := by
  unfold isNameL
  have : decide (1 ≤ l.length) = false := by simpa using h
  simp [this]
theorem name_no_long {l : List UInt8} (h : 12 < l.length) : isNameL l = false := by
  unfold isNameL
  have : decide (l.length ≤ 12) = false := by simpa using h
  simp [this]
theorem headSmall_get {l : List UInt8} (h : 0 < l.length) : headSmall l = smallB l[0].toNat := by
  cases l with
  | nil => simp at h
  | cons c l => rfl
theorem name_no_head {l : List UInt8} (h : headSmall l = false) : isNameL l = false := by
  unfold isNameL
  simp [h]
theorem name_no_char {l : List UInt8} {k : Nat} (h : k < l.length) (hp : nameCh l[k] = false) : isNameL l = false := by
  unfold isNameL
  simp [all_false_of h hp]
theorem name_yes {l : List UInt8} (h1 : 1 ≤ l.length) (h2 : l.length ≤ 12) (h3 : headSmall l = true) (h4 : (l.take l.length).all nameCh = true) : isNameL l = true := by
  unfold isNameL
  rw [List.take_length] at h4
  simp [h1, h2, h3, h4]
theorem bytes_get (s : ByteArray) (k : Nat) (h : k < s.size) : s.data.toList[k]'(by simpa using h) = s[k] := rfl
theorem nameCh_s {c : UInt8} (h : smallB c.toNat = true) : nameCh c = true := by simp [nameCh, h]
theorem nameCh_d {c : UInt8} (h : digitB c.toNat = true) : nameCh c = true := by simp [nameCh, h]
theorem nameCh_m {c : UInt8} (h : ((c.toNat : Int) != 45) = false) : nameCh c = true := by
  have h' : c.toNat = 45 := by simp at h; omega
  simp [nameCh, h']
theorem nameCh_no {c : UInt8} (h1 : ¬ smallB c.toNat = true) (h2 : ¬ digitB c.toNat = true) (h3 : ((c.toNat : Int) != 45) = true) : nameCh c = false := by
  have h' : ¬ c.toNat = 45 := by simp at h3; omega
  simp [nameCh, h1, h2, h']

end Go.Proofs.YtpkadgibfmjmcaaGreatDoor

namespace Go.Proofs.YtpkadgibfmjmcaaGreatDoor
open Go.ChangeShapes Go.WideShapes Go.ChangeAt Go.RowKit Go.Sort

def mtDig (k : Nat) (out : List UInt8) : List UInt8 :=
  if k = 0 then out else mtDig (k / 10) (UInt8.ofNat (48 + k % 10) :: out)
  termination_by k
  decreasing_by omega
def mtL (k : Nat) : List UInt8 := if k = 0 then [109, 48] else 109 :: mtDig k []
def mtext (k : Nat) : ByteArray := ⟨(mtL k).toArray⟩

theorem bs_app (a b : List UInt8) : (⟨a.toArray⟩ : ByteArray) ++ ⟨b.toArray⟩ = ⟨(a ++ b).toArray⟩ := by
  apply ByteArray.ext
  simp
theorem bs_cons (x : Int) (n : Nat) (out : List UInt8) (h : x.toNat = n) : Value.string (strOfNums [x] ++ ⟨out.toArray⟩) = Value.string ⟨(UInt8.ofNat n :: out).toArray⟩ := by
  subst h
  rw [show strOfNums [x] = ⟨[UInt8.ofNat x.toNat].toArray⟩ from rfl, bs_app]
  rfl
end Go.Proofs.YtpkadgibfmjmcaaGreatDoor
