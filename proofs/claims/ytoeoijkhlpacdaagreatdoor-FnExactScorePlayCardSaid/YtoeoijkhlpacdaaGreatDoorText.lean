/- Contracts of the small functions on bytes, numbers and names (IsName, within, ..), of the program and of the reference. No condition. · Contract of the statements' own markText (m and the decimal digits of a number). -/
import Derived.Test.YtoeoijkhlpacdaaGreatDoorProg
import Derived.Test.YtoeoijkhlpacdaaGreatDoorBase
import Derived.Handy
namespace Go.Proofs.YtoeoijkhlpacdaaGreatDoor
open Go.ChangeShapes Go.WideShapes Go.ChangeAt Go.RowKit

def smallB (c : Int) : Bool := decide (97 ≤ c) && decide (c ≤ 122)
def digitB (c : Int) : Bool := decide (48 ≤ c) && decide (c ≤ 57)
def nameCh (c : UInt8) : Bool := smallB c.toNat || digitB c.toNat || c.toNat == 45
def headSmall : List UInt8 → Bool
  | [] => false
  | c :: _ => smallB c.toNat
def isNameL (l : List UInt8) : Bool := decide (1 ≤ l.length) && decide (l.length ≤ 12) && headSmall l && l.all nameCh
def withinB (x lo hi : Int) : Bool := decide (lo ≤ x) && decide (x ≤ hi)

theorem small_any (c : Int) (w : World) : Calls Tryz.prog 182 #[.int .u8 c] w fun e w' => e = .returned (.bool (smallB c)) ∧ w = w' := by
  go_enter Tryz.func182, Tryz.ntmps182
  go_wp2
  all_goals (go_ret; exact ⟨ret_bool (by unfold smallB; rw [Bool.eq_iff_iff]; simp only [Bool.and_eq_true, decide_eq_true_eq, Bool.false_eq_true, false_iff]; omega), rfl⟩)
theorem l01Small_any (c : Int) (w : World) : Calls Tryz.prog 130 #[.int .u8 c] w fun e w' => e = .returned (.bool (smallB c)) ∧ w = w' := by
  go_enter Tryz.func130, Tryz.ntmps130
  go_wp2
  all_goals (go_ret; exact ⟨ret_bool (by unfold smallB; rw [Bool.eq_iff_iff]; simp only [Bool.and_eq_true, decide_eq_true_eq, Bool.false_eq_true, false_iff]; omega), rfl⟩)
theorem within_any (x lo hi : Int) (w : World) : Calls Tryz.prog 173 #[.int .i64 x, .int .i64 lo, .int .i64 hi] w fun e w' => e = .returned (.bool (withinB x lo hi)) ∧ w = w' := by
  go_enter Tryz.func173, Tryz.ntmps173
  go_wp2
  all_goals (go_ret; exact ⟨ret_bool (by unfold withinB; rw [Bool.eq_iff_iff]; simp only [Bool.and_eq_true, decide_eq_true_eq, Bool.false_eq_true, false_iff]; omega), rfl⟩)
theorem l00In_any (x lo hi : Int) (w : World) : Calls Tryz.prog 129 #[.int .i64 x, .int .i64 lo, .int .i64 hi] w fun e w' => e = .returned (.bool (withinB x lo hi)) ∧ w = w' := by
  go_enter Tryz.func129, Tryz.ntmps129
  go_wp2
  all_goals (go_ret; exact ⟨ret_bool (by unfold withinB; rw [Bool.eq_iff_iff]; simp only [Bool.and_eq_true, decide_eq_true_eq, Bool.false_eq_true, false_iff]; omega), rfl⟩)

theorem take_all_succ {l : List UInt8} {p : UInt8 → Bool} {k : Nat} (h : k < l.length) : (l.take (k + 1)).all p = ((l.take k).all p && p l[k]) := by
  rw [List.take_succ_eq_append_getElem h, List.all_append]
  simp
theorem all_false_of {l : List UInt8} {p : UInt8 → Bool} {k : Nat} (h : k < l.length) (hp : p l[k] = false) : l.all p = false := by
  rw [List.all_eq_false]
  exact ⟨l[k], List.getElem_mem h, by simp [hp]⟩
theorem name_no_short {l : List UInt8} (h : l.length < 1) : isNameL l = false := by
  unfold isNameL
  have : decide (1 ≤ l.length) = false := by simpa using h
  simp [this]
theorem name_no_long {l : List UInt8} (h : 12 < l.length) : isNameL l = false := by
  unfold isNameL
  have : decide (l.length ≤ 12) = false := by simpa using h
  simp [this]
theorem headSmall_get {l : List UInt8} (h : 0 < l.length) : headSmall l = smallB l[0].toNat := by
  cases l with
  | nil => simp at h
  | cons c l => rfl
theorem name_no_head {l : List UInt8} (h : headSmall l = false) : isNameL l = false := by
  unfold isNameL
  simp [h]
theorem name_no_char {l : List UInt8} {k : Nat} (h : k < l.length) (hp : nameCh l[k] = false) : isNameL l = false := by
  unfold isNameL
  simp [all_false_of h hp]
theorem name_yes {l : List UInt8} (h1 : 1 ≤ l.length) (h2 : l.length ≤ 12) (h3 : headSmall l = true) (h4 : (l.take l.length).all nameCh = true) : isNameL l = true := by
  unfold isNameL
  rw [List.take_length] at h4
  simp [h1, h2, h3, h4]
theorem bytes_get (s : ByteArray) (k : Nat) (h : k < s.size) : s.data.toList[k]'(by simpa using h) = s[k] := rfl
theorem nameCh_s {c : UInt8} (h : smallB c.toNat = true) : nameCh c = true := by simp [nameCh, h]
theorem nameCh_d {c : UInt8} (h : digitB c.toNat = true) : nameCh c = true := by simp [nameCh, h]
theorem nameCh_m {c : UInt8} (h : ((c.toNat : Int) != 45) = false) : nameCh c = true := by
  have h' : c.toNat = 45 := by simp at h; omega
  simp [nameCh, h']
theorem nameCh_no {c : UInt8} (h1 : ¬ smallB c.toNat = true) (h2 : ¬ digitB c.toNat = true) (h3 : ((c.toNat : Int) != 45) = true) : nameCh c = false := by
  have h' : ¬ c.toNat = 45 := by simp at h3; omega
  simp [nameCh, h1, h2, h']

end Go.Proofs.YtoeoijkhlpacdaaGreatDoor

namespace Go.Proofs.YtoeoijkhlpacdaaGreatDoor
open Go.ChangeShapes Go.WideShapes Go.ChangeAt Go.RowKit Go.Sort

def mtDig (k : Nat) (out : List UInt8) : List UInt8 :=
  if k = 0 then out else mtDig (k / 10) (UInt8.ofNat (48 + k % 10) :: out)
  termination_by k
  decreasing_by omega
def mtL (k : Nat) : List UInt8 := if k = 0 then [109, 48] else 109 :: mtDig k []
def mtext (k : Nat) : ByteArray := ⟨(mtL k).toArray⟩

theorem bs_app (a b : List UInt8) : (⟨a.toArray⟩ : ByteArray) ++ ⟨b.toArray⟩ = ⟨(a ++ b).toArray⟩ := by
  apply ByteArray.ext
  simp
theorem bs_cons (x : Int) (n : Nat) (out : List UInt8) (h : x.toNat = n) : Value.string (strOfNums [x] ++ ⟨out.toArray⟩) = Value.string ⟨(UInt8.ofNat n :: out).toArray⟩ := by
  subst h
  rw [show strOfNums [x] = ⟨[UInt8.ofNat x.toNat].toArray⟩ from rfl, bs_app]
  rfl
set_option maxRecDepth 100000 in
set_option maxHeartbeats 1000000 in
theorem markText_any (k : Nat) (w : World) (hk : k ≤ 1099511627776) :
    Calls Tryz.prog 65 #[.int .i64 k] w fun e w' => e = .returned (.string (mtext k)) ∧ Below w.heap.size w w' := by
  by_cases h0 : k = 0
  · subst h0
    go_enter Tryz.func65, Tryz.ntmps65
    go_wp2
    go_ret
    exact ⟨rfl, Below.refl _ _⟩
  · have h1 : ¬ (k : Int) ≤ 0 := by omega
    go_enter Tryz.func65, Tryz.ntmps65
    go_wp2
    go_loopw [0, 3] (fun a s wr => ∃ (j : Nat) (out : List UInt8), a = .int .i64 j ∧ s = .string ⟨out.toArray⟩ ∧ out.length + j ≤ k ∧ Hid (mtDig j out = mtDig k []) ∧ Below w.heap.size w wr) (fun a _ _ => (intOf a).toNat)
    case atStart => exact ⟨k, [], rfl, rfl, by simp, rfl, Below.refl _ _⟩
    case round =>
      obtain ⟨j, out, rfl, rfl, hj, he, hb⟩ := hrel
      by_cases hp : 0 < j
      · have he2 : mtDig j out = mtDig (j / 10) (UInt8.ofNat (48 + j % 10) :: out) := by rw [mtDig, if_neg (by omega)]
        have HE : Hid (mtDig (j / 10) (UInt8.ofNat (48 + j % 10) :: out) = mtDig k []) := he2.symm.trans he.out
        clear he he2
        have hcv := run_convert_bytes_arg (P := Tryz.prog) (wr.alloc (.cells #[.int .u8 (48 + (j : Int) % 10)] 5)) 152 5 Tryz.underlying152 Tryz.underlying5 wr.heap.size 0 1 1 [48 + (j : Int) % 10] rfl
          (fun i hi => by
            obtain rfl : i = 0 := by omega
            exact cell_new0 _ _ _ rfl) 9 Tryz.underlying9
        have hlo : ¬ 9223372036854775807 < (strOfNums [48 + (j : Int) % 10]).size + out.length := by
          rw [strOfNums_size]
          simp only [List.length_cons, List.length_nil]
          omega
        go_wp2
        go_roundw
        case rel => exact ⟨j / 10, UInt8.ofNat (48 + j % 10) :: out, by go_num, bs_cons _ _ _ (by omega), by simp only [List.length_cons]; omega, HE, hb.alloc hb.size _⟩
        case measure => simp [intOf]; omega
      · go_wp2
        go_ret
        refine ⟨?_, hb⟩
        obtain rfl : j = 0 := by omega
        have h := he.out
        rw [mtDig, if_pos rfl] at h
        have h2 : mtext k = ⟨#[109]⟩ ++ ⟨out.toArray⟩ := by
          unfold mtext mtL
          rw [if_neg h0, ← h]
          exact (bs_app [109] out).symm
        rw [h2]
        rfl
theorem markText_int (x : Int) (w : World) (h0 : 0 ≤ x) (h1 : x ≤ 1099511627776) :
    Calls Tryz.prog 65 #[.int .i64 x] w fun e w' => e = .returned (.string (mtext x.toNat)) ∧ Below w.heap.size w w' := by
  obtain ⟨k, rfl⟩ := Int.eq_ofNat_of_zero_le h0
  rw [Int.toNat_natCast]
  exact markText_any k w (by omega)
end Go.Proofs.YtoeoijkhlpacdaaGreatDoor
