/- Contracts: words, long words, valid lexicons: the reference's and the program's. No condition but bounds on sizes. · Plain: a word in an increasing list, found from the left or by halves. No condition. · Contracts: the reference's look-up in a lexicon; the words that a valid play forms and a valid lexicon does not have. -/
import Derived.Test.YtjdcdhhbgijaoaaGreatDoorVar
import Derived.Test.YtjdcdhhbgijaoaaGreatDoorFrame
import Derived.Sort.Walk0
import Derived.Shelf.Spec.SearchS
namespace Go.Proofs.YtjdcdhhbgijaoaaGreatDoor
open Go.ChangeShapes Go.WideShapes Go.ChangeAt Go.RowKit Go.Sort

def wordL (l : List UInt8) : Bool := decide (1 ≤ l.length) && decide (l.length ≤ 12) && l.all fun c => smallB c.toNat
theorem word_short {l : List UInt8} (h : l.length < 1) : wordL l = false := by
  unfold wordL; rw [decide_eq_false (by omega)]; rfl
theorem word_long {l : List UInt8} (h : 12 < l.length) : wordL l = false := by
  unfold wordL; rw [decide_eq_false (p := l.length ≤ 12) (by omega)]; simp
set_option maxHeartbeats 1000000 in
theorem onlySmall_any (s : ByteArray) (w : World) (hs : s.size ≤ 9223372036854775807) : Calls Tryz.prog 247 #[.string s] w fun e w' => e = .returned (.bool (s.data.toList.all fun c => smallB c.toNat)) ∧ Below w.heap.size w w' := by
  have hl : s.data.toList.length = s.size := by simp
  have HL := Lib.hid hl
  clear hl
  obtain ⟨cap, w1, hc, hcv, hr, hb⟩ := bytes_of s w
  have HR := Lib.hid hr
  clear hr
  go_enter Tryz.func247, Tryz.ntmps247
  go_wp2_with fail
  clear hcv
  go_loopw [8] (fun i wr => ∃ k : Nat, k ≤ s.size ∧ i = .int .i64 k ∧ Hid ((s.data.toList.take k).all (fun c => smallB c.toNat) = true) ∧ w1 = wr) (fun i _ => s.size - (intOf i).toNat)
  case atStart => exact ⟨0, Nat.zero_le _, rfl, Lib.hid rfl, rfl⟩
  case round =>
    obtain ⟨k, hk, rfl, HA, rfl⟩ := hrel
    by_cases hlt : k < s.size
    · have c0 := HR.out.cell (i := k) (by rw [HL.out]; exact hlt)
      have HG : Hid (∀ h : k < s.data.toList.length, s.data.toList[k] = s[k]) := Lib.hid (fun h => bytes_get s k hlt)
      rw [HG.out] at c0
      cases hsm : smallB (s[k].toNat : Int) with
      | false =>
        go_wp2_with fail
        refine (small_any _ _).mono ?_
        rintro e w' ⟨rfl, rfl⟩
        rw [hsm]
        have HN : Hid (s.data.toList.all (fun c => smallB c.toNat) = false) := Lib.hid (all_false_of (k := k) (p := fun c => smallB c.toNat) (by rw [HL.out]; exact hlt) (by rw [HG.out]; exact hsm))
        clear hsm
        go_wp2
        go_ret
        exact ⟨ret_bool HN.out.symm, hb⟩
      | true =>
        go_wp2_with fail
        refine (small_any _ _).mono ?_
        rintro e w' ⟨rfl, rfl⟩
        rw [hsm]
        have HN : Hid ((s.data.toList.take (k + 1)).all (fun c => smallB c.toNat) = true) := Lib.hid (by rw [take_all_succ (by rw [HL.out]; exact hlt), HA.out, Bool.true_and, HG.out]; exact hsm)
        clear hsm
        go_wp2
        go_roundw
        case rel => exact ⟨k + 1, by omega, by go_num, HN, trivial⟩
        case measure => simp [intOf]; omega
    · obtain rfl : k = s.size := by omega
      have HN : Hid (s.data.toList.all (fun c => smallB c.toNat) = true) := Lib.hid (by have h := HA.out; rwa [← HL.out, List.take_length] at h)
      go_wp2
      go_ret
      exact ⟨ret_bool HN.out.symm, hb⟩
theorem IsWord_any (s : ByteArray) (w : World) (hs : s.size ≤ 9223372036854775807) : Calls Tryz.prog 235 #[.string s] w fun e w' => e = .returned (.bool (wordL s.data.toList)) ∧ Below w.heap.size w w' := by
  have hl : s.data.toList.length = s.size := by simp
  have HL := Lib.hid hl
  clear hl
  by_cases h1 : s.size < 1
  · have HN := Lib.hid (word_short (l := s.data.toList) (by rw [HL.out]; exact h1))
    go_enter Tryz.func235, Tryz.ntmps235
    go_wp2
    go_ret
    exact ⟨ret_bool HN.out.symm, Below.refl _ _⟩
  · by_cases h2 : 12 < s.size
    · have HN := Lib.hid (word_long (l := s.data.toList) (by rw [HL.out]; exact h2))
      have h1' : (1 : Int) ≤ (s.size : Int) := by omega
      go_enter Tryz.func235, Tryz.ntmps235
      go_wp2
      go_ret
      exact ⟨ret_bool HN.out.symm, Below.refl _ _⟩
    · have HN : Hid (wordL s.data.toList = s.data.toList.all fun c => smallB c.toNat) := Lib.hid (by unfold wordL; rw [decide_eq_true (by rw [HL.out]; omega), decide_eq_true (by rw [HL.out]; omega)]; rfl)
      have h1' : (1 : Int) ≤ (s.size : Int) := by omega
      have h2' : (s.size : Int) ≤ 12 := by omega
      go_enter Tryz.func235, Tryz.ntmps235
      go_wp2_with fail
      refine (onlySmall_any s _ hs).mono ?_
      rintro e w' ⟨rfl, hd⟩
      rw [← HN.out]
      go_wp2
      go_ret
      exact ⟨rfl, hd⟩
end Go.Proofs.YtjdcdhhbgijaoaaGreatDoor

namespace Go.Proofs.YtjdcdhhbgijaoaaGreatDoor
open Go.ChangeShapes Go.WideShapes Go.ChangeAt Go.RowKit Go.Sort

end Go.Proofs.YtjdcdhhbgijaoaaGreatDoor

namespace Go.Proofs.YtjdcdhhbgijaoaaGreatDoor
open Go.ChangeShapes Go.WideShapes Go.ChangeAt Go.RowKit Go.Sort

end Go.Proofs.YtjdcdhhbgijaoaaGreatDoor
