/- Plain: a word in an increasing list, found from the left or by halves. No condition. -/
import Derived.Test.YtoeoijkhlpacdaaGreatDoorLex
import Derived.Shelf.Spec.SearchS
namespace Go.Proofs.YtoeoijkhlpacdaaGreatDoor
open Go.ChangeShapes Go.WideShapes Go.ChangeAt Go.RowKit Go.Sort

def lessW (ws : List ByteArray) (x : ByteArray) (t : Nat) : Bool := Op.bytesLess (ws.getD t x).toList x.toList
/-- where a word stands, or would stand -/
def findW (ws : List ByteArray) (x : ByteArray) : Nat := Lib.bsGo (lessW ws x) ws.length 0 ws.length
def hasW (ws : List ByteArray) (x : ByteArray) : Bool := decide (findW ws x < ws.length ∧ ws.getD (findW ws x) x = x)
theorem inc_mono {ws : List ByteArray} (h : (List.range ws.length).all (incAt ws) = true) {x : ByteArray} : ∀ (d k : Nat), k + 1 + d < ws.length → (ws.getD k x).toList < (ws.getD (k + 1 + d) x).toList
  | 0, k, hk => by
    have h1 := List.all_eq_true.1 h (k + 1) (List.mem_range.2 hk)
    unfold incAt at h1
    rw [bytesLess_eq] at h1
    simp only [Nat.add_sub_cancel, Bool.or_eq_true, beq_iff_eq, decide_eq_true_eq] at h1
    rcases h1 with h1 | h1
    · omega
    · rw [getD_at (show k < ws.length by omega), getD_at (show k + 1 < ws.length by omega)] at h1
      rw [List.getD_eq_getElem?_getD, List.getD_eq_getElem?_getD, List.getElem?_eq_getElem (show k < ws.length by omega), List.getElem?_eq_getElem (show k + 1 + 0 < ws.length by omega)]
      exact h1
  | d + 1, k, hk => by
    have h1 := inc_mono h (x := x) 0 (k + d + 1) (by omega)
    have h2 := inc_mono h (x := x) d k (by omega)
    have e1 : k + 1 + (d + 1) = k + d + 1 + 1 + 0 := by omega
    have e2 : k + 1 + d = k + d + 1 := by omega
    rw [e1]
    rw [e2] at h2
    exact List.lt_trans h2 h1
theorem firstW_eq {ws : List ByteArray} {x : ByteArray} (h : (List.range ws.length).all (incAt ws) = true) {k : Nat} (hk : k ≤ ws.length) (h1 : ∀ t, t < k → lessW ws x t = true) (h2 : k < ws.length → lessW ws x k = false) : findW ws x = k := by
  refine Lib.bsGo_spec (lessW ws x) k h1 (fun t ht => ?_) _ _ _ (by omega) (Nat.zero_le _) hk
  have hirr : ∀ y : List UInt8, decide (y < y) = false := fun y => decide_eq_false (List.lt_irrefl y)
  by_cases hn : t < ws.length
  · have h3 := h2 (by omega)
    by_cases he : t = k
    · rw [he]; exact h3
    · obtain ⟨d, rfl⟩ : ∃ d, t = k + 1 + d := ⟨t - k - 1, by omega⟩
      have h4 := inc_mono h (x := x) d k hn
      unfold lessW at h3 ⊢
      rw [bytesLess_eq] at h3 ⊢
      rw [decide_eq_false_iff_not] at h3 ⊢
      exact fun h5 => h3 (List.lt_trans h4 h5)
  · unfold lessW
    rw [bytesLess_eq, List.getD_eq_getElem?_getD, List.getElem?_eq_none (by omega)]
    exact hirr _
theorem inc_of_lex {ws : List ByteArray} (h : lexOk ws = true) : (List.range ws.length).all (incAt ws) = true := by
  rw [lex_split] at h
  simp only [Bool.and_eq_true] at h
  exact h.1.2
theorem len_of_lex {ws : List ByteArray} (h : lexOk ws = true) : ws.length ≤ 200 := by
  rw [lex_split] at h
  simp only [Bool.and_eq_true, decide_eq_true_eq] at h
  exact h.1.1
end Go.Proofs.YtoeoijkhlpacdaaGreatDoor
