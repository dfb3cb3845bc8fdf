/- Contracts: words, long words, valid lexicons: the reference's and the program's. No condition but bounds on sizes. · Plain: a word in an increasing list, found from the left or by halves. No condition. · Contracts: the reference's look-up in a lexicon; the words that a valid play forms and a valid lexicon does not have. -/
import Derived.Test.YtalnbgcdhcnjfaaByt
import Derived.Test.YtalnbgcdhcnjfaaTx
import Derived.Test.YtalnbgcdhcnjfaaBase
import Derived.Test.YtalnbgcdhcnjfaaVar
import Derived.Sort.Walk0
import Derived.Shelf.Spec.SearchS
namespace Go.Proofs.Ytalnbgcdhcnjfaa
open Go.ChangeShapes Go.WideShapes Go.ChangeAt Go.RowKit Go.Sort

def wordL (l : List UInt8) : Bool := decide (1 ≤ l.length) && decide (l.length ≤ 12) && l.all fun c => smallB c.toNat
def longL (l : List UInt8) : Bool := decide (2 ≤ l.length) && wordL l
theorem word_short {l : List UInt8} (h : l.length < 1) : wordL l = false := by
  unfold wordL; rw [decide_eq_false (by omega)]; rfl
theorem word_long {l : List UInt8} (h : 12 < l.length) : wordL l = false := by
  unfold wordL; rw [decide_eq_false (p := l.length ≤ 12) (by omega)]; simp
theorem word_char {l : List UInt8} {k : Nat} (h : k < l.length) (hp : smallB (l[k].toNat : Int) = false) : wordL l = false := by
  unfold wordL; rw [all_false_of (p := fun c => smallB c.toNat) h hp]; simp
theorem word_yes {l : List UInt8} (h1 : 1 ≤ l.length) (h2 : l.length ≤ 12) (h : (l.take l.length).all (fun c => smallB c.toNat) = true) : wordL l = true := by
  rw [List.take_length] at h
  unfold wordL; rw [decide_eq_true h1, decide_eq_true h2, h]; rfl
theorem less_flip (x y : List UInt8) : (Op.bytesLess y x || y == x) = !(Op.bytesLess x y) := by
  rw [bytesLess_eq, bytesLess_eq]
  by_cases h : x < y
  · have h1 : ¬ y < x := List.lt_asymm h
    have h2 : y ≠ x := fun e => by subst e; exact List.lt_irrefl _ h
    simp [h, h1, h2]
  · have h1 : y < x ∨ y = x := List.le_iff_lt_or_eq.1 (List.not_lt.1 h)
    rcases h1 with h1 | h1 <;> simp [h, h1]
theorem less_no {x y : List UInt8} (h : Op.bytesLess x y = true) : Op.bytesLess y x = false ∧ (y == x) = false := by
  have := less_flip x y
  rw [h] at this
  simpa only [Bool.not_true, Bool.or_eq_false_iff] using this
theorem less_yes {x y : List UInt8} (h : Op.bytesLess x y = false) : Op.bytesLess y x = true ∨ (Op.bytesLess y x = false ∧ (y == x) = true) := by
  have := less_flip x y
  rw [h] at this
  cases hq : Op.bytesLess y x with
  | true => exact .inl rfl
  | false => rw [hq] at this; exact .inr ⟨rfl, by simpa using this⟩
/-- a word of a list of words: long, and greater than the one ahead of it -/
def lexAt (ws : List ByteArray) (i : Nat) : Bool := longL (ws.getD i ⟨#[]⟩).data.toList && (i == 0 || Op.bytesLess (ws.getD (i - 1) ⟨#[]⟩).toList (ws.getD i ⟨#[]⟩).toList)
def incAt (ws : List ByteArray) (i : Nat) : Bool := i == 0 || Op.bytesLess (ws.getD (i - 1) ⟨#[]⟩).toList (ws.getD i ⟨#[]⟩).toList
def lexOk (ws : List ByteArray) : Bool := (List.range ws.length).all (lexAt ws) && decide (ws.length ≤ 200)
theorem all_succ {p : Nat → Bool} {k : Nat} : (List.range (k + 1)).all p = ((List.range k).all p && p k) := by
  rw [List.range_succ, List.all_append]
  simp
theorem all_no {p : Nat → Bool} {n k : Nat} (h : k < n) (hp : p k = false) : (List.range n).all p = false := by
  rw [List.all_eq_false]
  exact ⟨k, List.mem_range.2 h, by simpa using hp⟩
theorem getD_at {ws : List ByteArray} {i : Nat} (h : i < ws.length) : ws.getD i ⟨#[]⟩ = ws[i] := by
  rw [List.getD_eq_getElem?_getD, List.getElem?_eq_getElem h]; rfl
def WordsFit (ws : List ByteArray) : Prop := ∀ x ∈ ws, x.size ≤ 9223372036854775807
/-- the words of a lexicon, cell by cell -/
theorem words_cell {w : World} {b o : Nat} {ws : List ByteArray} (h : CellsAt w 1 Tx.enc b o ws) {k : Nat} (hk : k < ws.length) : w.cell? ⟨b, o + k, none⟩ = some (.string (ws.getD k ⟨#[]⟩)) := by
  have := h.at0 hk (v := .string ws[k]) rfl
  rw [Nat.mul_one] at this
  rw [getD_at hk]
  exact this
theorem lex_bad {ws : List ByteArray} {k : Nat} (h : k < ws.length) (hp : lexAt ws k = false) : lexOk ws = false := by
  unfold lexOk; rw [all_no h hp]; rfl
theorem lex_all {ws : List ByteArray} (h : (List.range ws.length).all (lexAt ws) = true) : lexOk ws = decide (ws.length ≤ 200) := by
  unfold lexOk; rw [h]; rfl
theorem lex_split (ws : List ByteArray) : lexOk ws = (decide (ws.length ≤ 200) && (List.range ws.length).all (incAt ws) && (List.range ws.length).all fun i => longL (ws.getD i ⟨#[]⟩).data.toList) := by
  unfold lexOk
  have : (List.range ws.length).all (lexAt ws) = ((List.range ws.length).all (incAt ws) && (List.range ws.length).all fun i => longL (ws.getD i ⟨#[]⟩).data.toList) := by
    rw [Bool.eq_iff_iff]
    simp only [List.all_eq_true, Bool.and_eq_true, lexAt, incAt]
    constructor
    · intro h; exact ⟨fun i hi => (h i hi).2, fun i hi => (h i hi).1⟩
    · rintro ⟨h1, h2⟩ i hi; exact ⟨h2 i hi, h1 i hi⟩
  rw [this, Bool.and_comm, Bool.and_assoc]
theorem fit_at {ws : List ByteArray} (h : WordsFit ws) (k : Nat) : (ws.getD k ⟨#[]⟩).size ≤ 9223372036854775807 := by
  by_cases hk : k < ws.length
  · rw [getD_at hk]; exact h _ (List.getElem_mem hk)
  · rw [List.getD_eq_getElem?_getD, List.getElem?_eq_none (by omega)]; decide
end Go.Proofs.Ytalnbgcdhcnjfaa

namespace Go.Proofs.Ytalnbgcdhcnjfaa
open Go.ChangeShapes Go.WideShapes Go.ChangeAt Go.RowKit Go.Sort

def lessW (ws : List ByteArray) (x : ByteArray) (t : Nat) : Bool := Op.bytesLess (ws.getD t x).toList x.toList
/-- where a word stands, or would stand -/
def findW (ws : List ByteArray) (x : ByteArray) : Nat := Lib.bsGo (lessW ws x) ws.length 0 ws.length
def hasW (ws : List ByteArray) (x : ByteArray) : Bool := decide (findW ws x < ws.length ∧ ws.getD (findW ws x) x = x)
theorem inc_mono {ws : List ByteArray} (h : (List.range ws.length).all (incAt ws) = true) {x : ByteArray} : ∀ (d k : Nat), k + 1 + d < ws.length → (ws.getD k x).toList < (ws.getD (k + 1 + d) x).toList
  | 0, k, hk => by
    have h1 := List.all_eq_true.1 h (k + 1) (List.mem_range.2 hk)
    unfold incAt at h1
    rw [bytesLess_eq] at h1
    simp only [Nat.add_sub_cancel, Bool.or_eq_true, beq_iff_eq, decide_eq_true_eq] at h1
    rcases h1 with h1 | h1
    · omega
    · rw [getD_at (show k < ws.length by omega), getD_at (show k + 1 < ws.length by omega)] at h1
      rw [List.getD_eq_getElem?_getD, List.getD_eq_getElem?_getD, List.getElem?_eq_getElem (show k < ws.length by omega), List.getElem?_eq_getElem (show k + 1 + 0 < ws.length by omega)]
      exact h1
  | d + 1, k, hk => by
    have h1 := inc_mono h (x := x) 0 (k + d + 1) (by omega)
    have h2 := inc_mono h (x := x) d k (by omega)
    have e1 : k + 1 + (d + 1) = k + d + 1 + 1 + 0 := by omega
    have e2 : k + 1 + d = k + d + 1 := by omega
    rw [e1]
    rw [e2] at h2
    exact List.lt_trans h2 h1
theorem firstW_eq {ws : List ByteArray} {x : ByteArray} (h : (List.range ws.length).all (incAt ws) = true) {k : Nat} (hk : k ≤ ws.length) (h1 : ∀ t, t < k → lessW ws x t = true) (h2 : k < ws.length → lessW ws x k = false) : findW ws x = k := by
  refine Lib.bsGo_spec (lessW ws x) k h1 (fun t ht => ?_) _ _ _ (by omega) (Nat.zero_le _) hk
  have hirr : ∀ y : List UInt8, decide (y < y) = false := fun y => decide_eq_false (List.lt_irrefl y)
  by_cases hn : t < ws.length
  · have h3 := h2 (by omega)
    by_cases he : t = k
    · rw [he]; exact h3
    · obtain ⟨d, rfl⟩ : ∃ d, t = k + 1 + d := ⟨t - k - 1, by omega⟩
      have h4 := inc_mono h (x := x) d k hn
      unfold lessW at h3 ⊢
      rw [bytesLess_eq] at h3 ⊢
      rw [decide_eq_false_iff_not] at h3 ⊢
      exact fun h5 => h3 (List.lt_trans h4 h5)
  · unfold lessW
    rw [bytesLess_eq, List.getD_eq_getElem?_getD, List.getElem?_eq_none (by omega)]
    exact hirr _
theorem inc_of_lex {ws : List ByteArray} (h : lexOk ws = true) : (List.range ws.length).all (incAt ws) = true := by
  rw [lex_split] at h
  simp only [Bool.and_eq_true] at h
  exact h.1.2
theorem len_of_lex {ws : List ByteArray} (h : lexOk ws = true) : ws.length ≤ 200 := by
  rw [lex_split] at h
  simp only [Bool.and_eq_true, decide_eq_true_eq] at h
  exact h.1.1
end Go.Proofs.Ytalnbgcdhcnjfaa

namespace Go.Proofs.Ytalnbgcdhcnjfaa
open Go.ChangeShapes Go.WideShapes Go.ChangeAt Go.RowKit Go.Sort

theorem str_dec (x y : ByteArray) : (x.toList == y.toList) = decide (x = y) := by
  rw [Bool.eq_iff_iff, beq_iff_eq, decide_eq_true_eq, ByteArray.toList_eq, ByteArray.toList_eq]
  constructor
  · intro h
    have := congrArg List.toArray h
    cases x; cases y
    simpa using this
  · rintro rfl; rfl
theorem getD_any {ws : List ByteArray} {i : Nat} (h : i < ws.length) (x y : ByteArray) : ws.getD i x = ws.getD i y := by
  rw [List.getD_eq_getElem?_getD, List.getD_eq_getElem?_getD, List.getElem?_eq_getElem h]
  rfl
theorem findW_le {ws : List ByteArray} {x : ByteArray} {k : Nat} (h : findW ws x = k) : hasW ws x = decide (k < ws.length ∧ ws.getD k x = x) := by unfold hasW; rw [h]
end Go.Proofs.Ytalnbgcdhcnjfaa
