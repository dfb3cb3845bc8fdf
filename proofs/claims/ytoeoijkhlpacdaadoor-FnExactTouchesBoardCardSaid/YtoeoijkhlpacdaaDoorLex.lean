/- Contracts: words, long words, valid lexicons: the reference's and the program's. No condition but bounds on sizes. -/
import Derived.Test.YtoeoijkhlpacdaaDoorByr
import Derived.Test.YtoeoijkhlpacdaaDoorTx
import Derived.Test.YtoeoijkhlpacdaaDoorText
import Derived.Test.YtoeoijkhlpacdaaDoorVar
import Derived.Sort.Walk0
namespace Go.Proofs.YtoeoijkhlpacdaaDoor
open Go.ChangeShapes Go.WideShapes Go.ChangeAt Go.RowKit Go.Sort

def wordL (l : List UInt8) : Bool := decide (1 ≤ l.length) && decide (l.length ≤ 12) && l.all fun c => smallB c.toNat
def longL (l : List UInt8) : Bool := decide (2 ≤ l.length) && wordL l
theorem word_short {l : List UInt8} (h : l.length < 1) : wordL l = false := by
  unfold wordL; rw [decide_eq_false (by omega)]; rfl
theorem word_long {l : List UInt8} (h : 12 < l.length) : wordL l = false := by
  unfold wordL; rw [decide_eq_false (p := l.length ≤ 12) (by omega)]; simp
theorem word_char {l : List UInt8} {k : Nat} (h : k < l.length) (hp : smallB (l[k].toNat : Int) = false) : wordL l = false := by
  unfold wordL; rw [all_false_of (p := fun c => smallB c.toNat) h hp]; simp
theorem word_yes {l : List UInt8} (h1 : 1 ≤ l.length) (h2 : l.length ≤ 12) (h : (l.take l.length).all (fun c => smallB c.toNat) = true) : wordL l = true := by
  rw [List.take_length] at h
  unfold wordL; rw [decide_eq_true h1, decide_eq_true h2, h]; rfl
set_option maxHeartbeats 1000000 in
theorem onlySmall_any (s : ByteArray) (w : World) (hs : s.size ≤ 9223372036854775807) : Calls Tryd.prog 106 #[.string s] w fun e w' => e = .returned (.bool (s.data.toList.all fun c => smallB c.toNat)) ∧ Below w.heap.size w w' := by
  have hl : s.data.toList.length = s.size := by simp
  have HL := Lib.hid hl
  clear hl
  obtain ⟨cap, w1, hc, hcv, hr, hb⟩ := bytes_of s w
  have HR := Lib.hid hr
  clear hr
  go_enter Tryd.func106, Tryd.ntmps106
  go_wp2_with fail
  clear hcv
  go_loopw [8] (fun i wr => ∃ k : Nat, k ≤ s.size ∧ i = .int .i64 k ∧ Hid ((s.data.toList.take k).all (fun c => smallB c.toNat) = true) ∧ w1 = wr) (fun i _ => s.size - (intOf i).toNat)
  case atStart => exact ⟨0, Nat.zero_le _, rfl, Lib.hid rfl, rfl⟩
  case round =>
    obtain ⟨k, hk, rfl, HA, rfl⟩ := hrel
    by_cases hlt : k < s.size
    · have c0 := HR.out.cell (i := k) (by rw [HL.out]; exact hlt)
      have HG : Hid (∀ h : k < s.data.toList.length, s.data.toList[k] = s[k]) := Lib.hid (fun h => bytes_get s k hlt)
      rw [HG.out] at c0
      cases hsm : smallB (s[k].toNat : Int) with
      | false =>
        go_wp2_with fail
        refine (small_any _ _).mono ?_
        rintro e w' ⟨rfl, rfl⟩
        rw [hsm]
        have HN : Hid (s.data.toList.all (fun c => smallB c.toNat) = false) := Lib.hid (all_false_of (k := k) (p := fun c => smallB c.toNat) (by rw [HL.out]; exact hlt) (by rw [HG.out]; exact hsm))
        clear hsm
        go_wp2
        go_ret
        exact ⟨ret_bool HN.out.symm, hb⟩
      | true =>
        go_wp2_with fail
        refine (small_any _ _).mono ?_
        rintro e w' ⟨rfl, rfl⟩
        rw [hsm]
        have HN : Hid ((s.data.toList.take (k + 1)).all (fun c => smallB c.toNat) = true) := Lib.hid (by rw [take_all_succ (by rw [HL.out]; exact hlt), HA.out, Bool.true_and, HG.out]; exact hsm)
        clear hsm
        go_wp2
        go_roundw
        case rel => exact ⟨k + 1, by omega, by go_num, HN, trivial⟩
        case measure => simp [intOf]; omega
    · obtain rfl : k = s.size := by omega
      have HN : Hid (s.data.toList.all (fun c => smallB c.toNat) = true) := Lib.hid (by have h := HA.out; rwa [← HL.out, List.take_length] at h)
      go_wp2
      go_ret
      exact ⟨ret_bool HN.out.symm, hb⟩
theorem IsWord_any (s : ByteArray) (w : World) (hs : s.size ≤ 9223372036854775807) : Calls Tryd.prog 99 #[.string s] w fun e w' => e = .returned (.bool (wordL s.data.toList)) ∧ Below w.heap.size w w' := by
  have hl : s.data.toList.length = s.size := by simp
  have HL := Lib.hid hl
  clear hl
  by_cases h1 : s.size < 1
  · have HN := Lib.hid (word_short (l := s.data.toList) (by rw [HL.out]; exact h1))
    go_enter Tryd.func99, Tryd.ntmps99
    go_wp2
    go_ret
    exact ⟨ret_bool HN.out.symm, Below.refl _ _⟩
  · by_cases h2 : 12 < s.size
    · have HN := Lib.hid (word_long (l := s.data.toList) (by rw [HL.out]; exact h2))
      have h1' : (1 : Int) ≤ (s.size : Int) := by omega
      go_enter Tryd.func99, Tryd.ntmps99
      go_wp2
      go_ret
      exact ⟨ret_bool HN.out.symm, Below.refl _ _⟩
    · have HN : Hid (wordL s.data.toList = s.data.toList.all fun c => smallB c.toNat) := Lib.hid (by unfold wordL; rw [decide_eq_true (by rw [HL.out]; omega), decide_eq_true (by rw [HL.out]; omega)]; rfl)
      have h1' : (1 : Int) ≤ (s.size : Int) := by omega
      have h2' : (s.size : Int) ≤ 12 := by omega
      go_enter Tryd.func99, Tryd.ntmps99
      go_wp2_with fail
      refine (onlySmall_any s _ hs).mono ?_
      rintro e w' ⟨rfl, hd⟩
      rw [← HN.out]
      go_wp2
      go_ret
      exact ⟨rfl, hd⟩
theorem less_flip (x y : List UInt8) : (Op.bytesLess y x || y == x) = !(Op.bytesLess x y) := by
  rw [bytesLess_eq, bytesLess_eq]
  by_cases h : x < y
  · have h1 : ¬ y < x := List.lt_asymm h
    have h2 : y ≠ x := fun e => by subst e; exact List.lt_irrefl _ h
    simp [h, h1, h2]
  · have h1 : y < x ∨ y = x := List.le_iff_lt_or_eq.1 (List.not_lt.1 h)
    rcases h1 with h1 | h1 <;> simp [h, h1]
theorem less_no {x y : List UInt8} (h : Op.bytesLess x y = true) : Op.bytesLess y x = false ∧ (y == x) = false := by
  have := less_flip x y
  rw [h] at this
  simpa only [Bool.not_true, Bool.or_eq_false_iff] using this
theorem less_yes {x y : List UInt8} (h : Op.bytesLess x y = false) : Op.bytesLess y x = true ∨ (Op.bytesLess y x = false ∧ (y == x) = true) := by
  have := less_flip x y
  rw [h] at this
  cases hq : Op.bytesLess y x with
  | true => exact .inl rfl
  | false => rw [hq] at this; exact .inr ⟨rfl, by simpa using this⟩
/-- a word of a list of words: long, and greater than the one ahead of it -/
def lexAt (ws : List ByteArray) (i : Nat) : Bool := longL (ws.getD i ⟨#[]⟩).data.toList && (i == 0 || Op.bytesLess (ws.getD (i - 1) ⟨#[]⟩).toList (ws.getD i ⟨#[]⟩).toList)
def incAt (ws : List ByteArray) (i : Nat) : Bool := i == 0 || Op.bytesLess (ws.getD (i - 1) ⟨#[]⟩).toList (ws.getD i ⟨#[]⟩).toList
def lexOk (ws : List ByteArray) : Bool := (List.range ws.length).all (lexAt ws) && decide (ws.length ≤ 200)
theorem all_succ {p : Nat → Bool} {k : Nat} : (List.range (k + 1)).all p = ((List.range k).all p && p k) := by
  rw [List.range_succ, List.all_append]
  simp
theorem all_no {p : Nat → Bool} {n k : Nat} (h : k < n) (hp : p k = false) : (List.range n).all p = false := by
  rw [List.all_eq_false]
  exact ⟨k, List.mem_range.2 h, by simpa using hp⟩
theorem getD_at {ws : List ByteArray} {i : Nat} (h : i < ws.length) : ws.getD i ⟨#[]⟩ = ws[i] := by
  rw [List.getD_eq_getElem?_getD, List.getElem?_eq_getElem h]; rfl
def WordsFit (ws : List ByteArray) : Prop := ∀ x ∈ ws, x.size ≤ 9223372036854775807
/-- the words of a lexicon, cell by cell -/
theorem words_cell {w : World} {b o : Nat} {ws : List ByteArray} (h : CellsAt w 1 Tx.enc b o ws) {k : Nat} (hk : k < ws.length) : w.cell? ⟨b, o + k, none⟩ = some (.string (ws.getD k ⟨#[]⟩)) := by
  have := h.at0 hk (v := .string ws[k]) rfl
  rw [Nat.mul_one] at this
  rw [getD_at hk]
  exact this
theorem lex_bad {ws : List ByteArray} {k : Nat} (h : k < ws.length) (hp : lexAt ws k = false) : lexOk ws = false := by
  unfold lexOk; rw [all_no h hp]; rfl
theorem lex_all {ws : List ByteArray} (h : (List.range ws.length).all (lexAt ws) = true) : lexOk ws = decide (ws.length ≤ 200) := by
  unfold lexOk; rw [h]; rfl
theorem lex_split (ws : List ByteArray) : lexOk ws = (decide (ws.length ≤ 200) && (List.range ws.length).all (incAt ws) && (List.range ws.length).all fun i => longL (ws.getD i ⟨#[]⟩).data.toList) := by
  unfold lexOk
  have : (List.range ws.length).all (lexAt ws) = ((List.range ws.length).all (incAt ws) && (List.range ws.length).all fun i => longL (ws.getD i ⟨#[]⟩).data.toList) := by
    rw [Bool.eq_iff_iff]
    simp only [List.all_eq_true, Bool.and_eq_true, lexAt, incAt]
    constructor
    · intro h; exact ⟨fun i hi => (h i hi).2, fun i hi => (h i hi).1⟩
    · rintro ⟨h1, h2⟩ i hi; exact ⟨h2 i hi, h1 i hi⟩
  rw [this, Bool.and_comm, Bool.and_assoc]
theorem fit_at {ws : List ByteArray} (h : WordsFit ws) (k : Nat) : (ws.getD k ⟨#[]⟩).size ≤ 9223372036854775807 := by
  by_cases hk : k < ws.length
  · rw [getD_at hk]; exact h _ (List.getElem_mem hk)
  · rw [List.getD_eq_getElem?_getD, List.getElem?_eq_none (by omega)]; decide
end Go.Proofs.YtoeoijkhlpacdaaDoor
