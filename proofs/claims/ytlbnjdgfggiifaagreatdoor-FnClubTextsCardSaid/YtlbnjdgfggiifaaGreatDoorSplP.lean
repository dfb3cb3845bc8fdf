/- Plain lemmas: a text taken apart at a byte. No program in sight. -/
import Derived.Lib.SplitLaws
import Derived.Lib.IndexBytes
namespace Go.Proofs.YtlbnjdgfggiifaaGreatDoor
open Go.Lib

/-- the parts of a text between bytes -/
def splitL (c : UInt8) : List UInt8 → List (List UInt8)
  | [] => [[]]
  | b :: l => if b = c then [] :: splitL c l else match splitL c l with
    | [] => [[b]]
    | x :: xs => (b :: x) :: xs
theorem splitL_ne (c : UInt8) (l : List UInt8) : splitL c l ≠ [] := by
  cases l with
  | nil => simp [splitL]
  | cons b l =>
    unfold splitL
    split
    · simp
    · split <;> simp
theorem splitL_app {c : UInt8} {p : List UInt8} (r : List UInt8) (h : c ∉ p) : splitL c (p ++ c :: r) = p :: splitL c r := by
  induction p with
  | nil => simp [splitL]
  | cons b p ih =>
    have hb : b ≠ c := fun e => h (by simp [e])
    rw [List.cons_append, splitL, if_neg hb, ih (fun hm => h (List.mem_cons_of_mem _ hm))]
theorem splitL_none {c : UInt8} {l : List UInt8} (h : c ∉ l) : splitL c l = [l] := by
  induction l with
  | nil => rfl
  | cons b p ih =>
    have hb : b ≠ c := fun e => h (by simp [e])
    rw [splitL, if_neg hb, ih (fun hm => h (List.mem_cons_of_mem _ hm))]
theorem splitL_len (c : UInt8) (l : List UInt8) : (splitL c l).length = l.count c + 1 := by
  induction l with
  | nil => rfl
  | cons b l ih =>
    unfold splitL
    by_cases hb : b = c
    · subst hb
      rw [if_pos rfl, List.length_cons, ih, List.count_cons_self]
    · rw [if_neg hb, List.count_cons_of_ne hb]
      split
      · rename_i h; exact absurd h (splitL_ne c l)
      · rename_i x xs h
        rw [h] at ih
        simpa using ih
/-- the parts with the byte between them -/
def joinL (c : UInt8) : List (List UInt8) → List UInt8
  | [] => []
  | [x] => x
  | x :: y :: r => x ++ c :: joinL c (y :: r)
theorem joinL_cons (c : UInt8) (x : List UInt8) {r : List (List UInt8)} (h : r ≠ []) : joinL c (x :: r) = x ++ c :: joinL c r := by
  cases r with
  | nil => exact absurd rfl h
  | cons y r => rfl
theorem join_split (c : UInt8) (l : List UInt8) : joinL c (splitL c l) = l := by
  induction l with
  | nil => rfl
  | cons b l ih =>
    unfold splitL
    by_cases hb : b = c
    · subst hb
      rw [if_pos rfl, joinL_cons _ _ (splitL_ne _ _), ih]
      rfl
    · rw [if_neg hb]
      split
      · rename_i h; exact absurd h (splitL_ne c l)
      · rename_i x xs h
        rw [h] at ih
        cases xs with
        | nil => rw [← ih]; rfl
        | cons y r => rw [← ih]; rfl
theorem split_parts {c : UInt8} {l : List UInt8} : ∀ x ∈ splitL c l, c ∉ x := by
  induction l with
  | nil => intro x hx; simp [splitL] at hx; simp [hx]
  | cons b l ih =>
    unfold splitL
    by_cases hb : b = c
    · rw [if_pos hb]
      intro x hx
      rcases List.mem_cons.1 hx with rfl | hx
      · simp
      · exact ih x hx
    · rw [if_neg hb]
      split
      · rename_i h; exact absurd h (splitL_ne c l)
      · rename_i y ys h
        rw [h] at ih
        intro x hx
        rcases List.mem_cons.1 hx with rfl | hx
        · intro hm
          rcases List.mem_cons.1 hm with hm | hm
          · exact hb hm.symm
          · exact ih y (List.mem_cons_self ..) hm
        · exact ih x (List.mem_cons_of_mem _ hx)
/-- One byte more: the byte itself opens a part, another one goes on with the last part. -/
theorem split_snoc_same (c : UInt8) (l : List UInt8) : splitL c (l ++ [c]) = splitL c l ++ [[]] := by
  induction l with
  | nil => simp [splitL]
  | cons b l ih =>
    rw [List.cons_append]
    unfold splitL
    by_cases hb : b = c
    · rw [if_pos hb, if_pos hb, ih]; rfl
    · rw [if_neg hb, if_neg hb, ih]
      split
      · rename_i h; simp at h
      · rename_i x xs h
        cases hs : splitL c l with
        | nil => exact absurd hs (splitL_ne c l)
        | cons y ys =>
          rw [hs] at h
          simp only [List.cons_append, List.cons.injEq] at h
          rw [← h.1, ← h.2]
          rfl
theorem split_snoc_other {c b : UInt8} (hb : b ≠ c) {l : List UInt8} {xs : List (List UInt8)} {x : List UInt8} (h : splitL c l = xs ++ [x]) : splitL c (l ++ [b]) = xs ++ [x ++ [b]] := by
  induction l generalizing xs x with
  | nil =>
    have e : xs = [] ∧ x = [] := by
      cases xs with
      | nil => simpa [splitL] using h.symm
      | cons y ys => simp [splitL] at h
    rw [e.1, e.2]
    simp [splitL, hb]
  | cons d l ih =>
    rw [List.cons_append]
    unfold splitL at h ⊢
    by_cases hd : d = c
    · rw [if_pos hd] at h ⊢
      cases xs with
      | nil => exact absurd (by simpa using h) (fun e : [] = x ∧ splitL c l = [] => splitL_ne c l e.2)
      | cons y ys =>
        simp only [List.cons_append, List.cons.injEq] at h
        rw [ih h.2, ← h.1]
        rfl
    · rw [if_neg hd] at h ⊢
      cases hs : splitL c l with
      | nil => exact absurd hs (splitL_ne c l)
      | cons y ys =>
        rw [hs] at h
        simp only at h
        cases xs with
        | nil =>
          simp only [List.nil_append, List.cons.injEq] at h
          have h2 := ih (xs := []) (x := y) (by rw [hs, h.2]; rfl)
          rw [h2, ← h.1]
          rfl
        | cons z zs =>
          simp only [List.cons_append, List.cons.injEq] at h
          have h2 := ih (xs := y :: zs) (x := x) (by rw [hs, h.2]; rfl)
          rw [h2, ← h.1]
          rfl
theorem notMem_of {l : List UInt8} {c : UInt8} (h : ∀ k : Nat, l[k]? ≠ some c) : c ∉ l := by
  intro hm
  obtain ⟨k, hk, e⟩ := List.getElem_of_mem hm
  exact h k (by rw [List.getElem?_eq_getElem hk, e])
/-- What the library's Split gives. -/
theorem split_tie (c : UInt8) : ∀ (k : Nat) (s : ByteArray), countB s ⟨#[c]⟩ = k → (splitB ⟨#[c]⟩ 0 k s).map (·.data.toList) = splitL c s.data.toList := by
  intro k
  induction k with
  | zero =>
    intro s h
    have hc : c ∉ s.data.toList := by
      have : s.data.toList.count c = 0 := by rw [← count_one]; exact h
      exact List.count_eq_zero.1 this
    rw [splitL_none hc]
    rfl
  | succ k ih =>
    intro s h
    have hi : indexB s ⟨#[c]⟩ = indexByte s.data.toList c := index_one _ _
    have hne : indexB s ⟨#[c]⟩ ≠ -1 := fun e => by rw [countB_miss _ _ e] at h; omega
    have hge := indexByte_ge s.data.toList c
    obtain ⟨i, hii⟩ : ∃ i : Nat, indexB s ⟨#[c]⟩ = i := ⟨(indexB s ⟨#[c]⟩).toNat, by omega⟩
    have hcount := countB_hit s ⟨#[c]⟩ i (Nat.le_refl _) hii
    rw [splitB_hit _ _ _ _ _ hii]
    obtain ⟨h1, h2⟩ := indexByte_some (hi.symm.trans hii)
    have hlt : i < s.data.toList.length := (List.getElem?_eq_some_iff.1 h1).1
    have hsp : s.data.toList = s.data.toList.take i ++ c :: s.data.toList.drop (i + 1) := by
      have := List.take_append_drop i s.data.toList
      rw [List.drop_eq_getElem_cons hlt, (List.getElem?_eq_some_iff.1 h1).2] at this
      exact this.symm
    have hnm : c ∉ s.data.toList.take i := notMem_of fun k e => by
      by_cases hk : k < i
      · rw [List.getElem?_take_of_lt hk] at e
        exact h2 k hk e
      · rw [List.getElem?_take_eq_none (by omega)] at e
        cases e
    have e1 : (s.extract 0 (i + 0)).data.toList = s.data.toList.take i := by simp
    have hsz : (⟨#[c]⟩ : ByteArray).size = 1 := rfl
    have e2 : (s.extract (i + (⟨#[c]⟩ : ByteArray).size) s.size).data.toList = s.data.toList.drop (i + 1) := by rw [hsz, extract_to_end]
    rw [List.map_cons, ih _ (by omega), e1, e2]
    conv => rhs; rw [hsp]
    rw [splitL_app _ hnm]
end Go.Proofs.YtlbnjdgfggiifaaGreatDoor
