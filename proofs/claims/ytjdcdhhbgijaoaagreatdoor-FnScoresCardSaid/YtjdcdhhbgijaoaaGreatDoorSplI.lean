/- Plain lemmas: a text taken apart at a byte. No program in sight. · Plain lemmas: the words on a board are the longest sequences of letters in its rows and co · Plain lemmas: the words on a board, row by row and part by part; how many they are at most · Contract: strings.Split at one byte, in plain words. Leans on the variable MaxLen of inter -/
import Derived.Lib.SplitLaws
import Derived.Lib.IndexBytes
import Derived.Test.YtjdcdhhbgijaoaaGreatDoorFpP
import Derived.Test.YtjdcdhhbgijaoaaGreatDoorWoA
import Derived.Test.YtjdcdhhbgijaoaaGreatDoorVar
import Derived.Test.YtjdcdhhbgijaoaaGreatDoorShq
namespace Go.Proofs.YtjdcdhhbgijaoaaGreatDoor
open Go.Lib

/-- the parts of a text between bytes -/
def splitL (c : UInt8) : List UInt8 → List (List UInt8)
  | [] => [[]]
  | b :: l => if b = c then [] :: splitL c l else match splitL c l with
    | [] => [[b]]
    | x :: xs => (b :: x) :: xs
theorem splitL_ne (c : UInt8) (l : List UInt8) : splitL c l ≠ [] := by
  cases l with
  | nil => simp [splitL]
  | cons b l =>
    unfold splitL
    split
    · simp
    · split <;> simp
/-- One byte more: the byte itself opens a part, another one goes on with the last part. -/
theorem split_snoc_same (c : UInt8) (l : List UInt8) : splitL c (l ++ [c]) = splitL c l ++ [[]] := by
  induction l with
  | nil => simp [splitL]
  | cons b l ih =>
    rw [List.cons_append]
    unfold splitL
    by_cases hb : b = c
    · rw [if_pos hb, if_pos hb, ih]; rfl
    · rw [if_neg hb, if_neg hb, ih]
      split
      · rename_i h; simp at h
      · rename_i x xs h
        cases hs : splitL c l with
        | nil => exact absurd hs (splitL_ne c l)
        | cons y ys =>
          rw [hs] at h
          simp only [List.cons_append, List.cons.injEq] at h
          rw [← h.1, ← h.2]
          rfl
theorem split_snoc_other {c b : UInt8} (hb : b ≠ c) {l : List UInt8} {xs : List (List UInt8)} {x : List UInt8} (h : splitL c l = xs ++ [x]) : splitL c (l ++ [b]) = xs ++ [x ++ [b]] := by
  induction l generalizing xs x with
  | nil =>
    have e : xs = [] ∧ x = [] := by
      cases xs with
      | nil => simpa [splitL] using h.symm
      | cons y ys => simp [splitL] at h
    rw [e.1, e.2]
    simp [splitL, hb]
  | cons d l ih =>
    rw [List.cons_append]
    unfold splitL at h ⊢
    by_cases hd : d = c
    · rw [if_pos hd] at h ⊢
      cases xs with
      | nil => exact absurd (by simpa using h) (fun e : [] = x ∧ splitL c l = [] => splitL_ne c l e.2)
      | cons y ys =>
        simp only [List.cons_append, List.cons.injEq] at h
        rw [ih h.2, ← h.1]
        rfl
    · rw [if_neg hd] at h ⊢
      cases hs : splitL c l with
      | nil => exact absurd hs (splitL_ne c l)
      | cons y ys =>
        rw [hs] at h
        simp only at h
        cases xs with
        | nil =>
          simp only [List.nil_append, List.cons.injEq] at h
          have h2 := ih (xs := []) (x := y) (by rw [hs, h.2]; rfl)
          rw [h2, ← h.1]
          rfl
        | cons z zs =>
          simp only [List.cons_append, List.cons.injEq] at h
          have h2 := ih (xs := y :: zs) (x := x) (by rw [hs, h.2]; rfl)
          rw [h2, ← h.1]
          rfl
end Go.Proofs.YtjdcdhhbgijaoaaGreatDoor
namespace Go.Proofs.YtjdcdhhbgijaoaaGreatDoor
open Go.ChangeShapes Go.WideShapes Go.ChangeAt Go.RowKit Go.Sort

/-! ### Parts of a text -/
/-- a longest sequence of letters, from i on, of k letters -/
structure Run (F : Int → UInt8) (n i k : Nat) : Prop where
  len : i + k ≤ n
  full : ∀ j : Nat, j < k → fullC (F (i + j)) = true
  before : fullC (F ((i : Int) - 1)) = false
  behind : fullC (F (i + k)) = false
/-- two longest sequences with a common square are one -/
theorem Run.same {F : Int → UInt8} {n i k i' k' : Nat} (h : Run F n i k) (h' : Run F n i' k') {x : Nat} (h1 : i ≤ x) (h2 : x < i + k) (h3 : i' ≤ x) (h4 : x < i' + k') : i = i' ∧ k = k' := by
  have e : i = i' := by
    rcases Nat.lt_trichotomy i i' with hl | hl | hl
    · by_cases hx : i' - 1 - i < k
      · have q := h.full (i' - 1 - i) hx
        rw [show (i : Int) + ((i' - 1 - i : Nat) : Int) = (i' : Int) - 1 by omega, h'.before] at q
        cases q
      · omega
    · exact hl
    · by_cases hx : i - 1 - i' < k'
      · have q := h'.full (i - 1 - i') hx
        rw [show (i' : Int) + ((i - 1 - i' : Nat) : Int) = (i : Int) - 1 by omega, h.before] at q
        cases q
      · omega
  subst e
  refine ⟨rfl, ?_⟩
  rcases Nat.lt_trichotomy k k' with hl | hl | hl
  · have q := h'.full k hl
    rw [h.behind] at q
    cases q
  · exact hl
  · have q := h.full k' hl
    rw [h'.behind] at q
    cases q
end Go.Proofs.YtjdcdhhbgijaoaaGreatDoor
namespace Go.Proofs.YtjdcdhhbgijaoaaGreatDoor
open Go.ChangeShapes Go.WideShapes Go.ChangeAt Go.RowKit Go.Sort

end Go.Proofs.YtjdcdhhbgijaoaaGreatDoor
namespace Go.Proofs.YtjdcdhhbgijaoaaGreatDoor
open Go.ChangeShapes Go.WideShapes Go.ChangeAt Go.RowKit Go.Sort

/-- the variable that the library's searches read -/
def EnvM (w : World) : Prop := ∃ m : Int, w.cell? ⟨0, 0, none⟩ = some (.int .i64 m)
theorem EnvM.kept {w w' : World} (h : EnvM w) (hb : Below w.heap.size w w') : EnvM w' := by
  obtain ⟨m, hm⟩ := h
  exact ⟨m, cell_kept hm hb⟩
end Go.Proofs.YtjdcdhhbgijaoaaGreatDoor
