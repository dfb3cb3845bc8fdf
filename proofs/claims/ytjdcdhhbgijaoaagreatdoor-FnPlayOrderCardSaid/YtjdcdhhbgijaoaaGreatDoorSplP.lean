/- Plain lemmas on decimal numerals: what the program reads back and what the reference reads · Plain lemmas: a text taken apart at a byte. No program in sight. -/
import Derived.Lib.ItoaMem
import Derived.Lib.AtoiTie
import Derived.Lib.ParseIntBTie
import Derived.Lib.SplitLaws
import Derived.Lib.IndexBytes
namespace Go.Proofs.YtjdcdhhbgijaoaaGreatDoor
open Go.Lib

/-- a text without the sign at its front -/
def dropMinus : List UInt8 → List UInt8
  | [] => []
  | c :: r => if c = 45 then r else c :: r
/-- the number with a decimal form -/
def readAny (l : List UInt8) : Option Int := match parseIntB 64 l with
  | .ok n => if itoa n = l then some n else none
  | _ => none
def readDec (l : List UInt8) : Option Int := if 18 < (dropMinus l).length then none else readAny l
/-- the same, digit by digit -/
def specNum (l : List UInt8) : Option Int :=
  if (dropMinus l).length < 1 ∨ 18 < (dropMinus l).length then none
  else match decFrom 0 (dropMinus l) with
    | none => none
    | some m => if itoa (if (dropMinus l).length < l.length then -(m : Int) else m) = l then some (if (dropMinus l).length < l.length then -(m : Int) else m) else none
theorem decDigits_digit (u : Nat) : ∀ c ∈ decDigits u, 48 ≤ c.toNat ∧ c.toNat ≤ 57 := by
  induction u using Nat.strongRecOn with
  | _ u ih =>
    intro c hc
    have e : ∀ n, n < 10 → (UInt8.ofNat (48 + n)).toNat = 48 + n := fun n hn => by
      rw [UInt8.toNat_ofNat']; omega
    by_cases h : u < 10
    · rw [decDigits, dif_pos h] at hc
      rw [List.mem_singleton.1 hc, e u h]; omega
    · rw [decDigits, dif_neg h] at hc
      rcases List.mem_append.1 hc with hc | hc
      · exact ih (u / 10) (by omega) c hc
      · rw [List.mem_singleton.1 hc, e _ (by omega)]; omega
theorem itoa_plus (n : Int) (r : List UInt8) : itoa n ≠ 43 :: r := by
  intro h
  unfold itoa at h
  split at h
  · injection h with h _; exact absurd h (by decide)
  · have := decDigits_digit n.toNat 43 (by rw [h]; exact List.mem_cons_self ..)
    exact absurd this (by decide)
theorem of_option {o : Option Int} {l : List UInt8} : (match NumEnd.ofOption o with | .ok n => if itoa n = l then some n else none | _ => none) = (match o with | none => none | some n => if itoa n = l then some n else none) := by
  cases o <;> rfl
theorem readDec_eq (l : List UInt8) : readDec l = specNum l := by
  unfold readDec specNum readAny
  rw [parseIntB_64]
  cases l with
  | nil => rfl
  | cons c r =>
    by_cases h45 : c = 45
    · subst h45
      simp only [dropMinus, if_true]
      by_cases hl : 18 < r.length
      · rw [if_pos hl, if_pos (.inr hl)]
      · rw [if_neg hl, atoiAll_minus, signed_short (by omega), of_option]
        by_cases h0 : r.length < 1
        · rw [if_pos (.inl h0)]
          have : r = [] := List.length_eq_zero_iff.1 (by omega)
          subst this
          rfl
        · rw [if_neg (by omega)]
          have hne : r.isEmpty = false := by cases r with | nil => simp at h0 | cons a b => rfl
          simp only [decNat, hne, Bool.false_eq_true, if_false, List.length_cons]
          cases decFrom 0 r with
          | none => rfl
          | some m => simp only [Option.map_some, Nat.lt_succ_self, if_true]
    · simp only [dropMinus, if_neg h45]
      by_cases hl : 18 < (c :: r).length
      · rw [if_pos hl, if_pos (.inr hl)]
      · rw [if_neg hl, if_neg (by simp at hl ⊢; omega)]
        by_cases h43 : c = 43
        · subst h43
          have e : decFrom 0 (43 :: r) = none := rfl
          rw [e]
          split
          · rw [if_neg (itoa_plus _ _)]
          · rfl
        · rw [atoiAll_plain c r (fun h => h43 (UInt8.toNat_inj.1 h)) (fun h => h45 (UInt8.toNat_inj.1 h)), signless_short (by omega), of_option]
          simp only [decNat, List.isEmpty_cons, Bool.false_eq_true, if_false, Nat.lt_irrefl]
          cases decFrom 0 (c :: r) <;> rfl
/-! What is written is read back. -/
theorem digitVal_of {n : Nat} (h : n < 10) : digitVal (UInt8.ofNat (48 + n)) = some n := by
  match n, h with
  | 0, _ => rfl | 1, _ => rfl | 2, _ => rfl | 3, _ => rfl | 4, _ => rfl | 5, _ => rfl | 6, _ => rfl | 7, _ => rfl | 8, _ => rfl | 9, _ => rfl
theorem decFrom_append (l r : List UInt8) : ∀ (a m : Nat), decFrom a l = some m → decFrom a (l ++ r) = decFrom m r := by
  induction l with
  | nil => intro a m h; simp only [decFrom, Option.some.injEq] at h; subst h; rfl
  | cons c l ih =>
    intro a m h
    simp only [decFrom, List.cons_append] at h ⊢
    cases hd : digitVal c with
    | none => rw [hd] at h; cases h
    | some d => rw [hd] at h; exact ih _ _ h
theorem decFrom_digits (u : Nat) : decFrom 0 (decDigits u) = some u := by
  induction u using Nat.strongRecOn with
  | _ u ih =>
    by_cases h : u < 10
    · rw [decDigits, dif_pos h]
      simp only [decFrom, digitVal_of h, Nat.zero_mul, Nat.zero_add]
    · rw [decDigits, dif_neg h, decFrom_append _ _ _ _ (ih (u / 10) (by omega))]
      simp only [decFrom, digitVal_of (show u % 10 < 10 by omega)]
      congr 1
      omega
theorem dropMinus_digits (u : Nat) : dropMinus (decDigits u) = decDigits u := by
  cases h : decDigits u with
  | nil => rfl
  | cons c r =>
    have := decDigits_digit u c (by rw [h]; exact List.mem_cons_self ..)
    exact if_neg (by rintro rfl; exact absurd this (by decide))
theorem specNum_itoa (n : Int) (h : nDigits n.natAbs ≤ 18) : specNum (itoa n) = some n := by
  have hp := nDigits_pos n.natAbs
  unfold specNum
  by_cases h0 : n < 0
  · have e : itoa n = 45 :: decDigits n.natAbs := by unfold itoa; rw [if_pos h0]
    have ed : dropMinus (itoa n) = decDigits n.natAbs := by rw [e]; rfl
    have el : (itoa n).length = nDigits n.natAbs + 1 := by rw [e, List.length_cons, decDigits_length]
    rw [ed, el, decFrom_digits, decDigits_length, if_neg (by omega)]
    simp only [Nat.lt_succ_self, if_true]
    rw [show -(n.natAbs : Int) = n by omega, if_pos rfl]
  · have e : itoa n = decDigits n.natAbs := by unfold itoa; rw [if_neg h0]; congr 1; omega
    have ed : dropMinus (itoa n) = decDigits n.natAbs := by rw [e, dropMinus_digits]
    have el : (itoa n).length = nDigits n.natAbs := by rw [e, decDigits_length]
    rw [ed, el, decFrom_digits, decDigits_length, if_neg (by omega)]
    simp only [Nat.lt_irrefl, if_false]
    rw [show (n.natAbs : Int) = n by omega, if_pos rfl]
theorem some_is {z n : Int} {l : List UInt8} (h : (if itoa z = l then some z else none) = some n) : itoa n = l := by
  split at h
  · rename_i hh
    simp only [Option.some.injEq] at h
    rw [← h, hh]
  · cases h
theorem specNum_some {l : List UInt8} {n : Int} (h : specNum l = some n) : itoa n = l := by
  unfold specNum at h
  split at h
  · cases h
  · split at h
    · cases h
    · exact some_is h
end Go.Proofs.YtjdcdhhbgijaoaaGreatDoor
namespace Go.Proofs.YtjdcdhhbgijaoaaGreatDoor
open Go.Lib

/-- the parts of a text between bytes -/
def splitL (c : UInt8) : List UInt8 → List (List UInt8)
  | [] => [[]]
  | b :: l => if b = c then [] :: splitL c l else match splitL c l with
    | [] => [[b]]
    | x :: xs => (b :: x) :: xs
theorem splitL_ne (c : UInt8) (l : List UInt8) : splitL c l ≠ [] := by
  cases l with
  | nil => simp [splitL]
  | cons b l =>
    unfold splitL
    split
    · simp
    · split <;> simp
theorem splitL_app {c : UInt8} {p : List UInt8} (r : List UInt8) (h : c ∉ p) : splitL c (p ++ c :: r) = p :: splitL c r := by
  induction p with
  | nil => simp [splitL]
  | cons b p ih =>
    have hb : b ≠ c := fun e => h (by simp [e])
    rw [List.cons_append, splitL, if_neg hb, ih (fun hm => h (List.mem_cons_of_mem _ hm))]
theorem splitL_none {c : UInt8} {l : List UInt8} (h : c ∉ l) : splitL c l = [l] := by
  induction l with
  | nil => rfl
  | cons b p ih =>
    have hb : b ≠ c := fun e => h (by simp [e])
    rw [splitL, if_neg hb, ih (fun hm => h (List.mem_cons_of_mem _ hm))]
/-- the parts with the byte between them -/
def joinL (c : UInt8) : List (List UInt8) → List UInt8
  | [] => []
  | [x] => x
  | x :: y :: r => x ++ c :: joinL c (y :: r)
theorem joinL_cons (c : UInt8) (x : List UInt8) {r : List (List UInt8)} (h : r ≠ []) : joinL c (x :: r) = x ++ c :: joinL c r := by
  cases r with
  | nil => exact absurd rfl h
  | cons y r => rfl
theorem join_split (c : UInt8) (l : List UInt8) : joinL c (splitL c l) = l := by
  induction l with
  | nil => rfl
  | cons b l ih =>
    unfold splitL
    by_cases hb : b = c
    · subst hb
      rw [if_pos rfl, joinL_cons _ _ (splitL_ne _ _), ih]
      rfl
    · rw [if_neg hb]
      split
      · rename_i h; exact absurd h (splitL_ne c l)
      · rename_i x xs h
        rw [h] at ih
        cases xs with
        | nil => rw [← ih]; rfl
        | cons y r => rw [← ih]; rfl
/-- One byte more: the byte itself opens a part, another one goes on with the last part. -/
theorem split_snoc_same (c : UInt8) (l : List UInt8) : splitL c (l ++ [c]) = splitL c l ++ [[]] := by
  induction l with
  | nil => simp [splitL]
  | cons b l ih =>
    rw [List.cons_append]
    unfold splitL
    by_cases hb : b = c
    · rw [if_pos hb, if_pos hb, ih]; rfl
    · rw [if_neg hb, if_neg hb, ih]
      split
      · rename_i h; simp at h
      · rename_i x xs h
        cases hs : splitL c l with
        | nil => exact absurd hs (splitL_ne c l)
        | cons y ys =>
          rw [hs] at h
          simp only [List.cons_append, List.cons.injEq] at h
          rw [← h.1, ← h.2]
          rfl
theorem split_snoc_other {c b : UInt8} (hb : b ≠ c) {l : List UInt8} {xs : List (List UInt8)} {x : List UInt8} (h : splitL c l = xs ++ [x]) : splitL c (l ++ [b]) = xs ++ [x ++ [b]] := by
  induction l generalizing xs x with
  | nil =>
    have e : xs = [] ∧ x = [] := by
      cases xs with
      | nil => simpa [splitL] using h.symm
      | cons y ys => simp [splitL] at h
    rw [e.1, e.2]
    simp [splitL, hb]
  | cons d l ih =>
    rw [List.cons_append]
    unfold splitL at h ⊢
    by_cases hd : d = c
    · rw [if_pos hd] at h ⊢
      cases xs with
      | nil => exact absurd (by simpa using h) (fun e : [] = x ∧ splitL c l = [] => splitL_ne c l e.2)
      | cons y ys =>
        simp only [List.cons_append, List.cons.injEq] at h
        rw [ih h.2, ← h.1]
        rfl
    · rw [if_neg hd] at h ⊢
      cases hs : splitL c l with
      | nil => exact absurd hs (splitL_ne c l)
      | cons y ys =>
        rw [hs] at h
        simp only at h
        cases xs with
        | nil =>
          simp only [List.nil_append, List.cons.injEq] at h
          have h2 := ih (xs := []) (x := y) (by rw [hs, h.2]; rfl)
          rw [h2, ← h.1]
          rfl
        | cons z zs =>
          simp only [List.cons_append, List.cons.injEq] at h
          have h2 := ih (xs := y :: zs) (x := x) (by rw [hs, h.2]; rfl)
          rw [h2, ← h.1]
          rfl
end Go.Proofs.YtjdcdhhbgijaoaaGreatDoor
