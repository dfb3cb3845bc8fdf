/- Plain lemmas on decimal numerals: what the program reads back and what the reference reads back are the same number. No program in sight. -/
import Derived.Lib.ItoaMem
import Derived.Lib.AtoiTie
import Derived.Lib.ParseIntBTie
namespace Go.Proofs.YtlbnjdgfggiifaaGreatDoor
open Go.Lib

/-- a text without the sign at its front -/
def dropMinus : List UInt8 → List UInt8
  | [] => []
  | c :: r => if c = 45 then r else c :: r
/-- the number with a decimal form -/
def readAny (l : List UInt8) : Option Int := match parseIntB 64 l with
  | .ok n => if itoa n = l then some n else none
  | _ => none
def readDec (l : List UInt8) : Option Int := if 18 < (dropMinus l).length then none else readAny l
/-- the same, digit by digit -/
def specNum (l : List UInt8) : Option Int :=
  if (dropMinus l).length < 1 ∨ 18 < (dropMinus l).length then none
  else match decFrom 0 (dropMinus l) with
    | none => none
    | some m => if itoa (if (dropMinus l).length < l.length then -(m : Int) else m) = l then some (if (dropMinus l).length < l.length then -(m : Int) else m) else none
theorem decDigits_digit (u : Nat) : ∀ c ∈ decDigits u, 48 ≤ c.toNat ∧ c.toNat ≤ 57 := by
  induction u using Nat.strongRecOn with
  | _ u ih =>
    intro c hc
    have e : ∀ n, n < 10 → (UInt8.ofNat (48 + n)).toNat = 48 + n := fun n hn => by
      rw [UInt8.toNat_ofNat']; omega
    by_cases h : u < 10
    · rw [decDigits, dif_pos h] at hc
      rw [List.mem_singleton.1 hc, e u h]; omega
    · rw [decDigits, dif_neg h] at hc
      rcases List.mem_append.1 hc with hc | hc
      · exact ih (u / 10) (by omega) c hc
      · rw [List.mem_singleton.1 hc, e _ (by omega)]; omega
theorem decDigits_ne (u : Nat) : decDigits u ≠ [] := by
  intro h
  have := decDigits_length u
  rw [h] at this
  have := nDigits_pos u
  simp at *
  omega
theorem itoa_plus (n : Int) (r : List UInt8) : itoa n ≠ 43 :: r := by
  intro h
  unfold itoa at h
  split at h
  · injection h with h _; exact absurd h (by decide)
  · have := decDigits_digit n.toNat 43 (by rw [h]; exact List.mem_cons_self ..)
    exact absurd this (by decide)
theorem of_option {o : Option Int} {l : List UInt8} : (match NumEnd.ofOption o with | .ok n => if itoa n = l then some n else none | _ => none) = (match o with | none => none | some n => if itoa n = l then some n else none) := by
  cases o <;> rfl
theorem signless_eq (e : NumEnd Nat) : signlessC (2 ^ 63) e = signless e := by cases e <;> rfl
theorem readDec_eq (l : List UInt8) : readDec l = specNum l := by
  unfold readDec specNum readAny
  rw [parseIntB_64]
  cases l with
  | nil => rfl
  | cons c r =>
    by_cases h45 : c = 45
    · subst h45
      simp only [dropMinus, if_true]
      by_cases hl : 18 < r.length
      · rw [if_pos hl, if_pos (.inr hl)]
      · rw [if_neg hl, atoiAll_minus, signed_short (by omega), of_option]
        by_cases h0 : r.length < 1
        · rw [if_pos (.inl h0)]
          have : r = [] := List.length_eq_zero_iff.1 (by omega)
          subst this
          rfl
        · rw [if_neg (by omega)]
          have hne : r.isEmpty = false := by cases r with | nil => simp at h0 | cons a b => rfl
          simp only [decNat, hne, Bool.false_eq_true, if_false, List.length_cons]
          cases decFrom 0 r with
          | none => rfl
          | some m => simp only [Option.map_some, Nat.lt_succ_self, if_true]
    · simp only [dropMinus, if_neg h45]
      by_cases hl : 18 < (c :: r).length
      · rw [if_pos hl, if_pos (.inr hl)]
      · rw [if_neg hl, if_neg (by simp at hl ⊢; omega)]
        by_cases h43 : c = 43
        · subst h43
          have e : decFrom 0 (43 :: r) = none := rfl
          rw [e]
          split
          · rw [if_neg (itoa_plus _ _)]
          · rfl
        · rw [atoiAll_plain c r (fun h => h43 (UInt8.toNat_inj.1 h)) (fun h => h45 (UInt8.toNat_inj.1 h)), signless_short (by omega), of_option]
          simp only [decNat, List.isEmpty_cons, Bool.false_eq_true, if_false, Nat.lt_irrefl]
          cases decFrom 0 (c :: r) <;> rfl
/-! What is written is read back. -/
theorem digitVal_of {n : Nat} (h : n < 10) : digitVal (UInt8.ofNat (48 + n)) = some n := by
  match n, h with
  | 0, _ => rfl | 1, _ => rfl | 2, _ => rfl | 3, _ => rfl | 4, _ => rfl | 5, _ => rfl | 6, _ => rfl | 7, _ => rfl | 8, _ => rfl | 9, _ => rfl
theorem decFrom_append (l r : List UInt8) : ∀ (a m : Nat), decFrom a l = some m → decFrom a (l ++ r) = decFrom m r := by
  induction l with
  | nil => intro a m h; simp only [decFrom, Option.some.injEq] at h; subst h; rfl
  | cons c l ih =>
    intro a m h
    simp only [decFrom, List.cons_append] at h ⊢
    cases hd : digitVal c with
    | none => rw [hd] at h; cases h
    | some d => rw [hd] at h; exact ih _ _ h
theorem decFrom_digits (u : Nat) : decFrom 0 (decDigits u) = some u := by
  induction u using Nat.strongRecOn with
  | _ u ih =>
    by_cases h : u < 10
    · rw [decDigits, dif_pos h]
      simp only [decFrom, digitVal_of h, Nat.zero_mul, Nat.zero_add]
    · rw [decDigits, dif_neg h, decFrom_append _ _ _ _ (ih (u / 10) (by omega))]
      simp only [decFrom, digitVal_of (show u % 10 < 10 by omega)]
      congr 1
      omega
theorem dropMinus_digits (u : Nat) : dropMinus (decDigits u) = decDigits u := by
  cases h : decDigits u with
  | nil => rfl
  | cons c r =>
    have := decDigits_digit u c (by rw [h]; exact List.mem_cons_self ..)
    exact if_neg (by rintro rfl; exact absurd this (by decide))
theorem specNum_itoa (n : Int) (h : nDigits n.natAbs ≤ 18) : specNum (itoa n) = some n := by
  have hp := nDigits_pos n.natAbs
  unfold specNum
  by_cases h0 : n < 0
  · have e : itoa n = 45 :: decDigits n.natAbs := by unfold itoa; rw [if_pos h0]
    have ed : dropMinus (itoa n) = decDigits n.natAbs := by rw [e]; rfl
    have el : (itoa n).length = nDigits n.natAbs + 1 := by rw [e, List.length_cons, decDigits_length]
    rw [ed, el, decFrom_digits, decDigits_length, if_neg (by omega)]
    simp only [Nat.lt_succ_self, if_true]
    rw [show -(n.natAbs : Int) = n by omega, if_pos rfl]
  · have e : itoa n = decDigits n.natAbs := by unfold itoa; rw [if_neg h0]; congr 1; omega
    have ed : dropMinus (itoa n) = decDigits n.natAbs := by rw [e, dropMinus_digits]
    have el : (itoa n).length = nDigits n.natAbs := by rw [e, decDigits_length]
    rw [ed, el, decFrom_digits, decDigits_length, if_neg (by omega)]
    simp only [Nat.lt_irrefl, if_false]
    rw [show (n.natAbs : Int) = n by omega, if_pos rfl]
theorem some_is {z n : Int} {l : List UInt8} (h : (if itoa z = l then some z else none) = some n) : itoa n = l := by
  split at h
  · rename_i hh
    simp only [Option.some.injEq] at h
    rw [← h, hh]
  · cases h
theorem specNum_some {l : List UInt8} {n : Int} (h : specNum l = some n) : itoa n = l := by
  unfold specNum at h
  split at h
  · cases h
  · split at h
    · cases h
    · exact some_is h
end Go.Proofs.YtlbnjdgfggiifaaGreatDoor
