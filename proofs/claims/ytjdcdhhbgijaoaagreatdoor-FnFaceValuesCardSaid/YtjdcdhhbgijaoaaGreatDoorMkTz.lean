/- Plain lemmas on decimal numerals: what the program reads back and what the reference reads · Plain lemmas: a text taken apart at a byte. No program in sight. · Plain: the text of a tile set, read; the two tile sets that are given. No condition. -/
import Derived.Lib.ItoaMem
import Derived.Lib.AtoiTie
import Derived.Lib.ParseIntBTie
import Derived.Lib.SplitLaws
import Derived.Lib.IndexBytes
import Derived.Test.YtjdcdhhbgijaoaaGreatDoorTiC
namespace Go.Proofs.YtjdcdhhbgijaoaaGreatDoor
open Go.Lib

/-- a text without the sign at its front -/
def dropMinus : List UInt8 → List UInt8
  | [] => []
  | c :: r => if c = 45 then r else c :: r
/-- the same, digit by digit -/
def specNum (l : List UInt8) : Option Int :=
  if (dropMinus l).length < 1 ∨ 18 < (dropMinus l).length then none
  else match decFrom 0 (dropMinus l) with
    | none => none
    | some m => if itoa (if (dropMinus l).length < l.length then -(m : Int) else m) = l then some (if (dropMinus l).length < l.length then -(m : Int) else m) else none
theorem decFrom_append (l r : List UInt8) : ∀ (a m : Nat), decFrom a l = some m → decFrom a (l ++ r) = decFrom m r := by
  induction l with
  | nil => intro a m h; simp only [decFrom, Option.some.injEq] at h; subst h; rfl
  | cons c l ih =>
    intro a m h
    simp only [decFrom, List.cons_append] at h ⊢
    cases hd : digitVal c with
    | none => rw [hd] at h; cases h
    | some d => rw [hd] at h; exact ih _ _ h
end Go.Proofs.YtjdcdhhbgijaoaaGreatDoor
namespace Go.Proofs.YtjdcdhhbgijaoaaGreatDoor
open Go.Lib

/-- the parts of a text between bytes -/
def splitL (c : UInt8) : List UInt8 → List (List UInt8)
  | [] => [[]]
  | b :: l => if b = c then [] :: splitL c l else match splitL c l with
    | [] => [[b]]
    | x :: xs => (b :: x) :: xs
theorem splitL_ne (c : UInt8) (l : List UInt8) : splitL c l ≠ [] := by
  cases l with
  | nil => simp [splitL]
  | cons b l =>
    unfold splitL
    split
    · simp
    · split <;> simp
/-- One byte more: the byte itself opens a part, another one goes on with the last part. -/
theorem split_snoc_same (c : UInt8) (l : List UInt8) : splitL c (l ++ [c]) = splitL c l ++ [[]] := by
  induction l with
  | nil => simp [splitL]
  | cons b l ih =>
    rw [List.cons_append]
    unfold splitL
    by_cases hb : b = c
    · rw [if_pos hb, if_pos hb, ih]; rfl
    · rw [if_neg hb, if_neg hb, ih]
      split
      · rename_i h; simp at h
      · rename_i x xs h
        cases hs : splitL c l with
        | nil => exact absurd hs (splitL_ne c l)
        | cons y ys =>
          rw [hs] at h
          simp only [List.cons_append, List.cons.injEq] at h
          rw [← h.1, ← h.2]
          rfl
theorem split_snoc_other {c b : UInt8} (hb : b ≠ c) {l : List UInt8} {xs : List (List UInt8)} {x : List UInt8} (h : splitL c l = xs ++ [x]) : splitL c (l ++ [b]) = xs ++ [x ++ [b]] := by
  induction l generalizing xs x with
  | nil =>
    have e : xs = [] ∧ x = [] := by
      cases xs with
      | nil => simpa [splitL] using h.symm
      | cons y ys => simp [splitL] at h
    rw [e.1, e.2]
    simp [splitL, hb]
  | cons d l ih =>
    rw [List.cons_append]
    unfold splitL at h ⊢
    by_cases hd : d = c
    · rw [if_pos hd] at h ⊢
      cases xs with
      | nil => exact absurd (by simpa using h) (fun e : [] = x ∧ splitL c l = [] => splitL_ne c l e.2)
      | cons y ys =>
        simp only [List.cons_append, List.cons.injEq] at h
        rw [ih h.2, ← h.1]
        rfl
    · rw [if_neg hd] at h ⊢
      cases hs : splitL c l with
      | nil => exact absurd hs (splitL_ne c l)
      | cons y ys =>
        rw [hs] at h
        simp only at h
        cases xs with
        | nil =>
          simp only [List.nil_append, List.cons.injEq] at h
          have h2 := ih (xs := []) (x := y) (by rw [hs, h.2]; rfl)
          rw [h2, ← h.1]
          rfl
        | cons z zs =>
          simp only [List.cons_append, List.cons.injEq] at h
          have h2 := ih (xs := y :: zs) (x := x) (by rw [hs, h.2]; rfl)
          rw [h2, ← h.1]
          rfl
end Go.Proofs.YtjdcdhhbgijaoaaGreatDoor
namespace Go.Proofs.YtjdcdhhbgijaoaaGreatDoor
open Go.ChangeShapes Go.WideShapes Go.ChangeAt Go.RowKit Go.Sort

def tlsNone : Tls := ⟨⟨#[]⟩, [], [], 0⟩
/-- the two halves of a word of a tile set's text -/
def partS (w : List UInt8) : Option (List UInt8 × List UInt8) := match splitL 120 w with
  | [p, q] => if p = [] then none else some (p, q)
  | [p, q, r] => if p = [] then some (120 :: q, r) else none
  | _ => none
/-- a word, read into a tile set -/
def wordS (t : Tls) (w : List UInt8) : Tls × Bool := match partS w with
  | none => (t, false)
  | some (p, q) =>
    if p = [63] then ({ t with blanks := (specNum q).getD 0 }, (specNum q).isSome && decide (0 < (specNum q).getD 0))
    else ({ t with letters := t.letters ++ mkB (p.take 1), values := t.values ++ [(specNum (p.drop 1)).getD 0], counts := t.counts ++ [(specNum q).getD 0] }, (specNum q).isSome && ((specNum (p.drop 1)).isSome && decide (t.blanks = 0)))
def wordsS : Tls → List (List UInt8) → Tls × Bool
  | t, [] => (t, true)
  | t, w :: ws => match wordS t w with
    | (t2, true) => wordsS t2 ws
    | (t2, false) => (t2, false)
/-- a letter's word -/
def tileW (t : Tls) (i : Nat) : List UInt8 := t.letters.data.toList.getD i 0 :: (Lib.itoa (t.values.getD i 0) ++ 120 :: Lib.itoa (t.counts.getD i 0))
def tilesK (t : Tls) : Nat → List UInt8
  | 0 => []
  | i + 1 => if i = 0 then tileW t 0 else tilesK t i ++ 32 :: tileW t i
/-- the text of a tile set -/
def tilesT (t : Tls) : List UInt8 := if 0 < t.blanks then tilesK t t.letters.size ++ [32, 63, 120] ++ Lib.itoa t.blanks else tilesK t t.letters.size
def readS (s : List UInt8) : Tls × Bool :=
  if 27 < (splitL 32 s).length then (tlsNone, false)
  else if (wordsS tlsNone (splitL 32 s)).2 = true ∧ (wordsS tlsNone (splitL 32 s)).1.ok = true ∧ tilesT (wordsS tlsNone (splitL 32 s)).1 = s then ((wordsS tlsNone (splitL 32 s)).1, true) else (tlsNone, false)
def smallX : ByteArray := ⟨#[97, 49, 120, 51, 32, 101, 49, 120, 51, 32, 110, 50, 120, 50, 32, 114, 50, 120, 50, 32, 115, 49, 120, 50, 32, 116, 50, 120, 50, 32, 63, 120, 49]⟩
def smallT : Tls := ⟨⟨#[97, 101, 110, 114, 115, 116]⟩, [1, 1, 2, 2, 1, 2], [3, 3, 2, 2, 2, 2], 1⟩
theorem small_text : tilesT smallT = smallX.data.toList := by kernel_rfl
theorem small_ok : smallT.ok = true := by kernel_rfl
def englishX : ByteArray := ⟨#[97, 49, 120, 57, 32, 98, 51, 120, 50, 32, 99, 51, 120, 50, 32, 100, 50, 120, 52, 32, 101, 49, 120, 49, 50, 32, 102, 52, 120, 50, 32, 103, 50, 120, 51, 32, 104, 52, 120, 50, 32, 105, 49, 120, 57, 32, 106, 56, 120, 49, 32, 107, 53, 120, 49, 32, 108, 49, 120, 52, 32, 109, 51, 120, 50, 32, 110, 49, 120, 54, 32, 111, 49, 120, 56, 32, 112, 51, 120, 50, 32, 113, 49, 48, 120, 49, 32, 114, 49, 120, 54, 32, 115, 49, 120, 52, 32, 116, 49, 120, 54, 32, 117, 49, 120, 52, 32, 118, 52, 120, 50, 32, 119, 52, 120, 50, 32, 120, 56, 120, 49, 32, 121, 52, 120, 50, 32, 122, 49, 48, 120, 49, 32, 63, 120, 50]⟩
def englishT : Tls := ⟨⟨#[97, 98, 99, 100, 101, 102, 103, 104, 105, 106, 107, 108, 109, 110, 111, 112, 113, 114, 115, 116, 117, 118, 119, 120, 121, 122]⟩, [1, 3, 3, 2, 1, 4, 2, 4, 1, 8, 5, 1, 3, 1, 1, 3, 10, 1, 1, 1, 1, 4, 4, 8, 4, 10], [9, 2, 2, 4, 12, 2, 3, 2, 9, 1, 1, 4, 2, 6, 8, 2, 1, 6, 4, 6, 4, 2, 2, 1, 2, 1], 2⟩
theorem english_text : tilesT englishT = englishX.data.toList := by kernel_rfl
theorem english_ok : englishT.ok = true := by kernel_rfl
end Go.Proofs.YtjdcdhhbgijaoaaGreatDoor
