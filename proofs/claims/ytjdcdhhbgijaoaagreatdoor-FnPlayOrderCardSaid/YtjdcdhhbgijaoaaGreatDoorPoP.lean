/- Plain definitions and lemmas: the order of plays, the order of scored plays, the best of a · Plain lemmas: plays and their texts: a text is read back as the play that it is of; the or -/
import Derived.Test.YtjdcdhhbgijaoaaGreatDoorVar
import Derived.Test.YtjdcdhhbgijaoaaGreatDoorLex
import Derived.Test.YtjdcdhhbgijaoaaGreatDoorSplP
import Derived.Test.YtjdcdhhbgijaoaaGreatDoorPlaP
namespace Go.Proofs.YtjdcdhhbgijaoaaGreatDoor
open Go.ChangeShapes Go.WideShapes Go.ChangeAt Go.RowKit Go.Sort

def sgnI (a b : Int) : Int := if a < b then -1 else if b < a then 1 else 0
def sgnT (a b : ByteArray) : Int := if Op.bytesLess a.toList b.toList = true then -1 else if Op.bytesLess b.toList a.toList = true then 1 else 0
/-- the order of plays -/
def Ply.cmp (a b : Ply) : Int := if a.down = b.down then (if a.row = b.row then (if a.col = b.col then sgnT a.word b.word else sgnI a.col b.col) else sgnI a.row b.row) else if b.down = true then -1 else 1
def dn (a : Ply) : Int := if a.down = true then 1 else 0
end Go.Proofs.YtjdcdhhbgijaoaaGreatDoor
namespace Go.Proofs.YtjdcdhhbgijaoaaGreatDoor
open Go.ChangeShapes Go.WideShapes Go.ChangeAt Go.RowKit Go.Sort Go.Lib

/-! ### Numerals -/
theorem digits_up {u k : Nat} (hk : 1 ≤ k) (h : u < 10 ^ k) : nDigits u ≤ k := by
  induction k generalizing u with
  | zero => omega
  | succ k ih =>
    by_cases h10 : u < 10
    · rw [nDigits_small h10]; omega
    · rw [nDigits_big h10]
      by_cases hk0 : k = 0
      · subst hk0; simp at h; omega
      · have := ih (u := u / 10) (by omega) (by rw [Nat.pow_succ] at h; omega)
        omega
theorem small_back {n : Int} (h0 : -1000000 ≤ n) (h1 : n ≤ 1000000) : specNum (itoa n) = some n := by
  have h := digits_up (u := n.natAbs) (k := 7) (by omega) (by have : (10 : Nat) ^ 7 = 10000000 := rfl; omega)
  exact specNum_itoa n (by omega)
theorem itoa_abs (n : Int) : (dropMinus (itoa n)).length = nDigits n.natAbs := by
  by_cases h0 : n < 0
  · have e : itoa n = 45 :: decDigits n.natAbs := by unfold itoa; rw [if_pos h0]
    rw [e]
    show (decDigits n.natAbs).length = _
    rw [decDigits_length]
  · have e : itoa n = decDigits n.natAbs := by unfold itoa; rw [if_neg h0]; congr 1; omega
    rw [e, dropMinus_digits, decDigits_length]
theorem specNum_range {l : List UInt8} {n : Int} (h : specNum l = some n) : -1000000000000000000 < n ∧ n < 1000000000000000000 := by
  have e := specNum_some h
  have hl : (dropMinus l).length ≤ 18 := by
    by_cases hh : (dropMinus l).length < 1 ∨ 18 < (dropMinus l).length
    · unfold specNum at h
      rw [if_pos hh] at h
      cases h
    · omega
  rw [← e, itoa_abs] at hl
  have h1 := lt_pow_nDigits n.natAbs
  have h2 : (10 : Nat) ^ nDigits n.natAbs ≤ 10 ^ 18 := Nat.pow_le_pow_right (by decide) hl
  have h3 : (10 : Nat) ^ 18 = 1000000000000000000 := rfl
  omega
theorem itoa_bytes (n : Int) : ∀ c ∈ itoa n, c = 45 ∨ 48 ≤ c.toNat ∧ c.toNat ≤ 57 := by
  intro c hc
  unfold itoa at hc
  split at hc
  · rcases List.mem_cons.1 hc with h | h
    · exact .inl h
    · exact .inr (decDigits_digit _ _ h)
  · exact .inr (decDigits_digit _ _ hc)
theorem itoa_ne (n : Int) : 1 ≤ (itoa n).length := by
  unfold itoa
  split
  · rw [List.length_cons]; omega
  · have := nDigits_pos n.toNat
    rw [decDigits_length]; exact this

/-! ### Texts of plays -/
def cutS : List UInt8 → List UInt8 × List UInt8
  | [] => ([], [])
  | b :: l => if b = 32 then ([], l) else (b :: (cutS l).1, (cutS l).2)
theorem cutS_app {p : List UInt8} (r : List UInt8) (h : (32 : UInt8) ∉ p) : cutS (p ++ 32 :: r) = (p, r) := by
  induction p with
  | nil => simp [cutS]
  | cons b p ih =>
    have hb : b ≠ 32 := fun e => h (by simp [e])
    rw [List.cons_append, cutS, if_neg hb, ih (fun hm => h (List.mem_cons_of_mem _ hm))]
def Ply.plain (p : Ply) : Bool := withinB p.row 0 14 && (withinB p.col 0 14 && mainL p.word.data.toList)
def colC (c : Int) : UInt8 := (97 + c).toNat.toUInt8
def Ply.place (p : Ply) : List UInt8 := if p.down then colC p.col :: itoa (p.row + 1) else itoa (p.row + 1) ++ [colC p.col]
def Ply.text (p : Ply) : List UInt8 := p.place ++ 32 :: p.word.data.toList
def playText (p : Ply) : ByteArray := if p.plain = true then mkB p.text else ⟨#[]⟩
def plDown (place : List UInt8) : Bool := smallB ((place.getD 0 0).toNat : Int)
def plNumber (place : List UInt8) : List UInt8 := if plDown place then place.drop 1 else place.take (place.length - 1)
def plLetter (place : List UInt8) : UInt8 := if plDown place then place.getD 0 0 else place.getD (place.length - 1) 0
/-- the play that a place and a word say -/
def rawPlay (place word : List UInt8) : Ply := ⟨wrap64 ((specNum (plNumber place)).getD 0 - 1), ((plLetter place).toNat : Int) - 97, plDown place, mkB word⟩
/-- the program's way to read -/
def readPlay (l : List UInt8) : Option Ply :=
  if 2 ≤ (cutS l).1.length ∧ (rawPlay (cutS l).1 (cutS l).2).plain = true ∧ (rawPlay (cutS l).1 (cutS l).2).text = l then some (rawPlay (cutS l).1 (cutS l).2) else none
/-- the reference's way to read -/
def specPlay (l : List UInt8) : Option Ply := match splitL 32 l with
  | [place, word] => if 2 ≤ place.length ∧ (specNum (plNumber place)).isSome = true ∧ (rawPlay place word).plain = true then some (rawPlay place word) else none
  | _ => none
theorem plain_iff {p : Ply} : p.plain = true ↔ (0 ≤ p.row ∧ p.row ≤ 14) ∧ (0 ≤ p.col ∧ p.col ≤ 14) ∧ mainL p.word.data.toList = true := by
  unfold Ply.plain
  rw [Bool.and_eq_true, Bool.and_eq_true, within_iff, within_iff]
theorem colC_nat {c : Int} (h : 0 ≤ c ∧ c ≤ 14) : (colC c).toNat = 97 + c.toNat := by
  unfold colC
  rw [u8_of (by omega) (by omega)]
  omega
theorem colC_small {c : Int} (h : 0 ≤ c ∧ c ≤ 14) : smallB ((colC c).toNat : Int) = true := by
  rw [colC_nat h]
  unfold smallB
  rw [Bool.and_eq_true, decide_eq_true_eq, decide_eq_true_eq]
  omega
theorem itoa_front {n : Int} : smallB (((itoa n).getD 0 0).toNat : Int) = false := by
  have h := itoa_ne n
  have e : (itoa n).getD 0 0 = (itoa n)[0] := by rw [List.getD_eq_getElem?_getD, List.getElem?_eq_getElem (by omega)]; rfl
  rw [e]
  have := itoa_bytes n _ (List.getElem_mem (show 0 < (itoa n).length by omega))
  generalize (itoa n)[0] = c at *
  unfold smallB
  rw [Bool.and_eq_false_iff, decide_eq_false_iff_not, decide_eq_false_iff_not]
  rcases this with rfl | h2
  · exact .inl (by decide)
  · exact .inl (by omega)
theorem place_free {p : Ply} (h : 0 ≤ p.col ∧ p.col ≤ 14) : (32 : UInt8) ∉ p.place := by
  have hi : (32 : UInt8) ∉ itoa (p.row + 1) := fun hm => by
    rcases itoa_bytes _ _ hm with e | e
    · exact absurd e (by decide)
    · exact absurd e.1 (by decide)
  have hc : (32 : UInt8) ≠ colC p.col := fun e => by
    have := colC_nat h
    rw [← e] at this
    have e2 : ((32 : UInt8)).toNat = 32 := rfl
    omega
  unfold Ply.place
  split
  · exact fun hm => (List.mem_cons.1 hm).elim hc hi
  · exact fun hm => (List.mem_append.1 hm).elim hi fun hm => hc (List.mem_singleton.1 hm)
theorem place_long (p : Ply) : 2 ≤ p.place.length := by
  have := itoa_ne (p.row + 1)
  unfold Ply.place
  split
  · rw [List.length_cons]; omega
  · rw [List.length_append, List.length_singleton]; omega
theorem place_down {p : Ply} (h : 0 ≤ p.col ∧ p.col ≤ 14) : plDown p.place = p.down := by
  unfold plDown Ply.place
  cases hd : p.down with
  | true =>
    rw [if_pos rfl, List.getD_cons_zero]
    exact colC_small h
  | false =>
    rw [if_neg (by decide)]
    have e : (itoa (p.row + 1) ++ [colC p.col]).getD 0 0 = (itoa (p.row + 1)).getD 0 0 := by
      have := itoa_ne (p.row + 1)
      rw [List.getD_eq_getElem?_getD, List.getD_eq_getElem?_getD, List.getElem?_append_left (by omega)]
    rw [e]
    exact itoa_front
theorem place_number {p : Ply} (h : 0 ≤ p.col ∧ p.col ≤ 14) : plNumber p.place = itoa (p.row + 1) := by
  unfold plNumber
  rw [place_down h]
  unfold Ply.place
  cases hd : p.down with
  | true => rw [if_pos rfl, if_pos rfl]; rfl
  | false =>
    rw [if_neg (by decide), if_neg (by decide), List.length_append, List.length_singleton, Nat.add_sub_cancel, List.take_left']
    rfl
theorem place_letter {p : Ply} (h : 0 ≤ p.col ∧ p.col ≤ 14) : plLetter p.place = colC p.col := by
  unfold plLetter
  rw [place_down h]
  unfold Ply.place
  cases hd : p.down with
  | true => rw [if_pos rfl, if_pos rfl, List.getD_cons_zero]
  | false =>
    rw [if_neg (by decide), if_neg (by decide), List.length_append, List.length_singleton, Nat.add_sub_cancel, List.getD_eq_getElem?_getD, List.getElem?_append_right (Nat.le_refl _)]
    simp
theorem raw_place {p : Ply} (h : p.plain = true) : rawPlay p.place p.word.data.toList = p := by
  obtain ⟨⟨r0, r1⟩, hc, _⟩ := plain_iff.1 h
  unfold rawPlay
  rw [place_number hc, place_letter hc, place_down hc, small_back (by omega) (by omega), Option.getD_some, colC_nat hc, mkB_of]
  obtain ⟨r, c, d, w⟩ := p
  simp only at *
  rw [show r + 1 - 1 = r by omega, IntWalk.wrap64_in r (by omega), show ((97 + c.toNat : Nat) : Int) - 97 = c by omega]
theorem raw_text {place word : List UInt8} {n : Int} (hl : 2 ≤ place.length) (hn : specNum (plNumber place) = some n) (hp : (rawPlay place word).plain = true) : (rawPlay place word).text = place ++ 32 :: word := by
  obtain ⟨⟨r0, r1⟩, hc, _⟩ := plain_iff.1 hp
  have hr := specNum_range hn
  have hs := specNum_some hn
  have e1 : (rawPlay place word).row = n - 1 := by
    unfold rawPlay
    simp only [hn, Option.getD_some]
    exact IntWalk.wrap64_in _ (by omega)
  have e2 : colC (rawPlay place word).col = plLetter place := by
    refine UInt8.toNat_inj.1 ?_
    rw [colC_nat hc]
    unfold rawPlay at hc ⊢
    simp only at hc ⊢
    omega
  have e3 : (rawPlay place word).down = plDown place := rfl
  have e4 : (rawPlay place word).word.data.toList = word := mkB_data _
  unfold Ply.text Ply.place
  rw [e1, e2, e3, e4, show n - 1 + 1 = n by omega, hs]
  congr 1
  unfold plNumber plLetter
  cases hd : plDown place with
  | true =>
    rw [if_pos rfl, if_pos rfl, if_pos rfl]
    cases place with
    | nil => simp at hl
    | cons a l => rfl
  | false =>
    rw [if_neg (by decide), if_neg (by decide), if_neg (by decide)]
    have e : place.getD (place.length - 1) 0 = place[place.length - 1]'(by omega) := by rw [List.getD_eq_getElem?_getD, List.getElem?_eq_getElem (by omega)]; rfl
    have h1 := List.take_succ_eq_append_getElem (show place.length - 1 < place.length by omega)
    rw [e, ← h1, show place.length - 1 + 1 = place.length by omega, List.take_length]
theorem readPlay_iff (l : List UInt8) (p : Ply) : readPlay l = some p ↔ p.plain = true ∧ p.text = l := by
  constructor
  · intro h
    unfold readPlay at h
    split at h
    · rename_i hh
      simp only [Option.some.injEq] at h
      rw [← h]
      exact hh.2
    · cases h
  · rintro ⟨h, rfl⟩
    have hc := (plain_iff.1 h).2.1
    have e : cutS p.text = (p.place, p.word.data.toList) := cutS_app _ (place_free hc)
    unfold readPlay
    rw [e]
    simp only
    rw [raw_place h, if_pos ⟨place_long p, h, rfl⟩]
theorem word_free {p : Ply} (h : p.plain = true) : (32 : UInt8) ∉ p.word.data.toList := fun hm => by
  have := (mainL_iff.1 (plain_iff.1 h).2.2).2.2
  have := List.all_eq_true.1 this _ hm
  exact absurd this (by decide)
theorem specPlay_iff (l : List UInt8) (p : Ply) : specPlay l = some p ↔ p.plain = true ∧ p.text = l := by
  constructor
  · intro h
    have hj := join_split 32 l
    unfold specPlay at h
    split at h
    · rename_i place word hs
      rw [hs] at hj
      split at h
      · rename_i hh
        simp only [Option.some.injEq] at h
        obtain ⟨n, hn⟩ := Option.isSome_iff_exists.1 hh.2.1
        rw [← h]
        exact ⟨hh.2.2, by rw [raw_text hh.1 hn hh.2.2, ← hj]; rfl⟩
      · cases h
    · cases h
  · rintro ⟨h, rfl⟩
    obtain ⟨⟨r0, r1⟩, hc, _⟩ := plain_iff.1 h
    have e : splitL 32 p.text = [p.place, p.word.data.toList] := by
      unfold Ply.text
      rw [splitL_app _ (place_free hc), splitL_none (word_free h)]
    unfold specPlay
    rw [e]
    simp only
    rw [raw_place h, place_number hc, small_back (by omega) (by omega), if_pos ⟨place_long p, rfl, h⟩]
theorem readPlay_eq (l : List UInt8) : readPlay l = specPlay l := by
  cases h : readPlay l with
  | some p => exact ((specPlay_iff l p).2 ((readPlay_iff l p).1 h)).symm
  | none =>
    cases h2 : specPlay l with
    | none => rfl
    | some p =>
      have := (readPlay_iff l p).2 ((specPlay_iff l p).1 h2)
      rw [h] at this
      cases this
theorem text_ne (p : Ply) : p.text ≠ [] := by
  unfold Ply.text
  simp
/-- a play's text is read back, if it has one -/
theorem readPlay_text (p : Ply) : readPlay (playText p).data.toList = if p.plain = true then some p else none := by
  by_cases h : p.plain = true
  · rw [if_pos h]
    unfold playText
    rw [if_pos h, mkB_data]
    exact (readPlay_iff _ _).2 ⟨h, rfl⟩
  · rw [if_neg h]
    unfold playText
    rw [if_neg h]
    cases e : readPlay (⟨#[]⟩ : ByteArray).data.toList with
    | none => rfl
    | some x => exact absurd ((readPlay_iff _ _).1 e).2 (text_ne x)
theorem playText_of {l : List UInt8} {p : Ply} (h : readPlay l = some p) : playText p = mkB l := by
  obtain ⟨h1, h2⟩ := (readPlay_iff l p).1 h
  unfold playText
  rw [if_pos h1, h2]

/-! ### The order -/
theorem sgnI_swap (a b : Int) : sgnI b a = - sgnI a b := by
  unfold sgnI
  split <;> split <;> omega
theorem sgnI_zero {a b : Int} : sgnI a b = 0 ↔ a = b := by
  unfold sgnI
  split
  · omega
  · split <;> omega
theorem sgnT_swap (a b : ByteArray) : sgnT b a = - sgnT a b := by
  unfold sgnT
  rw [bytesLess_eq, bytesLess_eq]
  by_cases h : a.toList < b.toList
  · have h2 : ¬ b.toList < a.toList := fun k => List.lt_irrefl _ (List.lt_trans h k)
    simp [h, h2]
  · by_cases h2 : b.toList < a.toList <;> simp [h, h2]
theorem sgnT_zero {a b : ByteArray} : sgnT a b = 0 ↔ a = b := by
  unfold sgnT
  rw [bytesLess_eq, bytesLess_eq]
  constructor
  · intro h
    by_cases h1 : a.toList < b.toList
    · simp [h1] at h
    · by_cases h2 : b.toList < a.toList
      · simp [h1, h2] at h
      · have := List.le_antisymm (List.not_lt.1 h2) (List.not_lt.1 h1)
        exact ByteArray.ext (Array.toList_inj.1 (by rw [← ByteArray.toList_eq, ← ByteArray.toList_eq]; exact this))
  · rintro rfl
    have := List.lt_irrefl a.toList
    simp [this]
theorem cmp_swap (a b : Ply) : b.cmp a = - a.cmp b := by
  unfold Ply.cmp
  by_cases h1 : a.down = b.down
  · rw [if_pos h1, if_pos h1.symm]
    by_cases h2 : a.row = b.row
    · rw [if_pos h2, if_pos h2.symm]
      by_cases h3 : a.col = b.col
      · rw [if_pos h3, if_pos h3.symm, sgnT_swap]
      · rw [if_neg h3, if_neg (fun e => h3 e.symm), sgnI_swap]
    · rw [if_neg h2, if_neg (fun e => h2 e.symm), sgnI_swap]
  · rw [if_neg h1, if_neg (fun e => h1 e.symm)]
    cases ha : a.down <;> cases hb : b.down <;> simp_all
theorem cmp_zero {a b : Ply} : a.cmp b = 0 ↔ a = b := by
  constructor
  · intro h
    unfold Ply.cmp at h
    by_cases h1 : a.down = b.down
    · rw [if_pos h1] at h
      by_cases h2 : a.row = b.row
      · rw [if_pos h2] at h
        by_cases h3 : a.col = b.col
        · rw [if_pos h3] at h
          have h4 := sgnT_zero.1 h
          cases a; cases b
          simp only at h1 h2 h3 h4
          subst h1 h2 h3 h4
          rfl
        · rw [if_neg h3] at h
          exact absurd (sgnI_zero.1 h) h3
      · rw [if_neg h2] at h
        exact absurd (sgnI_zero.1 h) h2
    · rw [if_neg h1] at h
      split at h <;> omega
  · rintro rfl
    unfold Ply.cmp
    rw [if_pos rfl, if_pos rfl, if_pos rfl]
    exact sgnT_zero.2 rfl
end Go.Proofs.YtjdcdhhbgijaoaaGreatDoor
