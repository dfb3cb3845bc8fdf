/- Plain definitions and lemmas: words that are placed; strings.ToLower keeps no string of letters but such of ASCII. No condition. · Plain definitions and lemmas: plays on boards: whether one fits, the squares that it fills, the words that it forms. No condition. -/
import Derived.Test.YtjdcdhhbgijaoaaGreatDoorBrA
import Derived.Test.YtjdcdhhbgijaoaaGreatDoorBrI
import Derived.Test.YtjdcdhhbgijaoaaGreatDoorLex
import Derived.Lib.MapLaws
import Derived.Lib.TrimAscii
import Derived.Lib.TrimU
import Derived.Shelf.Strings.CaseAny
import Derived.Test.YtjdcdhhbgijaoaaGreatDoorVar
namespace Go.Proofs.YtjdcdhhbgijaoaaGreatDoor
open Go.ChangeShapes Go.WideShapes Go.ChangeAt Go.RowKit Go.Sort

def placedL (l : List UInt8) : Bool := decide (1 ≤ l.length) && decide (l.length ≤ 12) && l.all (fun c => letB c.toNat)
def mainL (l : List UInt8) : Bool := decide (2 ≤ l.length) && placedL l

theorem wide_bad (l : List UInt8) (b : UInt8) (t : List UInt8) (hl : l = b :: t) (hb : 128 ≤ b.toNat) (hw : (Lib.decodeL l).2 = 1) : (Lib.decodeL l).1 = 65533 := by
  subst hl
  unfold Lib.decodeL Utf8.decode at hw ⊢
  have h0 : ((⟨(b :: t).toArray⟩ : ByteArray).get! (0 + 0)).toNat = b.toNat := by rfl
  simp only [h0] at hw ⊢
  rw [if_neg (by omega)] at hw ⊢
  split at hw
  · rw [if_pos ‹_›]
    split at hw
    · simp at hw
    · rename_i h
      rw [if_neg h]
      rfl
  · rw [if_neg ‹_›]
    split at hw
    · rw [if_pos ‹_›]
      split at hw
      · simp at hw
      · rename_i h
        rw [if_neg h]
        rfl
    · rw [if_neg ‹_›]
      split at hw
      · rw [if_pos ‹_›]
        split at hw
        · simp at hw
        · rename_i h
          rw [if_neg h]
          rfl
      · rw [if_neg ‹_›]
        rfl
set_option maxRecDepth 100000 in
theorem low_bad : Lib.toLowerU 65533 = 65533 := by decide +kernel
theorem u8_of {x : Int} (h0 : 0 ≤ x) (h1 : x < 256) : (x.toNat.toUInt8).toNat = x.toNat := by
  rw [Nat.toUInt8]
  simp only [UInt8.toNat_ofNat']
  omega
theorem enc_ascii {r : Int} (h : ∀ b ∈ Lib.encodeRune r, b.toNat < 128) : (Lib.encodeRune r).length = 1 := by
  have hz : ∀ x ∈ Lib.encodeRuneZ r, x < 128 := fun x hx => by
    have h1 := Lib.encodeRuneZ_byte r x hx
    have h2 := h (x.toNat.toUInt8) (by unfold Lib.encodeRune; exact List.mem_map_of_mem hx)
    rw [u8_of h1.1 h1.2] at h2
    omega
  unfold Lib.encodeRune
  rw [List.length_map]
  unfold Lib.encodeRuneZ at hz ⊢
  split
  · rfl
  · rename_i a
    rw [if_neg a] at hz
    split
    · rename_i c
      rw [if_pos c] at hz
      have := hz (192 + r / 64) (by simp)
      omega
    · rename_i c
      rw [if_neg c] at hz
      split
      · rename_i d
        rw [if_pos d] at hz
        have := hz (224 + r / 4096) (by simp)
        omega
      · rename_i d
        rw [if_neg d] at hz
        split
        · rename_i e
          rw [if_pos e] at hz
          have := hz (240 + r / 262144) (by simp)
          omega
        · rename_i e
          rw [if_neg e] at hz
          have := hz 239 (by simp)
          omega
theorem low_wide : ∀ (k : Nat) (l : List UInt8), l.length ≤ k → (∀ b ∈ Lib.mapD Lib.toLowerU l, b.toNat < 128) →
    (Lib.mapD Lib.toLowerU l).length ≤ l.length ∧ ((Lib.mapD Lib.toLowerU l).length = l.length → ∀ b ∈ l, b.toNat < 128)
  | k, [], _, _ => by simp [Lib.mapD, Lib.mapGoD]
  | 0, b :: t, h, _ => by simp at h
  | k + 1, b :: t, hk, ha => by
    have hne : (b :: t : List UInt8) ≠ [] := by simp
    have hw1 := Lib.decodeL_width (b :: t)
    have hw2 := Lib.decodeL_le (b :: t) hne
    have hr := (Lib.toLowerU_range (Lib.decodeL (b :: t)).1 (Lib.decodeL_rune _)).1
    have hst := Lib.mapD_step Lib.toLowerU (b :: t) hne
    rw [if_pos hr] at hst
    rw [hst] at ha ⊢
    have h1 := enc_ascii (fun x hx => ha x (List.mem_append_left _ hx))
    have hd : ((b :: t).drop (Lib.decodeL (b :: t)).2).length = (b :: t).length - (Lib.decodeL (b :: t)).2 := by simp
    have hlen : (b :: t).length ≤ k + 1 := hk
    obtain ⟨i1, i2⟩ := low_wide k ((b :: t).drop (Lib.decodeL (b :: t)).2) (by omega) (fun x hx => ha x (List.mem_append_right _ hx))
    rw [List.length_append, h1]
    refine ⟨by omega, fun he => ?_⟩
    have e1 : (Lib.decodeL (b :: t)).2 = 1 := by omega
    have i3 := i2 (by omega)
    rw [e1, List.drop_succ_cons, List.drop_zero] at i3
    intro x hx
    cases hx with
    | head =>
      by_cases hb : b.toNat < 128
      · exact hb
      · exfalso
        have e2 := wide_bad (b :: t) b t rfl (by omega) e1
        have e3 := ha 239 (by
          rw [e2]
          refine List.mem_append_left _ ?_
          rw [show ((65533 : Nat) : Int) = 65533 from rfl, low_bad]
          decide)
        simp at e3
    | tail _ hx => exact i3 x hx
theorem let_small {c : UInt8} : smallB ((lowC c).toNat : Int) = letB (c.toNat : Int) := by
  cases hc : capB (c.toNat : Int) with
  | true =>
    have h1 := lowC_cap hc
    have h2 := cap_range hc
    unfold letB
    rw [hc, Bool.or_true, h1]
    unfold smallB
    simp only [Bool.and_eq_true, decide_eq_true_eq]
    omega
  | false =>
    rw [lowC_not hc]
    unfold letB
    rw [hc, Bool.or_false]
theorem low_all (l : List UInt8) : (lowL l).all (fun c => smallB c.toNat) = l.all (fun c => letB c.toNat) := by
  unfold lowL
  rw [List.all_map]
  congr 1
  funext c
  exact let_small
/-- the program's test on placed words -/
theorem placed_eq (l : List UInt8) : (wordL (Lib.toLowerD l) && decide ((Lib.toLowerD l).length = l.length)) = placedL l := by
  by_cases ha : ∀ b ∈ l, b.toNat < 128
  · rw [Lib.toLowerD_ascii l ha, lowA_eq]
    have hl : (lowL l).length = l.length := by simp [lowL]
    unfold wordL placedL
    rw [hl, low_all]
    simp
  · have h1 : placedL l = false := by
      cases hp : placedL l with
      | false => rfl
      | true =>
        exfalso
        unfold placedL at hp
        simp only [Bool.and_eq_true, List.all_eq_true] at hp
        exact ha fun b hb => let_ascii (hp.2 b hb)
    rw [h1]
    cases h2 : wordL (Lib.toLowerD l) with
    | false => rfl
    | true =>
      rw [Bool.true_and]
      refine decide_eq_false fun he => ha ?_
      refine (low_wide l.length l (Nat.le_refl _) fun b hb => ?_).2 he
      unfold wordL at h2
      simp only [Bool.and_eq_true, List.all_eq_true] at h2
      have := h2.2 b hb
      unfold smallB at this
      simp only [Bool.and_eq_true, decide_eq_true_eq] at this
      omega
end Go.Proofs.YtjdcdhhbgijaoaaGreatDoor

namespace Go.Proofs.YtjdcdhhbgijaoaaGreatDoor
open Go.ChangeShapes Go.WideShapes Go.ChangeAt Go.RowKit Go.Sort

def Ply.r (p : Ply) : Int := if p.down then p.col else p.row
def Ply.c (p : Ply) : Int := if p.down then p.row else p.col
def Ply.turn (p : Ply) : Ply := ⟨p.col, p.row, !p.down, p.word⟩
/-- the play as an across play -/
def Ply.flat (p : Ply) : Ply := if p.down then p.turn else p
/-- what an across play sees: a square is 46 (free) or its letter -/
def fitTo (F : Fl) (R C : Int) (l : List UInt8) (k : Nat) : Bool := (List.range k).all fun i => F R (C + i) == 46 || F R (C + i) == l.getD i 0
def freeTo (F : Fl) (R C : Int) (k : Nat) : Bool := (List.range k).any fun i => F R (C + i) == 46
def fitsF (F : Fl) (n : Int) (R C : Int) (l : List UInt8) : Bool :=
  withinB R 0 (n - 1) && withinB C 0 (n - 1) && decide (C + l.length ≤ n) && !fullC (F R (C - 1)) && !fullC (F R (C + l.length)) && fitTo F R C l l.length && freeTo F R C l.length
def Brd.view (b : Brd) (p : Ply) : Fl := (b.flat p.down).cell
def Brd.fits (b : Brd) (p : Ply) : Bool := fitsF (b.view p) b.size p.r p.c p.word.data.toList
def Brd.okPlay (b : Brd) (p : Ply) : Bool := b.ok && mainL p.word.data.toList && b.fits p
theorem flat_size (b : Brd) (d : Bool) : (b.flat d).size = b.size := by cases d <;> rfl
theorem Brd.Good.view {b : Brd} {n : Nat} (h : b.Good n) (p : Ply) : b.view p = if p.down then fun r c => b.cell c r else b.cell := by
  unfold Brd.view Brd.flat
  cases p.down
  · rfl
  · exact h.turn_cell
theorem Ply.flat_row (p : Ply) : p.flat.row = p.r := by unfold Ply.flat Ply.r; cases p.down <;> rfl
theorem Ply.flat_col (p : Ply) : p.flat.col = p.c := by unfold Ply.flat Ply.c; cases p.down <;> rfl
/-- a valid play on a valid board, seen across -/
structure PGood (b : Brd) (p : Ply) (n : Nat) : Prop where
  good : b.Good n
  two : 2 ≤ p.word.size
  twelve : p.word.size ≤ 12
  letters : p.word.data.toList.all (fun c => letB c.toNat) = true
  r0 : 0 ≤ p.r
  r1 : p.r < n
  c0 : 0 ≤ p.c
  c1 : p.c + p.word.size ≤ n
  before : fullC (b.view p p.r (p.c - 1)) = false
  behind : fullC (b.view p p.r (p.c + p.word.size)) = false
  fit : fitTo (b.view p) p.r p.c p.word.data.toList p.word.size = true
  free : freeTo (b.view p) p.r p.c p.word.size = true
theorem mainL_iff {l : List UInt8} : mainL l = true ↔ 2 ≤ l.length ∧ l.length ≤ 12 ∧ l.all (fun c => letB c.toNat) = true := by
  unfold mainL placedL
  simp only [Bool.and_eq_true, decide_eq_true_eq]
  constructor
  · rintro ⟨h1, ⟨h2, h3⟩, h4⟩; exact ⟨h1, h3, h4⟩
  · rintro ⟨h1, h2, h3⟩; exact ⟨h1, ⟨by omega, h2⟩, h3⟩
theorem okPlay_good {b : Brd} {p : Ply} (h : b.okPlay p = true) : ∃ n, PGood b p n := by
  unfold Brd.okPlay Brd.fits fitsF at h
  simp only [Bool.and_eq_true, Bool.not_eq_true', decide_eq_true_eq, within_iff] at h
  obtain ⟨⟨h1, h2⟩, ⟨⟨⟨⟨⟨⟨a1, a2⟩, a3⟩, a4⟩, a5⟩, a6⟩, a7⟩⟩ := h
  obtain ⟨n, hn⟩ := Brd.good h1
  obtain ⟨m1, m2, m3⟩ := mainL_iff.1 h2
  have hl : p.word.data.toList.length = p.word.size := by simp
  have hs := hn.size
  rw [hl] at m1 m2 a3 a5 a6 a7
  exact ⟨n, hn, m1, m2, m3, a1.1, by omega, a2.1, by omega, a4, a5, a6, a7⟩
theorem PGood.ok {b : Brd} {p : Ply} {n : Nat} (h : PGood b p n) : b.okPlay p = true := by
  obtain ⟨hn, m1, m2, m3, r0, r1, c0, c1, a4, a5, a6, a7⟩ := h
  have hl : p.word.data.toList.length = p.word.size := by simp
  have hs := hn.size
  unfold Brd.okPlay Brd.fits fitsF
  simp only [Bool.and_eq_true, Bool.not_eq_true', decide_eq_true_eq, within_iff, hl]
  exact ⟨⟨hn.ok, mainL_iff.2 ⟨by omega, by omega, m3⟩⟩, ⟨⟨⟨⟨⟨⟨⟨r0, by omega⟩, c0, by omega⟩, by omega⟩, a4⟩, a5⟩, a6⟩, a7⟩⟩
/-- the offsets of the letters that are placed -/
def freshL (F : Fl) (R C : Int) (k : Nat) : List Nat := (List.range k).filter fun i => F R (C + i) == 46
theorem freshL_succ (F : Fl) (R C : Int) (k : Nat) : freshL F R C (k + 1) = freshL F R C k ++ if F R (C + k) == 46 then [k] else [] := by
  unfold freshL
  rw [List.range_succ, List.filter_append]
  congr 1
  simp only [List.filter_cons, List.filter_nil]
theorem freshL_len (F : Fl) (R C : Int) (k : Nat) : (freshL F R C k).length ≤ k := by
  unfold freshL
  have := List.length_filter_le (fun i : Nat => F R (C + i) == 46) (List.range k)
  simpa using this
theorem freshL_lt {F : Fl} {R C : Int} {k i : Nat} (h : i ∈ freshL F R C k) : i < k ∧ F R (C + i) = 46 := by
  unfold freshL at h
  rw [List.mem_filter, List.mem_range] at h
  exact ⟨h.1, by simpa using h.2⟩
def Brd.fresh (b : Brd) (p : Ply) : List Nat := freshL (b.view p) p.r p.c p.word.size
/-- a word across, through a square on which a letter is placed -/
def crossW (F : Fl) (R C : Int) (x : UInt8) : List UInt8 := (upL F C 16 (R - 1)).reverse ++ x :: dnL F C 16 (R + 1)
theorem crossW_len (F : Fl) (R C : Int) (x : UInt8) : (crossW F R C x).length ≤ 33 := by
  have h1 := upL_len F C 16 (R - 1)
  have h2 := dnL_len F C 16 (R + 1)
  unfold crossW
  simp only [List.length_append, List.length_reverse, List.length_cons]
  omega
/-- the words across that the first offsets of a list form -/
def acrossL (F : Fl) (R C : Int) (l : List UInt8) (is : List Nat) : List (List UInt8) := (is.map fun i : Nat => crossW F R (C + i) (l.getD i 0)).filter fun w => decide (1 < w.length)
def Brd.formed (b : Brd) (p : Ply) : List (List UInt8) := p.word.data.toList :: acrossL (b.view p) p.r p.c p.word.data.toList (b.fresh p)
def Brd.words (b : Brd) (p : Ply) : List ByteArray := (b.formed p).map fun l => mkB (lowL l)
end Go.Proofs.YtjdcdhhbgijaoaaGreatDoor
