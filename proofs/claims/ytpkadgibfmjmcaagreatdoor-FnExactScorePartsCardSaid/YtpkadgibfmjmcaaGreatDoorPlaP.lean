/- Plain definitions and lemmas: plays on boards: whether one fits, the squares that it fills, the words that it forms. No condition. -/
import Derived.Test.YtpkadgibfmjmcaaGreatDoorPlcP
import Derived.Test.YtpkadgibfmjmcaaGreatDoorTPlay
namespace Go.Proofs.YtpkadgibfmjmcaaGreatDoor
open Go.ChangeShapes Go.WideShapes Go.ChangeAt Go.RowKit Go.Sort

def Ply.r (p : Ply) : Int := if p.down then p.col else p.row
def Ply.c (p : Ply) : Int := if p.down then p.row else p.col
def Ply.turn (p : Ply) : Ply := ⟨p.col, p.row, !p.down, p.word⟩
/-- the play as an across play -/
def Ply.flat (p : Ply) : Ply := if p.down then p.turn else p
/-- what an across play sees: a square is 46 (free) or its letter -/
def fitTo (F : Fl) (R C : Int) (l : List UInt8) (k : Nat) : Bool := (List.range k).all fun i => F R (C + i) == 46 || F R (C + i) == l.getD i 0
def freeTo (F : Fl) (R C : Int) (k : Nat) : Bool := (List.range k).any fun i => F R (C + i) == 46
def fitsF (F : Fl) (n : Int) (R C : Int) (l : List UInt8) : Bool :=
  withinB R 0 (n - 1) && withinB C 0 (n - 1) && decide (C + l.length ≤ n) && !fullC (F R (C - 1)) && !fullC (F R (C + l.length)) && fitTo F R C l l.length && freeTo F R C l.length
def Brd.view (b : Brd) (p : Ply) : Fl := (b.flat p.down).cell
def Brd.fits (b : Brd) (p : Ply) : Bool := fitsF (b.view p) b.size p.r p.c p.word.data.toList
def Brd.okPlay (b : Brd) (p : Ply) : Bool := b.ok && mainL p.word.data.toList && b.fits p
theorem flat_size (b : Brd) (d : Bool) : (b.flat d).size = b.size := by cases d <;> rfl
theorem Brd.Good.view {b : Brd} {n : Nat} (h : b.Good n) (p : Ply) : b.view p = if p.down then fun r c => b.cell c r else b.cell := by
  unfold Brd.view Brd.flat
  cases p.down
  · rfl
  · exact h.turn_cell
theorem Ply.flat_row (p : Ply) : p.flat.row = p.r := by unfold Ply.flat Ply.r; cases p.down <;> rfl
theorem Ply.flat_col (p : Ply) : p.flat.col = p.c := by unfold Ply.flat Ply.c; cases p.down <;> rfl
theorem Ply.flat_word (p : Ply) : p.flat.word = p.word := by unfold Ply.flat; cases p.down <;> rfl

/-- a valid play on a valid board, seen across -/
structure PGood (b : Brd) (p : Ply) (n : Nat) : Prop where
  good : b.Good n
  two : 2 ≤ p.word.size
  twelve : p.word.size ≤ 12
  letters : p.word.data.toList.all (fun c => letB c.toNat) = true
  r0 : 0 ≤ p.r
  r1 : p.r < n
  c0 : 0 ≤ p.c
  c1 : p.c + p.word.size ≤ n
  before : fullC (b.view p p.r (p.c - 1)) = false
  behind : fullC (b.view p p.r (p.c + p.word.size)) = false
  fit : fitTo (b.view p) p.r p.c p.word.data.toList p.word.size = true
  free : freeTo (b.view p) p.r p.c p.word.size = true
theorem mainL_iff {l : List UInt8} : mainL l = true ↔ 2 ≤ l.length ∧ l.length ≤ 12 ∧ l.all (fun c => letB c.toNat) = true := by
  unfold mainL placedL
  simp only [Bool.and_eq_true, decide_eq_true_eq]
  constructor
  · rintro ⟨h1, ⟨h2, h3⟩, h4⟩; exact ⟨h1, h3, h4⟩
  · rintro ⟨h1, h2, h3⟩; exact ⟨h1, ⟨by omega, h2⟩, h3⟩
theorem okPlay_good {b : Brd} {p : Ply} (h : b.okPlay p = true) : ∃ n, PGood b p n := by
  unfold Brd.okPlay Brd.fits fitsF at h
  simp only [Bool.and_eq_true, Bool.not_eq_true', decide_eq_true_eq, within_iff] at h
  obtain ⟨⟨h1, h2⟩, ⟨⟨⟨⟨⟨⟨a1, a2⟩, a3⟩, a4⟩, a5⟩, a6⟩, a7⟩⟩ := h
  obtain ⟨n, hn⟩ := Brd.good h1
  obtain ⟨m1, m2, m3⟩ := mainL_iff.1 h2
  have hl : p.word.data.toList.length = p.word.size := by simp
  have hs := hn.size
  rw [hl] at m1 m2 a3 a5 a6 a7
  exact ⟨n, hn, m1, m2, m3, a1.1, by omega, a2.1, by omega, a4, a5, a6, a7⟩
theorem PGood.ok {b : Brd} {p : Ply} {n : Nat} (h : PGood b p n) : b.okPlay p = true := by
  obtain ⟨hn, m1, m2, m3, r0, r1, c0, c1, a4, a5, a6, a7⟩ := h
  have hl : p.word.data.toList.length = p.word.size := by simp
  have hs := hn.size
  unfold Brd.okPlay Brd.fits fitsF
  simp only [Bool.and_eq_true, Bool.not_eq_true', decide_eq_true_eq, within_iff, hl]
  exact ⟨⟨hn.ok, mainL_iff.2 ⟨by omega, by omega, m3⟩⟩, ⟨⟨⟨⟨⟨⟨⟨r0, by omega⟩, c0, by omega⟩, by omega⟩, a4⟩, a5⟩, a6⟩, a7⟩⟩
/-- the offsets of the letters that are placed -/
def freshL (F : Fl) (R C : Int) (k : Nat) : List Nat := (List.range k).filter fun i => F R (C + i) == 46
theorem freshL_succ (F : Fl) (R C : Int) (k : Nat) : freshL F R C (k + 1) = freshL F R C k ++ if F R (C + k) == 46 then [k] else [] := by
  unfold freshL
  rw [List.range_succ, List.filter_append]
  congr 1
  simp only [List.filter_cons, List.filter_nil]
theorem freshL_len (F : Fl) (R C : Int) (k : Nat) : (freshL F R C k).length ≤ k := by
  unfold freshL
  have := List.length_filter_le (fun i : Nat => F R (C + i) == 46) (List.range k)
  simpa using this
theorem freshL_lt {F : Fl} {R C : Int} {k i : Nat} (h : i ∈ freshL F R C k) : i < k ∧ F R (C + i) = 46 := by
  unfold freshL at h
  rw [List.mem_filter, List.mem_range] at h
  exact ⟨h.1, by simpa using h.2⟩
def Brd.fresh (b : Brd) (p : Ply) : List Nat := freshL (b.view p) p.r p.c p.word.size
/-- a word across, through a square on which a letter is placed -/
def crossW (F : Fl) (R C : Int) (x : UInt8) : List UInt8 := (upL F C 16 (R - 1)).reverse ++ x :: dnL F C 16 (R + 1)
theorem crossW_len (F : Fl) (R C : Int) (x : UInt8) : (crossW F R C x).length ≤ 33 := by
  have h1 := upL_len F C 16 (R - 1)
  have h2 := dnL_len F C 16 (R + 1)
  unfold crossW
  simp only [List.length_append, List.length_reverse, List.length_cons]
  omega
/-- the words across that the first offsets of a list form -/
def acrossL (F : Fl) (R C : Int) (l : List UInt8) (is : List Nat) : List (List UInt8) := (is.map fun i : Nat => crossW F R (C + i) (l.getD i 0)).filter fun w => decide (1 < w.length)
theorem acrossL_snoc (F : Fl) (R C : Int) (l : List UInt8) (is : List Nat) (i : Nat) : acrossL F R C l (is ++ [i]) = acrossL F R C l is ++ if 1 < (crossW F R (C + i) (l.getD i 0)).length then [crossW F R (C + i) (l.getD i 0)] else [] := by
  unfold acrossL
  rw [List.map_append, List.filter_append]
  congr 1
  simp only [List.map_cons, List.map_nil, List.filter_cons, List.filter_nil]
  simp
theorem acrossL_len (F : Fl) (R C : Int) (l : List UInt8) (is : List Nat) : (acrossL F R C l is).length ≤ is.length := by
  unfold acrossL
  refine Nat.le_trans (List.length_filter_le _ _) ?_
  rw [List.length_map]; exact Nat.le_refl _
def Brd.formed (b : Brd) (p : Ply) : List (List UInt8) := p.word.data.toList :: acrossL (b.view p) p.r p.c p.word.data.toList (b.fresh p)
def Brd.words (b : Brd) (p : Ply) : List ByteArray := (b.formed p).map fun l => mkB (lowL l)
end Go.Proofs.YtpkadgibfmjmcaaGreatDoor
