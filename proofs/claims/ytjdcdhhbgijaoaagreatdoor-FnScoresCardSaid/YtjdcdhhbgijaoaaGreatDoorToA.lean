/- Plain definitions and lemmas: the letters on a board, blank boards, plays that touch what is on a board. No condition. · Contracts: the reference's letters on a board; whether a play touches. For valid boards and plays. -/
import Derived.Test.YtjdcdhhbgijaoaaGreatDoorPlbF
import Derived.Lib.Replace
import Derived.Test.YtjdcdhhbgijaoaaGreatDoorPlaD
namespace Go.Proofs.YtjdcdhhbgijaoaaGreatDoor
open Go.ChangeShapes Go.WideShapes Go.ChangeAt Go.RowKit Go.Sort

/-! ### strings.ReplaceAll of one byte by nothing -/
def lettersL (l : List UInt8) : List UInt8 := l.filter (fun x => x != 46)
def Brd.blank (b : Brd) : Bool := decide ((lettersL b.cells.data.toList).length = 0)
theorem blank_all {b : Brd} (h : b.blank = true) : ∀ x ∈ b.cells.data.toList, x = 46 := by
  intro x hx
  have h1 : lettersL b.cells.data.toList = [] := List.length_eq_zero_iff.1 (of_decide_eq_true h)
  have h2 := List.filter_eq_nil_iff.1 h1 x hx
  simpa using h2
/-- whether a valid play touches what is on the board, or the middle of a blank one -/
def Brd.touch (b : Brd) (p : Ply) : Bool :=
  if b.blank then decide (p.r = b.size / 2) && (decide (p.c ≤ b.size / 2) && decide (b.size / 2 < p.c + p.word.size))
  else decide ((b.fresh p).length < p.word.size) || decide (1 < (b.words p).length)
theorem PGood.blank_fresh {b : Brd} {p : Ply} {n : Nat} (h : PGood b p n) (hb : b.blank = true) : b.fresh p = List.range p.word.size := by
  unfold Brd.fresh freshL
  rw [List.filter_eq_self]
  intro i hi
  have hi := List.mem_range.1 hi
  rw [← h.good.sq p i]
  obtain ⟨h1, h2⟩ := h.sq_in hi
  obtain ⟨r, hr⟩ := Int.eq_ofNat_of_zero_le h1.1
  obtain ⟨c, hc⟩ := Int.eq_ofNat_of_zero_le h2.1
  rw [hr, hc]
  have hl := h.good.get (r := r) (c := c) (by omega) (by omega)
  rw [h.good.cell_in (by omega) (by omega) rfl hl]
  have := blank_all hb b.cells[r * n + c] (by rw [← bytes_get b.cells _ hl]; exact List.getElem_mem _)
  rw [this]
  rfl
/-- one of a valid play's new squares is the middle of a blank board -/
theorem PGood.middle {b : Brd} {p : Ply} {n : Nat} (h : PGood b p n) (hb : b.blank = true) : ((b.fresh p).any fun i => decide (sqOf p i = (b.size / 2, b.size / 2))) = b.touch p := by
  unfold Brd.touch
  rw [if_pos hb, h.blank_fresh hb, Bool.eq_iff_iff]
  simp only [List.any_eq_true, List.mem_range, decide_eq_true_eq, Bool.and_eq_true, sqOf, Prod.mk.injEq]
  generalize b.size / 2 = m
  unfold Ply.sr Ply.sc Ply.r Ply.c
  cases p.down with
  | false =>
    simp only [Bool.false_eq_true, if_false]
    constructor
    · rintro ⟨i, h1, h2, h3⟩; omega
    · rintro ⟨h1, h2, h3⟩; exact ⟨(m - p.col).toNat, by omega, by omega, by omega⟩
  | true =>
    simp only [if_true]
    constructor
    · rintro ⟨i, h1, h2, h3⟩; omega
    · rintro ⟨h1, h2, h3⟩; exact ⟨(m - p.row).toNat, by omega, by omega, by omega⟩
end Go.Proofs.YtjdcdhhbgijaoaaGreatDoor

namespace Go.Proofs.YtjdcdhhbgijaoaaGreatDoor
open Go.ChangeShapes Go.WideShapes Go.ChangeAt Go.RowKit Go.Sort

end Go.Proofs.YtjdcdhhbgijaoaaGreatDoor
