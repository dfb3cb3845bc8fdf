/- Plain definitions and lemmas: the letters on a board, blank boards, plays that touch what is on a board. No condition. · Contracts: the reference's letters on a board; whether a play touches. For valid boards and plays. -/
import Derived.Test.YtjdcdhhbgijaoaaGreatDoorPlbH
import Derived.Lib.Replace
import Derived.Test.YtjdcdhhbgijaoaaGreatDoorPlaD
namespace Go.Proofs.YtjdcdhhbgijaoaaGreatDoor
open Go.ChangeShapes Go.WideShapes Go.ChangeAt Go.RowKit Go.Sort

/-! ### strings.ReplaceAll of one byte by nothing -/
theorem index_front (c : UInt8) : ∀ (a t : List UInt8), c ∉ a → Lib.index (a ++ c :: t) [c] = (a.length : Int)
  | [], t, _ => by simp [Lib.index]
  | b :: a, t, h => by
    have hb : b ≠ c := fun e => h (by rw [e]; exact List.mem_cons_self)
    have ih := index_front c a t (fun k => h (List.mem_cons_of_mem _ k))
    rw [List.cons_append]
    unfold Lib.index
    rw [ih]
    have h0 : List.isPrefixOf [c] (b :: (a ++ c :: t)) = false := by
      simp only [List.isPrefixOf, Bool.and_eq_false_iff, beq_eq_false_iff_ne]
      exact .inl (fun e => hb e.symm)
    have h1 : (((a.length : Int)) == -1) = false := by rw [beq_eq_false_iff_ne]; omega
    rw [h0, h1]
    simp
theorem index_not (c : UInt8) : ∀ (a : List UInt8), c ∉ a → Lib.index a [c] = -1
  | [], _ => by simp [Lib.index]
  | b :: a, h => by
    have hb : b ≠ c := fun e => h (by rw [e]; exact List.mem_cons_self)
    have ih := index_not c a (fun k => h (List.mem_cons_of_mem _ k))
    unfold Lib.index
    rw [ih]
    have h0 : List.isPrefixOf [c] (b :: a) = false := by
      simp only [List.isPrefixOf, Bool.and_eq_false_iff, beq_eq_false_iff_ne]
      exact .inl (fun e => hb e.symm)
    rw [h0]
    simp
theorem filter_not (c : UInt8) {s : List UInt8} (h : c ∉ s) : s.filter (fun x => x != c) = s := by
  rw [List.filter_eq_self]
  intro x hx
  rw [bne_iff_ne]
  rintro rfl
  exact h hx
theorem replaceK_drop (c : UInt8) : ∀ (k : Nat) (s : List UInt8), s.count c ≤ k → Lib.replaceK [c] [] k s = s.filter (fun x => x != c)
  | 0, s, h => by
    have : c ∉ s := List.count_eq_zero.1 (by omega)
    rw [filter_not c this]
    rfl
  | k + 1, s, h => by
    by_cases hm : c ∈ s
    · obtain ⟨a, t, rfl, ha⟩ := List.eq_append_cons_of_mem hm
      have hk : t.count c ≤ k := by
        rw [List.count_append, List.count_cons_self] at h
        omega
      rw [Lib.replaceK_hit [c] [] k _ a.length (index_front c a t ha)]
      have e1 : (a ++ c :: t).take a.length = a := by simp
      have e2 : (a ++ c :: t).drop (a.length + [c].length) = t := by simp
      rw [e1, e2, replaceK_drop c k t hk, List.filter_append, filter_not c ha]
      simp
    · unfold Lib.replaceK
      rw [index_not c s hm, filter_not c hm]
      rfl
theorem replaceAll_drop (c : UInt8) (s : List UInt8) : Lib.replaceAll s [c] [] = s.filter (fun x => x != c) := by
  unfold Lib.replaceAll Lib.replace Lib.replaceNum
  rw [if_neg (by simp), if_pos (.inl (by omega)), Lib.count_one]
  exact replaceK_drop c _ _ (Nat.le_refl _)

/-! ### Blank boards -/
def lettersL (l : List UInt8) : List UInt8 := l.filter (fun x => x != 46)
def Brd.blank (b : Brd) : Bool := decide ((lettersL b.cells.data.toList).length = 0)
theorem blank_all {b : Brd} (h : b.blank = true) : ∀ x ∈ b.cells.data.toList, x = 46 := by
  intro x hx
  have h1 : lettersL b.cells.data.toList = [] := List.length_eq_zero_iff.1 (of_decide_eq_true h)
  have h2 := List.filter_eq_nil_iff.1 h1 x hx
  simpa using h2
/-- whether a valid play touches what is on the board, or the middle of a blank one -/
def Brd.touch (b : Brd) (p : Ply) : Bool :=
  if b.blank then decide (p.r = b.size / 2) && (decide (p.c ≤ b.size / 2) && decide (b.size / 2 < p.c + p.word.size))
  else decide ((b.fresh p).length < p.word.size) || decide (1 < (b.words p).length)
theorem PGood.blank_fresh {b : Brd} {p : Ply} {n : Nat} (h : PGood b p n) (hb : b.blank = true) : b.fresh p = List.range p.word.size := by
  unfold Brd.fresh freshL
  rw [List.filter_eq_self]
  intro i hi
  have hi := List.mem_range.1 hi
  rw [← h.good.sq p i]
  obtain ⟨h1, h2⟩ := h.sq_in hi
  obtain ⟨r, hr⟩ := Int.eq_ofNat_of_zero_le h1.1
  obtain ⟨c, hc⟩ := Int.eq_ofNat_of_zero_le h2.1
  rw [hr, hc]
  have hl := h.good.get (r := r) (c := c) (by omega) (by omega)
  rw [h.good.cell_in (by omega) (by omega) rfl hl]
  have := blank_all hb b.cells[r * n + c] (by rw [← bytes_get b.cells _ hl]; exact List.getElem_mem _)
  rw [this]
  rfl
/-- one of a valid play's new squares is the middle of a blank board -/
theorem PGood.middle {b : Brd} {p : Ply} {n : Nat} (h : PGood b p n) (hb : b.blank = true) : ((b.fresh p).any fun i => decide (sqOf p i = (b.size / 2, b.size / 2))) = b.touch p := by
  unfold Brd.touch
  rw [if_pos hb, h.blank_fresh hb, Bool.eq_iff_iff]
  simp only [List.any_eq_true, List.mem_range, decide_eq_true_eq, Bool.and_eq_true, sqOf, Prod.mk.injEq]
  generalize b.size / 2 = m
  unfold Ply.sr Ply.sc Ply.r Ply.c
  cases p.down with
  | false =>
    simp only [Bool.false_eq_true, if_false]
    constructor
    · rintro ⟨i, h1, h2, h3⟩; omega
    · rintro ⟨h1, h2, h3⟩; exact ⟨(m - p.col).toNat, by omega, by omega, by omega⟩
  | true =>
    simp only [if_true]
    constructor
    · rintro ⟨i, h1, h2, h3⟩; omega
    · rintro ⟨h1, h2, h3⟩; exact ⟨(m - p.row).toNat, by omega, by omega, by omega⟩
theorem touch_full {b : Brd} {p : Ply} (h : b.blank = false) : b.touch p = (decide ((b.fresh p).length < p.word.size) || decide (1 < (b.words p).length)) := by unfold Brd.touch; rw [h]; rfl
end Go.Proofs.YtjdcdhhbgijaoaaGreatDoor

namespace Go.Proofs.YtjdcdhhbgijaoaaGreatDoor
open Go.ChangeShapes Go.WideShapes Go.ChangeAt Go.RowKit Go.Sort

theorem empty_cmp (s : ByteArray) : s.toList.isEmpty = decide (s.size = 0) := by
  rw [Bool.eq_iff_iff, List.isEmpty_iff, decide_eq_true_eq, ByteArray.toList_eq]
  constructor
  · intro h
    have := congrArg List.length h
    simpa using this
  · intro h
    have h1 : s.data.toList.length = 0 := by simpa using h
    exact List.length_eq_zero_iff.1 h1
end Go.Proofs.YtjdcdhhbgijaoaaGreatDoor
