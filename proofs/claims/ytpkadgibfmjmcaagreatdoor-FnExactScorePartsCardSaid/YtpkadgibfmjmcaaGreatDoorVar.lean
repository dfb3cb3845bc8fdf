/- Plain lemmas: a variable of a function that lies in memory (a block of its own), known whole. No condition. -/
import Derived.Test.YtpkadgibfmjmcaaGreatDoorRow
import Derived.Deep.AppendLies
namespace Go.Proofs.YtpkadgibfmjmcaaGreatDoor
open Go.ChangeShapes Go.WideShapes Go.ChangeAt Go.RowKit Go.Sort

/-- block g holds the cells cs, and none is frozen -/
def VarAt (w : World) (g : Nat) (t : TypeId) (cs : List Value) : Prop := w.ownsRow 0 t cs.length (.slice (some ⟨g, 0, none⟩) 1 1) 1 cs
theorem VarAt.new (w : World) (t : TypeId) (cs : List Value) : VarAt (w.alloc (.cells cs.toArray t)) w.heap.size t cs :=
  ⟨by simp, .inr ⟨w.heap.size, 1, cs.toArray, rfl, Nat.zero_le _, heap_alloc_new w _, Nat.le_refl _, by unfold maxLen; omega, by simp, by simp⟩⟩
theorem VarAt.lt {w : World} {g : Nat} {t : TypeId} {cs : List Value} (h : VarAt w g t cs) : g < w.heap.size := (World.ownsRow.lt h g rfl).2
theorem VarAt.cell {w : World} {g : Nat} {t : TypeId} {cs : List Value} (h : VarAt w g t cs) {i : Nat} {v : Value} (hv : cs[i]? = some v) : w.cell? ⟨g, i, none⟩ = some v := by
  have hi : i < 1 * cs.length := by have := (List.getElem?_eq_some_iff.1 hv).1; omega
  rw [World.ownsRow.cellAt h i hi]
  exact hv
theorem VarAt.free {w : World} {g : Nat} {t : TypeId} {cs : List Value} (h : VarAt w g t cs) (i : Nat) : w.frozen? ⟨g, i, none⟩ = false := World.ownsRow.frozenAt h i
theorem VarAt.grown {w w' : World} {g : Nat} {t : TypeId} {cs : List Value} (h : VarAt w g t cs) {row : Option Nat} (hg : w.grownBy w' row) (hne : some g ≠ row) : VarAt w' g t cs :=
  World.ownsRow.kept h hg (.inr (by simpa [Value.ownBlock] using hne))
theorem VarAt.kept {w w' : World} {g : Nat} {t : TypeId} {cs : List Value} (h : VarAt w g t cs) (hb : Below w.heap.size w w') : VarAt w' g t cs := own_below h hb
theorem VarAt.set {w : World} {g : Nat} {t : TypeId} {cs : List Value} (h : VarAt w g t cs) (i : Nat) (v : Value) : VarAt (w.setCell ⟨g, i, none⟩ v) g t (cs.set i v) ∧ w.grownBy (w.setCell ⟨g, i, none⟩ v) (some g) := by
  obtain ⟨h1, h2⟩ := World.ownsRow.stored h i v
  refine ⟨?_, h2⟩
  unfold VarAt
  rw [List.length_set]
  exact h1
theorem VarAt.as {w : World} {g : Nat} {t : TypeId} {cs cs' : List Value} (h : VarAt w g t cs) (e : cs = cs') : VarAt w g t cs' := e ▸ h
/-- One row is written, then another that is new. -/
theorem grown_over {a b c : World} {r : Option Nat} {g : Nat} (h : a.grownBy b r) (k : b.grownBy c (some g)) (hg : a.heap.size ≤ g) : a.grownBy c r :=
  ⟨k.os.trans h.os, k.tape.trans h.tape, k.output.trans h.output, Nat.le_trans h.size k.size, fun i hi hr => (k.block i (Nat.lt_of_lt_of_le hi h.size) (fun e => by cases e; omega)).trans (h.block i hi hr)⟩
theorem grown_below {a b c : World} {r : Option Nat} (h : a.grownBy b r) (k : Below b.heap.size b c) : a.grownBy c r := grownBy_trans h (grown_of_below k)
theorem below_of_grown {a b : World} (h : a.grownBy b none) : Below a.heap.size a b := (Below.refl _ _).grown h (Nat.le_refl _) (fun k hk => by cases hk)
theorem grown_own {w a c : World} {r : Option Nat} {base : Nat} {e : TypeId} {sz : Nat} {v : Value} {n : Nat} {L : List Value} (h : w.grownBy a r) (ho : a.ownsRow base e sz v n L) (hb : w.heap.size ≤ base) (k : a.grownBy c v.ownBlock) : w.grownBy c r := by
  cases hv : v.ownBlock with
  | none => rw [hv] at k; exact grown_below h (below_of_grown k)
  | some g => rw [hv] at k; exact grown_over h k (by have := (ho.lt g hv).1; omega)
theorem own_ne {w : World} {base : Nat} {e : TypeId} {sz : Nat} {v : Value} {n : Nat} {L : List Value} (h : w.ownsRow base e sz v n L) {G : Nat} (hG : G < base) : some G ≠ v.ownBlock := fun he => by have := (h.lt G he.symm).1; omega
theorem own_en {w : World} {base : Nat} {e : TypeId} {sz : Nat} {v : Value} {n : Nat} {L : List Value} (h : w.ownsRow base e sz v n L) {G : Nat} (hG : G < base) : v.ownBlock ≠ some G := (own_ne h hG).symm
end Go.Proofs.YtpkadgibfmjmcaaGreatDoor
