/- Plain lemmas for the statements' own functions: a variable that a drawn statement makes and fills with a row of the callee's. No condition. -/
import Derived.Test.YtpodkgfapbcmlaaRow
import Derived.Deep.RegionHeld3
import Derived.Deep.DeepCutAuto
namespace Go.Proofs.Ytpodkgfapbcmlaa
open Go.ChangeShapes Go.WideShapes Go.ChangeAt Go.RowKit Go.Sort

theorem cell_far {w : World} {b o g : Nat} {v : Value} (h : w.cell? ⟨b, o, none⟩ = some v) (hne : b ≠ g) (u : Value) : (w.setCell ⟨g, 0, none⟩ u).cell? ⟨b, o, none⟩ = some v := by
  rw [World.cell?_setCell_far _ _ _ _ (by simpa using fun e => hne e.symm)]
  exact h
theorem cell_newfar {w : World} {b o : Nat} {v : Value} (h : w.cell? ⟨b, o, none⟩ = some v) (ob : Obj) (u : Value) : ((w.alloc ob).setCell ⟨w.heap.size, 0, none⟩ u).cell? ⟨b, o, none⟩ = some v :=
  cell_far (cell_alloc h ob) (Nat.ne_of_lt (block_lt h)) u
theorem calls_alloc {P : Program} {f : FuncId} {args : Array Value} {X : World} {v : Value} {t : TypeId} {Q : Ending → World → Prop}
    (h : ∀ wz, Below X.heap.size X wz → wz.cell? ⟨X.heap.size, 0, none⟩ = some v → wz.frozen? ⟨X.heap.size, 0, none⟩ = false → Calls P f args wz Q) : Calls P f args (X.alloc (.cells #[v] t)) Q :=
  h _ ((Below.refl _ _).alloc (Nat.le_refl _) _) (cell_new0 X #[v] t rfl) (by simp [go_sem])
theorem calls_alloc_drew {P : Program} {f : FuncId} {args : Array Value} {X : World} {v : Value} {t : TypeId} {Q : Ending → World → Prop}
    (h : ∀ wz, Below X.drew.heap.size X.drew wz → wz.cell? ⟨X.heap.size, 0, none⟩ = some v → wz.frozen? ⟨X.heap.size, 0, none⟩ = false → Calls P f args wz Q) : Calls P f args (X.alloc (.cells #[v] t)).drew Q :=
  calls_alloc (X := X.drew) h
/-- A variable of the region's own that holds a row, which is another block. -/
def Boxed (w wx : World) (e : TypeId) (sz : Nat) (s : Value) (n : Nat) (L : List Value) : Prop :=
  ∃ (g : Nat) (a : Option Addr) (cap : Nat), s = .pointer (some ⟨g, 0, none⟩) ∧ w.heap.size ≤ g ∧ wx.cell? ⟨g, 0, none⟩ = some (.slice a n cap) ∧ wx.ownsRow w.heap.size e sz (.slice a n cap) n L ∧ (Value.slice a n cap).ownBlock ≠ some g ∧ Below w.heap.size w wx
theorem boxed_early {w wq : World} {e : TypeId} {sz n G B cap : Nat} {a : Option Addr} {v : Value} {L : List Value} (hb : Below w.heap.size w wq) (hc : wq.cell? ⟨G, 0, none⟩ = some v) (hG : w.heap.size ≤ G)
    (ho : wq.ownsRow B e sz (.slice a n cap) n L) (hB : G < B) : Boxed w (wq.setCell ⟨G, 0, none⟩ (.slice a n cap)) e sz (.pointer (some ⟨G, 0, none⟩)) n L := by
  refine ⟨G, a, cap, rfl, hG, World.cell?_setCell_same _ _ _ hc, own_mono (own_setCell ho hB _) (by omega), fun h => ?_, hb.setCell hG _⟩
  have := (ho.lt _ h).1
  omega
theorem boxed_late {w wq : World} {e : TypeId} {sz n B cap : Nat} {a : Option Addr} {t : TypeId} {L : List Value} (hb : Below w.heap.size w wq)
    (ho : wq.ownsRow B e sz (.slice a n cap) n L) (hB : w.heap.size ≤ B) : Boxed w (wq.alloc (.cells #[.slice a n cap] t)) e sz (.pointer (some ⟨wq.heap.size, 0, none⟩)) n L := by
  have hs := hb.size
  refine ⟨wq.heap.size, a, cap, rfl, hs, cell_new0 wq #[.slice a n cap] t rfl, own_mono (own_alloc ho _) hB, fun h => ?_, hb.alloc hs _⟩
  have := (ho.lt _ h).2
  omega
end Go.Proofs.Ytpodkgfapbcmlaa
