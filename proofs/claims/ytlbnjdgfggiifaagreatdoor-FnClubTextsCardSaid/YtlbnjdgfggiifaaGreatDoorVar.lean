/- Plain lemmas: a variable of a function that lies in memory (a block of its own), known whole. No condition. · Plain lemmas: a variable of many cells is loaded and stored as a whole. No condition. · Plain lemmas: a range over a string of ASCII bytes whose round may make memory: the iterator's own block. No condition but that. · Plain lemmas for the statements' own functions: a variable that a drawn statement makes and fills with a row of the callee's. No condition. · The world behind a floating alloc, as a letter: ahead of a call, and ahead of one operation. No condition. · The world behind a floating alloc as a letter, ahead of a step of a region that draws its order; a row that is appended to beside a box. No condition. -/
import Derived.Test.YtlbnjdgfggiifaaGreatDoorBase
import Derived.Deep.AppendLies
import Derived.Deep.MidRow
import Derived.Laws.ResultCell
import Derived.Laws.RangeString
import Derived.Laws.RangeAny
import Derived.Deep.RegionHeld3
import Derived.Deep.DeepCutAuto
namespace Go.Proofs.YtlbnjdgfggiifaaGreatDoor
open Go.ChangeShapes Go.WideShapes Go.ChangeAt Go.RowKit Go.Sort

/-- block g holds the cells cs, and none is frozen -/
def VarAt (w : World) (g : Nat) (t : TypeId) (cs : List Value) : Prop := w.ownsRow 0 t cs.length (.slice (some ⟨g, 0, none⟩) 1 1) 1 cs
theorem VarAt.new (w : World) (t : TypeId) (cs : List Value) : VarAt (w.alloc (.cells cs.toArray t)) w.heap.size t cs :=
  ⟨by simp, .inr ⟨w.heap.size, 1, cs.toArray, rfl, Nat.zero_le _, heap_alloc_new w _, Nat.le_refl _, by unfold maxLen; omega, by simp, by simp⟩⟩
theorem VarAt.lt {w : World} {g : Nat} {t : TypeId} {cs : List Value} (h : VarAt w g t cs) : g < w.heap.size := (World.ownsRow.lt h g rfl).2
theorem VarAt.cell {w : World} {g : Nat} {t : TypeId} {cs : List Value} (h : VarAt w g t cs) {i : Nat} {v : Value} (hv : cs[i]? = some v) : w.cell? ⟨g, i, none⟩ = some v := by
  have hi : i < 1 * cs.length := by have := (List.getElem?_eq_some_iff.1 hv).1; omega
  rw [World.ownsRow.cellAt h i hi]
  exact hv
theorem VarAt.free {w : World} {g : Nat} {t : TypeId} {cs : List Value} (h : VarAt w g t cs) (i : Nat) : w.frozen? ⟨g, i, none⟩ = false := World.ownsRow.frozenAt h i
theorem VarAt.grown {w w' : World} {g : Nat} {t : TypeId} {cs : List Value} (h : VarAt w g t cs) {row : Option Nat} (hg : w.grownBy w' row) (hne : some g ≠ row) : VarAt w' g t cs :=
  World.ownsRow.kept h hg (.inr (by simpa [Value.ownBlock] using hne))
theorem VarAt.kept {w w' : World} {g : Nat} {t : TypeId} {cs : List Value} (h : VarAt w g t cs) (hb : Below w.heap.size w w') : VarAt w' g t cs := own_below h hb
theorem VarAt.set {w : World} {g : Nat} {t : TypeId} {cs : List Value} (h : VarAt w g t cs) (i : Nat) (v : Value) : VarAt (w.setCell ⟨g, i, none⟩ v) g t (cs.set i v) ∧ w.grownBy (w.setCell ⟨g, i, none⟩ v) (some g) := by
  obtain ⟨h1, h2⟩ := World.ownsRow.stored h i v
  refine ⟨?_, h2⟩
  unfold VarAt
  rw [List.length_set]
  exact h1
theorem VarAt.as {w : World} {g : Nat} {t : TypeId} {cs cs' : List Value} (h : VarAt w g t cs) (e : cs = cs') : VarAt w g t cs' := e ▸ h
/-- One row is written, then another that is new. -/
theorem grown_over {a b c : World} {r : Option Nat} {g : Nat} (h : a.grownBy b r) (k : b.grownBy c (some g)) (hg : a.heap.size ≤ g) : a.grownBy c r :=
  ⟨k.os.trans h.os, k.tape.trans h.tape, k.output.trans h.output, Nat.le_trans h.size k.size, fun i hi hr => (k.block i (Nat.lt_of_lt_of_le hi h.size) (fun e => by cases e; omega)).trans (h.block i hi hr)⟩
theorem grown_below {a b c : World} {r : Option Nat} (h : a.grownBy b r) (k : Below b.heap.size b c) : a.grownBy c r := grownBy_trans h (grown_of_below k)
theorem below_of_grown {a b : World} (h : a.grownBy b none) : Below a.heap.size a b := (Below.refl _ _).grown h (Nat.le_refl _) (fun k hk => by cases hk)
theorem grown_own {w a c : World} {r : Option Nat} {base : Nat} {e : TypeId} {sz : Nat} {v : Value} {n : Nat} {L : List Value} (h : w.grownBy a r) (ho : a.ownsRow base e sz v n L) (hb : w.heap.size ≤ base) (k : a.grownBy c v.ownBlock) : w.grownBy c r := by
  cases hv : v.ownBlock with
  | none => rw [hv] at k; exact grown_below h (below_of_grown k)
  | some g => rw [hv] at k; exact grown_over h k (by have := (ho.lt g hv).1; omega)
theorem own_ne {w : World} {base : Nat} {e : TypeId} {sz : Nat} {v : Value} {n : Nat} {L : List Value} (h : w.ownsRow base e sz v n L) {G : Nat} (hG : G < base) : some G ≠ v.ownBlock := fun he => by have := (h.lt G he.symm).1; omega
theorem own_en {w : World} {base : Nat} {e : TypeId} {sz : Nat} {v : Value} {n : Nat} {L : List Value} (h : w.ownsRow base e sz v n L) {G : Nat} (hG : G < base) : v.ownBlock ≠ some G := (own_ne h hG).symm
end Go.Proofs.YtlbnjdgfggiifaaGreatDoor

namespace Go.Proofs.YtlbnjdgfggiifaaGreatDoor
open Go.ChangeShapes Go.WideShapes Go.ChangeAt Go.RowKit Go.Sort

theorem VarAt.range {w : World} {g : Nat} {t : TypeId} {cs : List Value} (h : VarAt w g t cs) : w.rangeAt g 0 cs := fun j v hv => by
  rw [Nat.zero_add]; exact h.cell hv
theorem VarAt.there {w : World} {g : Nat} {t : TypeId} {cs : List Value} (h : VarAt w g t cs) {n : Nat} (hn : n = cs.length) : w.there g 0 n := fun j hj => by
  rw [Nat.zero_add]
  subst hn
  refine ⟨?_, h.free j⟩
  rw [h.cell (List.getElem?_eq_getElem hj)]
  rfl
theorem set_cells (g : Nat) (t : TypeId) : ∀ (vs : List Value) (o : Nat) (w : World) (cs : List Value), VarAt w g t cs → w.grownBy (w.setCells g o vs) (some g)
  | [], _, w, _, _ => grown_of_below (Below.refl _ _)
  | v :: r, o, w, cs, V => by
    obtain ⟨V2, k⟩ := V.set o v
    exact grownBy_trans k (set_cells g t r (o + 1) _ _ V2)
theorem results_cell_var {P : Program} {fn : Func} {p : Tmp} {ty : TypeId} (h : fn.results = #[.cell p ty]) (tmps : Array Value) (w : World) (a : Addr) (v : Value)
    (hp : tmps.getD p undef = .pointer (some a)) (hv : (loadVar ty a).run P w = .ok v w) : (results fn tmps).run P w = .ok v w := by
  have hp' : tmps[p]?.getD undef = .pointer (some a) := by simpa using hp
  simp [results, h, hp', asAddr, hv]
theorem VarAt.setMany {g : Nat} {t : TypeId} : ∀ (vs : List Value) (o : Nat) {w : World} {cs : List Value}, VarAt w g t cs → VarAt (w.setCells g o vs) g t (setR cs o vs)
  | [], _, _, _, h => h
  | v :: r, o, _, _, h => VarAt.setMany r (o + 1) (h.set o v).1
/-- a variable is stored as a whole -/
theorem VarAt.put {w : World} {g : Nat} {t : TypeId} {cs : List Value} (h : VarAt w g t cs) (vs : List Value) (hl : vs.length = cs.length) : VarAt (w.setCells g 0 vs) g t vs ∧ w.grownBy (w.setCells g 0 vs) (some g) := by
  refine ⟨?_, set_cells g t vs 0 w cs h⟩
  have h2 := VarAt.setMany vs 0 h
  have e := setR_append vs [] cs 0 rfl (by omega)
  rw [List.nil_append, List.nil_append, hl, List.drop_length, List.append_nil] at e
  rwa [e] at h2
theorem results_cell_tmp_var {P : Program} {fn : Func} {p u : Tmp} {ty : TypeId} (h : fn.results = #[.cell p ty, .tmp u]) (tmps : Array Value) (w : World) (a : Addr) (v : Value)
    (hp : tmps.getD p undef = .pointer (some a)) (hv : (loadVar ty a).run P w = .ok v w) : (results fn tmps).run P w = .ok (.tuple #[v, tmps.getD u undef]) w := by
  rw [results_cell_tmp h, hp]
  simp [asAddr, Result.andThen, hv]
end Go.Proofs.YtlbnjdgfggiifaaGreatDoor

namespace Go.Proofs.YtlbnjdgfggiifaaGreatDoor
open Go.ChangeShapes Go.WideShapes Go.ChangeAt Go.RowKit Go.Sort

/-- block it is the iterator of a range over s, at pos -/
def IterAt (w : World) (it : Nat) (s : ByteArray) (pos : Nat) : Prop := w.heap[it]? = some (.stringIter s pos)
theorem IterAt.new (w : World) (s : ByteArray) : IterAt (w.iter s 0) w.heap.size s 0 := World.iter_heap w s 0
theorem IterAt.lt {w : World} {it : Nat} {s : ByteArray} {pos : Nat} (h : IterAt w it s pos) : it < w.heap.size := (Array.getElem?_eq_some_iff.1 h).1
theorem IterAt.kept {w w' : World} {it : Nat} {s : ByteArray} {pos : Nat} (h : IterAt w it s pos) (hb : Below w.heap.size w w') : IterAt w' it s pos := (hb.block it h.lt).trans h
theorem IterAt.grown {w w' : World} {it : Nat} {s : ByteArray} {pos : Nat} (h : IterAt w it s pos) {row : Option Nat} (hg : w.grownBy w' row) (hne : some it ≠ row) : IterAt w' it s pos := (hg.block it h.lt hne).trans h
theorem IterAt.pos {w : World} {it : Nat} {s : ByteArray} {pos : Nat} (h : IterAt w it s pos) : w.iterPos it = pos := by
  unfold IterAt at h
  simp [World.iterPos, h]
theorem iter_below (w : World) (s : ByteArray) : Below w.heap.size w (w.iter s 0) := (Below.refl _ _).alloc (Nat.le_refl _) _
theorem next_at {P : Program} {w : World} {it : Nat} {s : ByteArray} {pos : Nat} (h : IterAt w it s pos) (hlt : pos < s.size) (ha : (s[pos]).toNat < 128) :
    ∃ w', (∀ ty : TypeId, (Instr.next (.pointer (some ⟨it, 0, none⟩)) true ty).run P w = .ok (.tuple #[.bool true, .int .i64 pos, .int .i32 (s[pos]).toNat]) w') ∧ IterAt w' it s (pos + 1) ∧ w.grownBy w' (some it) := by
  have hit := h.lt
  refine ⟨{ w with heap := w.heap.setIfInBounds it (.stringIter s (pos + 1)) }, ?_, ?_, ⟨rfl, rfl, rfl, by simp, fun k hk hne => ?_⟩⟩
  · intro ty
    unfold IterAt at h
    simp only [Instr.next, getObj, setObj, Sem.run_bind, Sem.run, h, Result.andThen, hlt, if_true, decode_ascii s pos hlt ha]
    simp [goInt]
  · unfold IterAt
    simp [hit]
  · have : it ≠ k := fun e => hne (by rw [e])
    simp [this]
theorem next_end {P : Program} {w : World} {it : Nat} {s : ByteArray} {pos : Nat} (h : IterAt w it s pos) (hlt : ¬ pos < s.size) :
    ∀ ty : TypeId, (Instr.next (.pointer (some ⟨it, 0, none⟩)) true ty).run P w = .ok (.tuple #[.bool false]) w := by
  intro ty
  unfold IterAt at h
  simp [Instr.next, getObj, Sem.run, h, hlt]
end Go.Proofs.YtlbnjdgfggiifaaGreatDoor

namespace Go.Proofs.YtlbnjdgfggiifaaGreatDoor
open Go.ChangeShapes Go.WideShapes Go.ChangeAt Go.RowKit Go.Sort

theorem cell_far {w : World} {b o g : Nat} {v : Value} (h : w.cell? ⟨b, o, none⟩ = some v) (hne : b ≠ g) (u : Value) : (w.setCell ⟨g, 0, none⟩ u).cell? ⟨b, o, none⟩ = some v := by
  rw [World.cell?_setCell_far _ _ _ _ (by simpa using fun e => hne e.symm)]
  exact h
theorem cell_newfar {w : World} {b o : Nat} {v : Value} (h : w.cell? ⟨b, o, none⟩ = some v) (ob : Obj) (u : Value) : ((w.alloc ob).setCell ⟨w.heap.size, 0, none⟩ u).cell? ⟨b, o, none⟩ = some v :=
  cell_far (cell_alloc h ob) (Nat.ne_of_lt (block_lt h)) u
theorem calls_alloc {P : Program} {f : FuncId} {args : Array Value} {X : World} {v : Value} {t : TypeId} {Q : Ending → World → Prop}
    (h : ∀ wz, Below X.heap.size X wz → wz.cell? ⟨X.heap.size, 0, none⟩ = some v → wz.frozen? ⟨X.heap.size, 0, none⟩ = false → Calls P f args wz Q) : Calls P f args (X.alloc (.cells #[v] t)) Q :=
  h _ ((Below.refl _ _).alloc (Nat.le_refl _) _) (cell_new0 X #[v] t rfl) (by simp [go_sem])
theorem calls_alloc_drew {P : Program} {f : FuncId} {args : Array Value} {X : World} {v : Value} {t : TypeId} {Q : Ending → World → Prop}
    (h : ∀ wz, Below X.drew.heap.size X.drew wz → wz.cell? ⟨X.heap.size, 0, none⟩ = some v → wz.frozen? ⟨X.heap.size, 0, none⟩ = false → Calls P f args wz Q) : Calls P f args (X.alloc (.cells #[v] t)).drew Q :=
  calls_alloc (X := X.drew) h
/-- A variable of the region's own that holds a row, which is another block. -/
def Boxed (w wx : World) (e : TypeId) (sz : Nat) (s : Value) (n : Nat) (L : List Value) : Prop :=
  ∃ (g : Nat) (a : Option Addr) (cap : Nat), s = .pointer (some ⟨g, 0, none⟩) ∧ w.heap.size ≤ g ∧ wx.cell? ⟨g, 0, none⟩ = some (.slice a n cap) ∧ wx.ownsRow w.heap.size e sz (.slice a n cap) n L ∧ (Value.slice a n cap).ownBlock ≠ some g ∧ Below w.heap.size w wx
theorem boxed_early {w wq : World} {e : TypeId} {sz n G B cap : Nat} {a : Option Addr} {v : Value} {L : List Value} (hb : Below w.heap.size w wq) (hc : wq.cell? ⟨G, 0, none⟩ = some v) (hG : w.heap.size ≤ G)
    (ho : wq.ownsRow B e sz (.slice a n cap) n L) (hB : G < B) : Boxed w (wq.setCell ⟨G, 0, none⟩ (.slice a n cap)) e sz (.pointer (some ⟨G, 0, none⟩)) n L := by
  refine ⟨G, a, cap, rfl, hG, World.cell?_setCell_same _ _ _ hc, own_mono (own_setCell ho hB _) (by omega), fun h => ?_, hb.setCell hG _⟩
  have := (ho.lt _ h).1
  omega
theorem boxed_late {w wq : World} {e : TypeId} {sz n B cap : Nat} {a : Option Addr} {t : TypeId} {L : List Value} (hb : Below w.heap.size w wq)
    (ho : wq.ownsRow B e sz (.slice a n cap) n L) (hB : w.heap.size ≤ B) : Boxed w (wq.alloc (.cells #[.slice a n cap] t)) e sz (.pointer (some ⟨wq.heap.size, 0, none⟩)) n L := by
  have hs := hb.size
  refine ⟨wq.heap.size, a, cap, rfl, hs, cell_new0 wq #[.slice a n cap] t rfl, own_mono (own_alloc ho _) hB, fun h => ?_, hb.alloc hs _⟩
  have := (ho.lt _ h).2
  omega
end Go.Proofs.YtlbnjdgfggiifaaGreatDoor

namespace Go.Proofs.YtlbnjdgfggiifaaGreatDoor
open Go.ChangeShapes Go.WideShapes Go.ChangeAt Go.RowKit Go.Sort

/-- what is known of new memory -/
def NewAt (X wz : World) (cs : Array Value) : Prop := (∀ i v, cs[i]? = some v → wz.cell? ⟨X.heap.size, i, none⟩ = some v) ∧ (∀ i, wz.frozen? ⟨X.heap.size, i, none⟩ = false) ∧ wz.heap.size = X.heap.size + 1
theorem newAt (X : World) (cs : Array Value) (t : TypeId) : NewAt X (X.alloc (.cells cs t)) cs :=
  ⟨fun _ _ h => cell_new0 X cs t h, fun i => by simp [go_sem], by simp⟩
theorem calls_new {P : Program} {f : FuncId} {args : Array Value} {X : World} {cs : Array Value} {t : TypeId} {Q : Ending → World → Prop}
    (h : ∀ wz, Below X.heap.size X wz → NewAt X wz cs → (∀ base e sz v n L, X.ownsRow base e sz v n L → wz.ownsRow base e sz v n L) → Calls P f args wz Q) : Calls P f args (X.alloc (.cells cs t)) Q :=
  h _ ((Below.refl _ _).alloc (Nat.le_refl _) _) (newAt X cs t) (fun _ _ _ _ _ _ ho => own_alloc ho _)
theorem oper_new {P : Program} {o : Oper} {a : Act} {X : World} {cs : Array Value} {t : TypeId} {K : Act → World → Prop} {Q : Exit → Act → World → Prop}
    (h : ∀ wz, Below X.heap.size X wz → NewAt X wz cs → (∀ base e sz v n L, X.ownsRow base e sz v n L → wz.ownsRow base e sz v n L) → o.wp P a wz K Q) : o.wp P a (X.alloc (.cells cs t)) K Q :=
  h _ ((Below.refl _ _).alloc (Nat.le_refl _) _) (newAt X cs t) (fun _ _ _ _ _ _ ho => own_alloc ho _)
theorem calls_new_drew {P : Program} {f : FuncId} {args : Array Value} {X : World} {cs : Array Value} {t : TypeId} {Q : Ending → World → Prop}
    (h : ∀ wz, Below X.drew.heap.size X.drew wz → NewAt X wz cs → (∀ base e sz v n L, X.drew.ownsRow base e sz v n L → wz.ownsRow base e sz v n L) → Calls P f args wz Q) : Calls P f args (X.alloc (.cells cs t)).drew Q :=
  calls_new (X := X.drew) h
theorem oper_new_drew {P : Program} {o : Oper} {a : Act} {X : World} {cs : Array Value} {t : TypeId} {K : Act → World → Prop} {Q : Exit → Act → World → Prop}
    (h : ∀ wz, Below X.drew.heap.size X.drew wz → NewAt X wz cs → (∀ base e sz v n L, X.drew.ownsRow base e sz v n L → wz.ownsRow base e sz v n L) → o.wp P a wz K Q) : o.wp P a (X.alloc (.cells cs t)).drew K Q :=
  oper_new (X := X.drew) h
/-- two of them -/
theorem calls_new2 {P : Program} {f : FuncId} {args : Array Value} {X : World} {cs ds : Array Value} {t u : TypeId} {Q : Ending → World → Prop}
    (h : ∀ wy, Below X.heap.size X wy → NewAt X wy cs → (∀ base e sz v n L, X.ownsRow base e sz v n L → wy.ownsRow base e sz v n L) → Calls P f args (wy.alloc (.cells ds u)) Q) : Calls P f args ((X.alloc (.cells cs t)).alloc (.cells ds u)) Q :=
  h _ ((Below.refl _ _).alloc (Nat.le_refl _) _) (newAt X cs t) (fun _ _ _ _ _ _ ho => own_alloc ho _)
theorem calls_new2_drew {P : Program} {f : FuncId} {args : Array Value} {X : World} {cs ds : Array Value} {t u : TypeId} {Q : Ending → World → Prop}
    (h : ∀ wy, Below X.drew.heap.size X.drew wy → NewAt X wy cs → (∀ base e sz v n L, X.drew.ownsRow base e sz v n L → wy.ownsRow base e sz v n L) → Calls P f args (wy.alloc (.cells ds u)) Q) : Calls P f args ((X.alloc (.cells cs t)).alloc (.cells ds u)).drew Q :=
  calls_new2 (X := X.drew) (t := t) h
theorem oper_new2 {P : Program} {o : Oper} {a : Act} {X : World} {cs ds : Array Value} {t u : TypeId} {K : Act → World → Prop} {Q : Exit → Act → World → Prop}
    (h : ∀ wy, Below X.heap.size X wy → NewAt X wy cs → (∀ base e sz v n L, X.ownsRow base e sz v n L → wy.ownsRow base e sz v n L) → o.wp P a (wy.alloc (.cells ds u)) K Q) : o.wp P a ((X.alloc (.cells cs t)).alloc (.cells ds u)) K Q :=
  h _ ((Below.refl _ _).alloc (Nat.le_refl _) _) (newAt X cs t) (fun _ _ _ _ _ _ ho => own_alloc ho _)
end Go.Proofs.YtlbnjdgfggiifaaGreatDoor

namespace Go.Proofs.YtlbnjdgfggiifaaGreatDoor
open Go.ChangeShapes Go.WideShapes Go.ChangeAt Go.RowKit Go.Sort

theorem step_new {P : Program} {c : Prop} [Decidable c] {o : Oper} {a : Act} {X : World} {cs : Array Value} {t : TypeId} {K : Act → World → Prop} {Q : Exit → Act → World → Prop} {E : Prop}
    (h : ∀ wz, Below X.heap.size X wz → NewAt X wz cs → (∀ base e sz v n L, X.ownsRow base e sz v n L → wz.ownsRow base e sz v n L) → if c then o.wp P a wz K Q else E) : if c then o.wp P a (X.alloc (.cells cs t)) K Q else E :=
  h _ ((Below.refl _ _).alloc (Nat.le_refl _) _) (newAt X cs t) (fun _ _ _ _ _ _ ho => own_alloc ho _)
theorem step_new_drew {P : Program} {c : Prop} [Decidable c] {o : Oper} {a : Act} {X : World} {cs : Array Value} {t : TypeId} {K : Act → World → Prop} {Q : Exit → Act → World → Prop} {E : Prop}
    (h : ∀ wz, Below X.drew.heap.size X.drew wz → NewAt X wz cs → (∀ base e sz v n L, X.drew.ownsRow base e sz v n L → wz.ownsRow base e sz v n L) → if c then o.wp P a wz K Q else E) : if c then o.wp P a (X.alloc (.cells cs t)).drew K Q else E :=
  step_new (X := X.drew) h
theorem step_new2 {P : Program} {c : Prop} [Decidable c] {o : Oper} {a : Act} {X : World} {cs ds : Array Value} {t u : TypeId} {K : Act → World → Prop} {Q : Exit → Act → World → Prop} {E : Prop}
    (h : ∀ wy, Below X.heap.size X wy → NewAt X wy cs → (∀ base e sz v n L, X.ownsRow base e sz v n L → wy.ownsRow base e sz v n L) → if c then o.wp P a (wy.alloc (.cells ds u)) K Q else E) : if c then o.wp P a ((X.alloc (.cells cs t)).alloc (.cells ds u)) K Q else E :=
  h _ ((Below.refl _ _).alloc (Nat.le_refl _) _) (newAt X cs t) (fun _ _ _ _ _ _ ho => own_alloc ho _)
theorem news2 {w : World} {g : Nat} {x y : Value} (h0 : w.cell? ⟨g, 0, none⟩ = some x) (h1 : w.cell? ⟨g, 1, none⟩ = some y) : ∀ j u, [x, y][j]? = some u → w.cell? ((⟨g, 0, none⟩ : Addr).add j) = some u := by
  intro j u hu
  rw [Go.Addr.add_lit, Nat.zero_add]
  match j, hu with
  | 0, hu => rw [h0]; exact hu
  | 1, hu => rw [h1]; exact hu
  | (j + 2), hu => simp at hu
theorem ne_early {w : World} {base : Nat} {e : TypeId} {sz : Nat} {v : Value} {n : Nat} {L : List Value} {G : Nat} (h : w.ownsRow base e sz v n L) (hG : G < base) : some G ≠ v.ownBlock := fun he => by have := (h.lt G he.symm).1; omega
theorem ne_late {w : World} {base : Nat} {e : TypeId} {sz : Nat} {v : Value} {n : Nat} {L : List Value} (h : w.ownsRow base e sz v n L) : some w.heap.size ≠ v.ownBlock := fun he => by have := (h.lt _ he.symm).2; omega
theorem ne_behind {v : Value} {g n cap G H : Nat} (hat : v.ownBlock = some g ∨ g = H) (hne : some G ≠ v.ownBlock) (hG : G < H) : some G ≠ (Value.slice (some ⟨g, 0, none⟩) n cap).ownBlock := by
  intro he
  have e : G = g := by simpa [Value.ownBlock] using he
  rcases hat with h | h
  · exact hne (by rw [h, e])
  · omega
theorem grown_setCell (w : World) (G : Nat) (u : Value) : w.grownBy (w.setCell ⟨G, 0, none⟩ u) (some G) :=
  ⟨rfl, rfl, rfl, by simp [World.setCell], fun _ _ hr => Below.heap_setCell _ _ _ _ (fun h => hr (by rw [h]))⟩
theorem boxed_mid {w wq : World} {e : TypeId} {sz n G cap : Nat} {a : Option Addr} {v : Value} {L : List Value} (hb : Below w.heap.size w wq) (hc : wq.cell? ⟨G, 0, none⟩ = some v) (hG : w.heap.size ≤ G)
    (ho : wq.ownsRow w.heap.size e sz (.slice a n cap) n L) (hne : some G ≠ (Value.slice a n cap).ownBlock) : Boxed w (wq.setCell ⟨G, 0, none⟩ (.slice a n cap)) e sz (.pointer (some ⟨G, 0, none⟩)) n L := by
  refine ⟨G, a, cap, rfl, hG, World.cell?_setCell_same _ _ _ hc, ?_, fun h => hne h.symm, hb.setCell hG _⟩
  refine ho.kept (row := some G) ?_ (.inr fun h => hne h.symm)
  exact ⟨rfl, rfl, rfl, by simp [World.setCell], fun k hk hr => Below.heap_setCell _ _ _ _ (fun h => hr (by rw [h]))⟩
/-- what an append to a row leaves as it was: cells of blocks ahead of the row -/
theorem app_cell {wa wz w5 : World} {B : Nat} {e : TypeId} {sz : Nat} {v : Value} {n : Nat} {L : List Value} (hk : Below wa.heap.size wa wz) (ho : wz.ownsRow B e sz v n L) (hg : wz.grownBy w5 v.ownBlock) {b o : Nat} {x : Value} (h : wa.cell? ⟨b, o, none⟩ = some x) (hb : b < B) :
    w5.cell? ⟨b, o, none⟩ = some x := hg.cell (cell_kept h hk) (ne_early ho hb)
theorem app_frozen {wa wz w5 : World} {B : Nat} {e : TypeId} {sz : Nat} {v : Value} {n : Nat} {L : List Value} (hk : Below wa.heap.size wa wz) (ho : wz.ownsRow B e sz v n L) (hg : wz.grownBy w5 v.ownBlock) {b o : Nat} {x : Value} {f : Bool} (hf : wa.frozen? ⟨b, o, none⟩ = f) (h : wa.cell? ⟨b, o, none⟩ = some x) (hb : b < B) :
    w5.frozen? ⟨b, o, none⟩ = f := (hg.frozen_far _ (block_lt (cell_kept h hk)) (ne_early ho hb)).trans (frozen_kept hf h hk)
theorem app_below {w wa wz w5 : World} {B : Nat} {e : TypeId} {sz : Nat} {v : Value} {n : Nat} {L : List Value} (hk : Below wa.heap.size wa wz) (ho : wz.ownsRow B e sz v n L) (hg : wz.grownBy w5 v.ownBlock) (hb : Below w.heap.size w wa) (hB : w.heap.size ≤ B) : Below w.heap.size w w5 :=
  (hb.trans (hk.mono hb.size)).grown hg (Nat.le_trans hb.size hk.size) (fun k hk' => Nat.le_trans hB (ho.lt k hk').1)
theorem callFunc_enter {P : Program} {f : FuncId} {fn : Func} {c : Code} (hf : P.funcs[f]? = some fn) (hname : (fn.name == "runtime.NumGoroutine") = false) (hb : fn.body = some c) (args : Array Value) (w : World) :
    (callFunc f args).run P w = .ok (.enter f args) w := by
  have h1 : fn.name ≠ "runtime.NumGoroutine" := by simpa using hname
  simp [callFunc, hf, h1, hb]
theorem flat_snoc {α : Type} (enc : α → List Value) (xs : List α) (x : α) : xs.flatMap enc ++ enc x = (xs ++ [x]).flatMap enc := by simp
end Go.Proofs.YtlbnjdgfggiifaaGreatDoor
