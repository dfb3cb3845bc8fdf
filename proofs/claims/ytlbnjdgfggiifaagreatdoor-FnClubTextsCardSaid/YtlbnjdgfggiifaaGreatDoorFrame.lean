/- How an argument that is read as data lies in memory: structs by value, slices of structs. No condition. -/
import Derived.Test.YtlbnjdgfggiifaaGreatDoorBase
import Derived.Lib.SmallJoins
import Derived.Deep.Slices
import Derived.Deep.Fields
import Derived.ShutString
import Derived.ChangeOld
import Derived.ChangeSame
namespace Go.Proofs.YtlbnjdgfggiifaaGreatDoor
open Go.ChangeShapes Go.WideShapes Go.ChangeAt Go.RowKit Go.Sort Go.Joins Go.Deep

section
variable {H : Type} {ec : TypeId × Value → H} {P : Program} {w : World} {base : Nat} {spare : Nat → Bool} {held : Bool}
/-- The cells of a struct of one-cell fields: each field's cell reads by itself. -/
theorem struct_cells {e : TypeId} {fs : Array Field} {fuel : Nat} {cs : List Value} {x : DataW H × List MemPlace} (hs : P.underlying e = some (.struct fs)) (hone : oneCellFields P fs = true) (hC : P.cellsOf e = fs.size)
    (h : DataW.trod ec P w base spare held fuel e cs = some x) :
    cs.length = fs.size ∧ ∃ n, ∀ (j : Nat) (f : Field), fs[j]? = some f → ∃ (v : Value) (y : DataW H × List MemPlace), cs[j]? = some v ∧ DataW.trod ec P w base spare held n f.type [v] = some y := by
  obtain ⟨xs, n, _, _, hlen, hxl, hf⟩ := DataW.trod_struct hs h
  rw [hC] at hlen
  refine ⟨hlen, n, fun j f hj => ?_⟩
  have hjl : j < fs.size := (Array.getElem?_eq_some_iff.1 hj).1
  obtain ⟨ho, hk⟩ := hone_of hone j f hj
  have h1 := hf j f hj
  rw [ho, hk, List.drop_eq_getElem_cons (by omega), List.take_succ_cons, List.take_zero, List.getElem?_eq_getElem (by omega)] at h1
  exact ⟨_, _, List.getElem?_eq_getElem (by omega), h1⟩
/-- A slice of such elements, as a list in memory. 'good': what each element's reading gives. -/
theorem read_slice {α : Type} [Inhabited α] {enc : α → List Value} {sz : Nat} {good : α → Prop} {t e : TypeId} {fuel : Nat} {v : Value} {x : DataW H × List MemPlace} (ht : P.underlying t = some (.slice e)) (hC : P.cellsOf e = sz) (hsz : 0 < sz)
    (hel : ∀ m cs y, DataW.trod ec P w base spare held m e cs = some y → ∃ a : α, cs = enc a ∧ good a) (h : DataW.trod ec P w base spare held fuel t [v] = some x) :
    ∃ (a : Option Addr) (cap : Nat) (xs : List α), v = .slice a xs.length cap ∧ SliceAt w sz enc a xs ∧ (∀ y ∈ xs, good y) ∧ xs.length ≤ 9223372036854775807 := by
  rcases open_slice ht h with ⟨h0, _⟩ | ⟨a, len, cap, m, n, D, Pl, hcs, hb, hl, hm, hmm, hx, hi⟩
  · simp only [List.cons.injEq, and_true] at h0
    exact ⟨none, 0, [], h0, SliceAt.nil _ _ _ _, (fun _ hy => by cases hy), by simp⟩
  · have hlm : len ≤ m := by rw [hmm]; split <;> omega
    simp only [List.cons.injEq, and_true] at hcs
    have hex : ∀ i, i < len → ∃ y : α, good y ∧ ∀ j v, (enc y)[j]? = some v → w.cell? (a.add (i * sz + j)) = some v := by
      intro i him
      obtain ⟨cs', hc, ht'⟩ := hi i (by omega)
      rw [hC] at hc
      obtain ⟨_, hcl, hat⟩ := World.cells?_some hc
      obtain ⟨y, rfl, hg⟩ := hel _ _ _ ht'
      refine ⟨y, hg, fun j v hv => ?_⟩
      have hj : j < sz := by rw [← hcl]; exact (List.getElem?_eq_some_iff.1 hv).1
      rw [← add_add, hat j hj, hv]
    obtain ⟨f, hf⟩ := choose_lt hex
    have hxl : ((List.range len).map f).length = len := by simp
    refine ⟨some a, cap, (List.range len).map f, by rw [hxl]; exact hcs, ?_, ?_, by rw [hxl]; unfold maxLen at hm; omega⟩
    · cases len with
      | zero => exact .inl (by simp)
      | succ len =>
        right
        obtain ⟨b, off, spot⟩ := a
        obtain ⟨cs0, hc0, ht0⟩ := hi 0 (by omega)
        rw [hC] at hc0
        obtain ⟨_, hcl0, hat0⟩ := World.cells?_some hc0
        have h00 := hat0 0 hsz
        rw [List.getElem?_eq_getElem (by omega)] at h00
        have hsp := World.cell?_spot h00
        simp only [Nat.zero_mul, Addr.add_zero'] at hsp
        subst hsp
        refine ⟨b, off, rfl, fun i hil j v hv => ?_⟩
        rw [hxl] at hil
        have := (hf i hil).2 j v (by simpa using hv)
        rw [Addr.add_lit] at this
        rw [show off + i * sz + j = off + (i * sz + j) from by omega]
        exact this
    · intro y hy
      obtain ⟨i, hi', rfl⟩ := List.mem_map.1 hy
      exact (hf i (List.mem_range.1 hi')).1
/-- A struct by value: its cells, and that they read. -/
theorem open_aggs {r : Reach} {b0 : Nat} {t : TypeId} {fs : Array Field} {v : Value} {d : DataW H} {p : List MemPlace} (hs : P.underlying t = some (.struct fs)) (hv : Value.okWide P w r b0 t v) (h : DataW.Trod ec P w base spare held t v d p) :
    ∃ cs : List Value, v = .agg cs.toArray ∧ ∃ fuel x, DataW.trod ec P w base spare held fuel t cs = some x := by
  obtain ⟨cs, rfl, hsz⟩ := okWide_struct hs hv
  obtain ⟨fuel, hf⟩ := h
  exact ⟨cs.toList, by simp, fuel, _, by simpa [Value.cells] using hf⟩
theorem list1 {cs : List Value} {v : Value} (hl : cs.length = 1) (h : cs[0]? = some v) : cs = [v] := by
  match cs, hl with
  | [c], _ => simpa using h
end
end Go.Proofs.YtlbnjdgfggiifaaGreatDoor
