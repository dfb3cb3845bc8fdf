/- What comes in, read: a grid, a lexicon, a row of numbers. No condition beyond the form that the statements' frame gives. -/
import Derived.Test.YtjknpmdmchlfcaaFrame
import Derived.Test.YtjknpmdmchlfcaaTLx
import Derived.Test.YtjknpmdmchlfcaaLex
namespace Go.Proofs.Ytjknpmdmchlfcaa
open Go.ChangeShapes Go.WideShapes Go.ChangeAt Go.RowKit Go.Sort Go.Joins Go.Deep
open Go.ChangeMaps (open_string shut_string)

theorem own : ownKnob Try.prog.godebug = none := by kernel_rfl
theorem laidOut : laidOutB Try.prog = true := by kernel_rfl
theorem wf_i64 {n : Int} (h : (Lit.int .i64 n).wf = true) : -9223372036854775808 ≤ n ∧ n ≤ 9223372036854775807 := by
  simp [Lit.wf] at h
  exact h

section
variable {H : Type} {ec : TypeId × Value → H} {w : World} {base : Nat} {spare : Nat → Bool} {held : Bool}
instance : Inhabited ByteArray := ⟨⟨#[]⟩⟩
set_option maxRecDepth 100000 in
theorem Tx.read (m : Nat) (cs : List Value) (y : DataW H × List MemPlace) (h : DataW.trod ec Try.prog w base spare held m 9 cs = some y) : ∃ a : ByteArray, cs = Tx.enc a ∧ a.size ≤ 9223372036854775807 := by
  obtain ⟨s0, e0, _, b0⟩ := DataW.trod_string Try.underlying9 h
  exact ⟨s0, e0, by unfold maxLen at b0; omega⟩
set_option maxRecDepth 100000 in
theorem I64.read (m : Nat) (cs : List Value) (y : DataW H × List MemPlace) (h : DataW.trod ec Try.prog w base spare held m 2 cs = some y) : ∃ a : Int, cs = I64.enc a ∧ True := by
  obtain ⟨x1, e1, _, _⟩ := DataW.trod_int Try.underlying2 h
  exact ⟨x1, e1, trivial⟩
set_option maxRecDepth 100000 in
/-- A lexicon that came in. -/
theorem Lexicon.read {r : Reach} {b0 : Nat} {v : Value} {d : DataW H} {p : List MemPlace} (hv : Value.okWide Try.prog w r b0 26 v) (h : DataW.Trod ec Try.prog w base spare held 26 v d p) :
    ∃ (a : Option Addr) (cap : Nat) (ms : List ByteArray), v = .agg #[.slice a ms.length cap] ∧ SliceAt w 1 Tx.enc a ms ∧ WordsFit ms ∧ ms.length ≤ 9223372036854775807 := by
  obtain ⟨cs, rfl, fuel, x, hf⟩ := open_aggs Try.underlying26 hv h
  obtain ⟨hl, n, hg⟩ := struct_cells Try.underlying26 (by kernel_rfl) (by kernel_rfl) hf
  obtain ⟨v0, y0, h0, t0⟩ := hg 0 _ rfl
  obtain ⟨a, cap, ms, rfl, hs, hgood, hlen⟩ := read_slice (sz := 1) (enc := Tx.enc) (good := fun a => a.size ≤ 9223372036854775807) Try.underlying24 (by kernel_rfl) (by decide) Tx.read t0
  refine ⟨a, cap, ms, ?_, hs, hgood, hlen⟩
  rw [list1 hl h0]
set_option maxRecDepth 100000 in
/-- A row of numbers that came in. -/
theorem I64.readS {r : Reach} {b0 : Nat} {v : Value} {d : DataW H} {p : List MemPlace} (hv : Value.okWide Try.prog w r b0 27 v) (h : DataW.Trod ec Try.prog w base spare held 27 v d p) :
    ∃ (a : Option Addr) (cap : Nat) (rs : List Int), v = .slice a rs.length cap ∧ SliceAt w 1 I64.enc a rs ∧ rs.length ≤ 9223372036854775807 := by
  obtain ⟨a0, l0, k0, rfl⟩ := okWide_slice Try.underlying27 hv
  obtain ⟨m, hm⟩ := h
  obtain ⟨a, cap, rs, h1, h2, _, h4⟩ := read_slice (sz := 1) (enc := I64.enc) (good := fun _ => True) Try.underlying27 (by kernel_rfl) (by decide) I64.read hm
  exact ⟨a, cap, rs, h1, h2, h4⟩
set_option maxRecDepth 100000 in
/-- A grid that came in. -/
theorem Grid.read {r : Reach} {b0 : Nat} {v : Value} {d : DataW H} {p : List MemPlace} (hv : Value.okWide Try.prog w r b0 23 v) (h : DataW.Trod ec Try.prog w base spare held 23 v d p) :
    ∃ (R C : Int) (s : ByteArray), v = .agg #[.int .i64 R, .int .i64 C, .string s] ∧ (-9223372036854775808 ≤ R ∧ R ≤ 9223372036854775807) ∧ (-9223372036854775808 ≤ C ∧ C ≤ 9223372036854775807) ∧ s.size ≤ 9223372036854775807 := by
  obtain ⟨cs, rfl, fuel, x, hf⟩ := open_aggs Try.underlying23 hv h
  obtain ⟨hl, n, hg⟩ := struct_cells Try.underlying23 (by kernel_rfl) (by kernel_rfl) hf
  obtain ⟨v0, y0, h0, t0⟩ := hg 0 _ rfl
  obtain ⟨v1, y1, h1, t1⟩ := hg 1 _ rfl
  obtain ⟨v2, y2, h2, t2⟩ := hg 2 _ rfl
  obtain ⟨x0, e0, _, b0⟩ := DataW.trod_int Try.underlying2 t0
  obtain ⟨x1, e1, _, b1⟩ := DataW.trod_int Try.underlying2 t1
  obtain ⟨s2, e2, _, b2⟩ := DataW.trod_string Try.underlying9 t2
  simp only [List.cons.injEq, and_true] at e0 e1 e2
  subst e0 e1 e2
  refine ⟨x0, x1, s2, ?_, wf_i64 b0, wf_i64 b1, by unfold maxLen at b2; omega⟩
  match cs, hl with
  | [c0, c1, c2], _ =>
    simp only [List.getElem?_cons_zero, List.getElem?_cons_succ, Option.some.injEq] at h0 h1 h2
    rw [h0, h1, h2]
end

end Go.Proofs.Ytjknpmdmchlfcaa
