/- What comes in, read: clubs, results, rows of them. No condition beyond the form that the statements' frame gives. -/
import Derived.Test.YtpodkgfapbcmlaaDoorFrame
import Derived.Test.YtpodkgfapbcmlaaDoorClubT
import Derived.Test.YtpodkgfapbcmlaaDoorRes
namespace Go.Proofs.YtpodkgfapbcmlaaDoor
open Go.ChangeShapes Go.WideShapes Go.ChangeAt Go.RowKit Go.Sort Go.Joins Go.Deep
open Go.ChangeMaps (open_string shut_string)

theorem own : ownKnob Tryd.prog.godebug = none := by kernel_rfl
theorem laidOut : laidOutB Tryd.prog = true := by kernel_rfl

section
variable {H : Type} {ec : TypeId × Value → H} {w : World} {base : Nat} {spare : Nat → Bool} {held : Bool}
instance : Inhabited Mem := ⟨⟨⟨#[]⟩, 0⟩⟩
instance : Inhabited Res := ⟨⟨⟨#[]⟩, ⟨#[]⟩, 0, 0⟩⟩
set_option maxRecDepth 100000 in
theorem Mem.read (m : Nat) (cs : List Value) (y : DataW H × List MemPlace) (h : DataW.trod ec Tryd.prog w base spare held m 86 cs = some y) : ∃ a : Mem, cs = Mem.enc a ∧ a.fit := by
  obtain ⟨hl, n, hf⟩ := struct_cells Tryd.underlying86 (by kernel_rfl) (by kernel_rfl) h
  obtain ⟨v0, y0, h0, t0⟩ := hf 0 _ rfl
  obtain ⟨v1, y1, h1, t1⟩ := hf 1 _ rfl
  obtain ⟨s0, e0, _, b0⟩ := DataW.trod_string Tryd.underlying9 t0
  obtain ⟨x1, e1, _, _⟩ := DataW.trod_int Tryd.underlying2 t1
  simp only [List.cons.injEq, and_true] at e0 e1
  subst e0 e1
  refine ⟨⟨s0, x1⟩, ?_, by unfold Mem.fit; unfold maxLen at b0; simp only; omega⟩
  match cs, hl with
  | [c0, c1], _ =>
    simp only [List.getElem?_cons_zero, List.getElem?_cons_succ, Option.some.injEq] at h0 h1
    rw [h0, h1]
    rfl
set_option maxRecDepth 100000 in
/-- A club that came in. -/
theorem Club.read {r : Reach} {b0 : Nat} {v : Value} {d : DataW H} {p : List MemPlace} (hv : Value.okWide Tryd.prog w r b0 31 v) (h : DataW.Trod ec Tryd.prog w base spare held 31 v d p) :
    ∃ (a : Option Addr) (cap : Nat) (ms : List Mem), v = .agg #[.slice a ms.length cap] ∧ SliceAt w 2 Mem.enc a ms ∧ MemsFit ms ∧ ms.length ≤ 9223372036854775807 := by
  obtain ⟨cs, rfl, fuel, x, hf⟩ := open_aggs Tryd.underlying31 hv h
  obtain ⟨hl, n, hg⟩ := struct_cells Tryd.underlying31 (by kernel_rfl) (by kernel_rfl) hf
  obtain ⟨v0, y0, h0, t0⟩ := hg 0 _ rfl
  obtain ⟨a, cap, ms, rfl, hs, hgood, hlen⟩ := read_slice (sz := 2) (enc := Mem.enc) (good := Mem.fit) Tryd.underlying29 (by kernel_rfl) (by decide) Mem.read t0
  refine ⟨a, cap, ms, ?_, hs, hgood, hlen⟩
  rw [list1 hl h0]
set_option maxRecDepth 100000 in
theorem Res.read (m : Nat) (cs : List Value) (y : DataW H × List MemPlace) (h : DataW.trod ec Tryd.prog w base spare held m 23 cs = some y) : ∃ a : Res, cs = Res.enc a ∧ a.fit := by
  obtain ⟨hl, n, hf⟩ := struct_cells Tryd.underlying23 (by kernel_rfl) (by kernel_rfl) h
  obtain ⟨v0, y0, h0, t0⟩ := hf 0 _ rfl
  obtain ⟨v1, y1, h1, t1⟩ := hf 1 _ rfl
  obtain ⟨v2, y2, h2, t2⟩ := hf 2 _ rfl
  obtain ⟨v3, y3, h3, t3⟩ := hf 3 _ rfl
  obtain ⟨s0, e0, _, b0⟩ := DataW.trod_string Tryd.underlying9 t0
  obtain ⟨s1, e1, _, b1⟩ := DataW.trod_string Tryd.underlying9 t1
  obtain ⟨x2, e2, _, _⟩ := DataW.trod_int Tryd.underlying2 t2
  obtain ⟨x3, e3, _, _⟩ := DataW.trod_int Tryd.underlying2 t3
  simp only [List.cons.injEq, and_true] at e0 e1 e2 e3
  subst e0 e1 e2 e3
  refine ⟨⟨s0, s1, x2, x3⟩, ?_, by unfold Res.fit; unfold maxLen at b0 b1; simp only; omega⟩
  match cs, hl with
  | [c0, c1, c2, c3], _ =>
    simp only [List.getElem?_cons_zero, List.getElem?_cons_succ, Option.some.injEq] at h0 h1 h2 h3
    rw [h0, h1, h2, h3]
    rfl
set_option maxRecDepth 100000 in
/-- A result that came in, by value. -/
theorem Res.readV {r : Reach} {b0 : Nat} {v : Value} {d : DataW H} {p : List MemPlace} (hv : Value.okWide Tryd.prog w r b0 23 v) (h : DataW.Trod ec Tryd.prog w base spare held 23 v d p) :
    ∃ a : Res, v = .agg #[.string a.a, .string a.b, .int .i64 a.sa, .int .i64 a.sb] ∧ a.fit := by
  obtain ⟨cs, rfl, fuel, x, hf⟩ := open_aggs Tryd.underlying23 hv h
  obtain ⟨a, rfl, hfit⟩ := Res.read _ _ _ hf
  exact ⟨a, rfl, hfit⟩
end

end Go.Proofs.YtpodkgfapbcmlaaDoor
