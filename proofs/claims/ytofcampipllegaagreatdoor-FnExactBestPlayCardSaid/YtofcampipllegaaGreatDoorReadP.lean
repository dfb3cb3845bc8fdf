/- What comes in, read: a row of plays. No condition beyond the form that the statements' frame gives. -/
import Derived.Test.YtofcampipllegaaGreatDoorReadB
namespace Go.Proofs.YtofcampipllegaaGreatDoor
open Go.ChangeShapes Go.WideShapes Go.ChangeAt Go.RowKit Go.Sort Go.Joins Go.Deep
open Go.ChangeMaps (open_string shut_string)

section
variable {H : Type} {ec : TypeId × Value → H} {w : World} {base : Nat} {spare : Nat → Bool} {held : Bool}
instance : Inhabited Ply := ⟨⟨0, 0, false, ⟨#[]⟩⟩⟩
set_option maxRecDepth 100000 in
theorem Play.cells (m : Nat) (cs : List Value) (y : DataW H × List MemPlace) (h : DataW.trod ec Tryz.prog w base spare held m 48 cs = some y) : ∃ a : Ply, cs = Ply.enc a ∧ a.fit := by
  obtain ⟨hl, n, hg⟩ := struct_cells Tryz.underlying48 (by kernel_rfl) (by kernel_rfl) h
  obtain ⟨v0, y0, h0, t0⟩ := hg 0 _ rfl
  obtain ⟨v1, y1, h1, t1⟩ := hg 1 _ rfl
  obtain ⟨v2, y2, h2, t2⟩ := hg 2 _ rfl
  obtain ⟨v3, y3, h3, t3⟩ := hg 3 _ rfl
  obtain ⟨x0, e0, _, b0⟩ := DataW.trod_int Tryz.underlying2 t0
  obtain ⟨x1, e1, _, b1⟩ := DataW.trod_int Tryz.underlying2 t1
  obtain ⟨x2, e2, _⟩ := DataW.trod_bool Tryz.underlying4 t2
  obtain ⟨s3, e3, _, b3⟩ := DataW.trod_string Tryz.underlying9 t3
  simp only [List.cons.injEq, and_true] at e0 e1 e2 e3
  subst e0 e1 e2 e3
  refine ⟨⟨x0, x1, x2, s3⟩, ?_, (by unfold maxLen at b3; show s3.size ≤ _; omega)⟩
  match cs, hl with
  | [c0, c1, c2, c3], _ =>
    simp only [List.getElem?_cons_zero, List.getElem?_cons_succ, Option.some.injEq] at h0 h1 h2 h3
    rw [h0, h1, h2, h3]
    rfl
set_option maxRecDepth 100000 in
/-- A row of plays that came in. -/
theorem Play.readS {r : Reach} {b0 : Nat} {v : Value} {d : DataW H} {p : List MemPlace} (hv : Value.okWide Tryz.prog w r b0 27 v) (h : DataW.Trod ec Tryz.prog w base spare held 27 v d p) :
    ∃ (a : Option Addr) (cap : Nat) (rs : List Ply), v = .slice a rs.length cap ∧ SliceAt w 4 Ply.enc a rs ∧ (∀ y ∈ rs, y.fit) ∧ rs.length ≤ 9223372036854775807 := by
  obtain ⟨a0, l0, k0, rfl⟩ := okWide_slice Tryz.underlying27 hv
  obtain ⟨m, hm⟩ := h
  exact read_slice (sz := 4) (enc := Ply.enc) (good := Ply.fit) Tryz.underlying27 (by kernel_rfl) (by decide) Play.cells hm
end
end Go.Proofs.YtofcampipllegaaGreatDoor
