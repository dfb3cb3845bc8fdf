/- What comes in, read: a board, a play. No condition beyond the form that the statements' frame gives. · What comes in, read: a play. No condition beyond the form that the statements' frame gives. · What comes in, read: a lexicon. No condition beyond the form that the statements' frame gives. -/
import Derived.Test.YtofcampipllegaaGreatDoorFrame
import Derived.Test.YtofcampipllegaaGreatDoorTx
import Derived.Test.YtofcampipllegaaGreatDoorLex
namespace Go.Proofs.YtofcampipllegaaGreatDoor
open Go.ChangeShapes Go.WideShapes Go.ChangeAt Go.RowKit Go.Sort Go.Joins Go.Deep
open Go.ChangeMaps (open_string shut_string)

theorem wf64 {n : Int} (h : (Lit.int .i64 n).wf = true) : -9223372036854775808 ≤ n ∧ n ≤ 9223372036854775807 := by
  simp [Lit.wf] at h
  exact h
section
variable {H : Type} {ec : TypeId × Value → H} {w : World} {base : Nat} {spare : Nat → Bool} {held : Bool}
set_option maxRecDepth 100000 in
/-- A board that came in. -/
theorem Board.read {r : Reach} {b0 : Nat} {v : Value} {d : DataW H} {p : List MemPlace} (hv : Value.okWide Tryz.prog w r b0 26 v) (h : DataW.Trod ec Tryz.prog w base spare held 26 v d p) :
    ∃ b : Brd, v = .agg #[.int .i64 b.size, .string b.premium, .string b.cells] ∧ b.fit ∧ (-9223372036854775808 ≤ b.size ∧ b.size ≤ 9223372036854775807) := by
  obtain ⟨cs, rfl, fuel, x, hf⟩ := open_aggs Tryz.underlying26 hv h
  obtain ⟨hl, n, hg⟩ := struct_cells Tryz.underlying26 (by kernel_rfl) (by kernel_rfl) hf
  obtain ⟨v0, y0, h0, t0⟩ := hg 0 _ rfl
  obtain ⟨v1, y1, h1, t1⟩ := hg 1 _ rfl
  obtain ⟨v2, y2, h2, t2⟩ := hg 2 _ rfl
  obtain ⟨x0, e0, _, b0⟩ := DataW.trod_int Tryz.underlying2 t0
  obtain ⟨s1, e1, _, b1⟩ := DataW.trod_string Tryz.underlying9 t1
  obtain ⟨s2, e2, _, b2⟩ := DataW.trod_string Tryz.underlying9 t2
  simp only [List.cons.injEq, and_true] at e0 e1 e2
  subst e0 e1 e2
  refine ⟨⟨x0, s1, s2⟩, ?_, ⟨by unfold maxLen at b1; show s1.size ≤ _; omega, by unfold maxLen at b2; show s2.size ≤ _; omega⟩, wf64 b0⟩
  match cs, hl with
  | [c0, c1, c2], _ =>
    simp only [List.getElem?_cons_zero, List.getElem?_cons_succ, Option.some.injEq] at h0 h1 h2
    rw [h0, h1, h2]
end
end Go.Proofs.YtofcampipllegaaGreatDoor

namespace Go.Proofs.YtofcampipllegaaGreatDoor
open Go.ChangeShapes Go.WideShapes Go.ChangeAt Go.RowKit Go.Sort Go.Joins Go.Deep
open Go.ChangeMaps (open_string shut_string)

section
variable {H : Type} {ec : TypeId × Value → H} {w : World} {base : Nat} {spare : Nat → Bool} {held : Bool}
set_option maxRecDepth 100000 in
/-- A play that came in. -/
theorem Play.read {r : Reach} {b0 : Nat} {v : Value} {d : DataW H} {p : List MemPlace} (hv : Value.okWide Tryz.prog w r b0 48 v) (h : DataW.Trod ec Tryz.prog w base spare held 48 v d p) :
    ∃ b : Ply, v = .agg #[.int .i64 b.row, .int .i64 b.col, .bool b.down, .string b.word] ∧ b.fit ∧ True := by
  obtain ⟨cs, rfl, fuel, x, hf⟩ := open_aggs Tryz.underlying48 hv h
  obtain ⟨hl, n, hg⟩ := struct_cells Tryz.underlying48 (by kernel_rfl) (by kernel_rfl) hf
  obtain ⟨v0, y0, h0, t0⟩ := hg 0 _ rfl
  obtain ⟨v1, y1, h1, t1⟩ := hg 1 _ rfl
  obtain ⟨v2, y2, h2, t2⟩ := hg 2 _ rfl
  obtain ⟨v3, y3, h3, t3⟩ := hg 3 _ rfl
  obtain ⟨x0, e0, _, b0⟩ := DataW.trod_int Tryz.underlying2 t0
  obtain ⟨x1, e1, _, b1⟩ := DataW.trod_int Tryz.underlying2 t1
  obtain ⟨x2, e2, _⟩ := DataW.trod_bool Tryz.underlying4 t2
  obtain ⟨s3, e3, _, b3⟩ := DataW.trod_string Tryz.underlying9 t3
  simp only [List.cons.injEq, and_true] at e0 e1 e2 e3
  subst e0 e1 e2 e3
  refine ⟨⟨x0, x1, x2, s3⟩, ?_, (by unfold maxLen at b3; show s3.size ≤ _; omega), trivial⟩
  match cs, hl with
  | [c0, c1, c2, c3], _ =>
    simp only [List.getElem?_cons_zero, List.getElem?_cons_succ, Option.some.injEq] at h0 h1 h2 h3
    rw [h0, h1, h2, h3]
end
end Go.Proofs.YtofcampipllegaaGreatDoor

namespace Go.Proofs.YtofcampipllegaaGreatDoor
open Go.ChangeShapes Go.WideShapes Go.ChangeAt Go.RowKit Go.Sort Go.Joins Go.Deep
open Go.ChangeMaps (open_string shut_string)

section
variable {H : Type} {ec : TypeId × Value → H} {w : World} {base : Nat} {spare : Nat → Bool} {held : Bool}
instance : Inhabited ByteArray := ⟨⟨#[]⟩⟩
set_option maxRecDepth 100000 in
theorem Tx.read (m : Nat) (cs : List Value) (y : DataW H × List MemPlace) (h : DataW.trod ec Tryz.prog w base spare held m 9 cs = some y) : ∃ a : ByteArray, cs = Tx.enc a ∧ a.size ≤ 9223372036854775807 := by
  obtain ⟨s0, e0, _, b0⟩ := DataW.trod_string Tryz.underlying9 h
  exact ⟨s0, e0, by unfold maxLen at b0; omega⟩
set_option maxRecDepth 100000 in
/-- A lexicon that came in. -/
theorem Lexicon.read {r : Reach} {b0 : Nat} {v : Value} {d : DataW H} {p : List MemPlace} (hv : Value.okWide Tryz.prog w r b0 44 v) (h : DataW.Trod ec Tryz.prog w base spare held 44 v d p) :
    ∃ (a : Option Addr) (cap : Nat) (ms : List ByteArray), v = .agg #[.slice a ms.length cap] ∧ SliceAt w 1 Tx.enc a ms ∧ WordsFit ms ∧ ms.length ≤ 9223372036854775807 := by
  obtain ⟨cs, rfl, fuel, x, hf⟩ := open_aggs Tryz.underlying44 hv h
  obtain ⟨hl, n, hg⟩ := struct_cells Tryz.underlying44 (by kernel_rfl) (by kernel_rfl) hf
  obtain ⟨v0, y0, h0, t0⟩ := hg 0 _ rfl
  obtain ⟨a, cap, ms, rfl, hs, hgood, hlen⟩ := read_slice (sz := 1) (enc := Tx.enc) (good := fun a => a.size ≤ 9223372036854775807) Tryz.underlying42 (by kernel_rfl) (by decide) Tx.read t0
  refine ⟨a, cap, ms, ?_, hs, hgood, hlen⟩
  rw [list1 hl h0]
end
end Go.Proofs.YtofcampipllegaaGreatDoor
