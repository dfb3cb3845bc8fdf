/- What comes in, read: a lexicon. No condition beyond the form that the statements' frame gives. -/
import Derived.Test.YtoeoijkhlpacdaaGreatDoorFrame
import Derived.Test.YtoeoijkhlpacdaaGreatDoorTLx
import Derived.Test.YtoeoijkhlpacdaaGreatDoorLex
namespace Go.Proofs.YtoeoijkhlpacdaaGreatDoor
open Go.ChangeShapes Go.WideShapes Go.ChangeAt Go.RowKit Go.Sort Go.Joins Go.Deep
open Go.ChangeMaps (open_string shut_string)

section
variable {H : Type} {ec : TypeId × Value → H} {w : World} {base : Nat} {spare : Nat → Bool} {held : Bool}
instance : Inhabited ByteArray := ⟨⟨#[]⟩⟩
set_option maxRecDepth 100000 in
theorem Tx.read (m : Nat) (cs : List Value) (y : DataW H × List MemPlace) (h : DataW.trod ec Tryz.prog w base spare held m 9 cs = some y) : ∃ a : ByteArray, cs = Tx.enc a ∧ a.size ≤ 9223372036854775807 := by
  obtain ⟨s0, e0, _, b0⟩ := DataW.trod_string Tryz.underlying9 h
  exact ⟨s0, e0, by unfold maxLen at b0; omega⟩
set_option maxRecDepth 100000 in
/-- A lexicon that came in. -/
theorem Lexicon.read {r : Reach} {b0 : Nat} {v : Value} {d : DataW H} {p : List MemPlace} (hv : Value.okWide Tryz.prog w r b0 53 v) (h : DataW.Trod ec Tryz.prog w base spare held 53 v d p) :
    ∃ (a : Option Addr) (cap : Nat) (ms : List ByteArray), v = .agg #[.slice a ms.length cap] ∧ SliceAt w 1 Tx.enc a ms ∧ WordsFit ms ∧ ms.length ≤ 9223372036854775807 := by
  obtain ⟨cs, rfl, fuel, x, hf⟩ := open_aggs Tryz.underlying53 hv h
  obtain ⟨hl, n, hg⟩ := struct_cells Tryz.underlying53 (by kernel_rfl) (by kernel_rfl) hf
  obtain ⟨v0, y0, h0, t0⟩ := hg 0 _ rfl
  obtain ⟨a, cap, ms, rfl, hs, hgood, hlen⟩ := read_slice (sz := 1) (enc := Tx.enc) (good := fun a => a.size ≤ 9223372036854775807) Tryz.underlying39 (by kernel_rfl) (by decide) Tx.read t0
  refine ⟨a, cap, ms, ?_, hs, hgood, hlen⟩
  rw [list1 hl h0]
end
end Go.Proofs.YtoeoijkhlpacdaaGreatDoor
