/- Plain definitions and lemmas: tiles, piles, counts of tiles, whether one pile contains ano · Contracts: the reference's tests on tiles, piles and racks. No condition but that a length · Contracts: a strings.Builder of the call's own: WriteByte, String. No condition but the le · Contracts: the reference's taking of tiles from a pile, the tiles of letters, the letters  -/
import Derived.Test.YtjdcdhhbgijaoaaGreatDoorPlaP
import Derived.Test.YtjdcdhhbgijaoaaGreatDoorBrD
import Derived.Test.YtjdcdhhbgijaoaaGreatDoorVar
import Derived.Test.YtjdcdhhbgijaoaaGreatDoorShq
import Derived.Test.YtjdcdhhbgijaoaaGreatDoorPlaD
import Derived.Test.YtjdcdhhbgijaoaaGreatDoorScE
namespace Go.Proofs.YtjdcdhhbgijaoaaGreatDoor
open Go.ChangeShapes Go.WideShapes Go.ChangeAt Go.RowKit Go.Sort

/-- the k-th tile: the blank, then the letters -/
def tileC (k : Nat) : UInt8 := if k = 0 then 63 else UInt8.ofNat (96 + k)
/-- is a byte a tile? -/
def tileI (c : Int) : Bool := c == 63 || smallB c
def tileB (c : UInt8) : Bool := tileI c.toNat
/-- how often the k-th tile is in a list -/
def cntT (l : List UInt8) (k : Nat) : Nat := l.count (tileC k)
def pileL (f : Nat → Int) (n : Nat) : List UInt8 := (List.range n).flatMap fun k => List.replicate (f k).toNat (tileC k)
theorem rep_snoc {α : Type} (n : Nat) (x : α) : List.replicate (n + 1) x = List.replicate n x ++ [x] := by
  rw [List.replicate_succ']
theorem u8_at {l : List UInt8} {j : Nat} (h : j < l.length) : l.getD j 0 = l[j] := by simp [h]
/-- what a walk along a string has found so far -/
def PU (l : List UInt8) (k : Nat) : Prop := (∀ j, j < k → tileB (l.getD j 0) = true) ∧ (∀ j, j < k → 0 < j → (l.getD (j - 1) 0).toNat ≤ (l.getD j 0).toNat)
theorem PU.zero (l : List UInt8) : PU l 0 := ⟨fun j h => by omega, fun j h => by omega⟩
theorem u8_byte {s : ByteArray} {k : Nat} (h : k < s.size) : s.data.toList.getD k 0 = s[k] := by
  rw [u8_at (by simpa using h)]
  rfl
theorem PU.first {s : ByteArray} (h : 0 < s.size) (ht : tileI (s[0].toNat : Int) = true) : PU s.data.toList 1 := by
  refine ⟨fun j hj => ?_, fun j hj h0 => by omega⟩
  obtain rfl : j = 0 := by omega
  rw [u8_byte h]
  exact ht
theorem PU.step {s : ByteArray} {k : Nat} (h : PU s.data.toList (k + 1)) (hk : k + 1 < s.size) (ht : tileI (s[k + 1].toNat : Int) = true) (ho : ¬ (s[k + 1].toNat : Int) < (s[k].toNat : Int)) : PU s.data.toList (k + 1 + 1) := by
  refine ⟨fun j hj => ?_, fun j hj h0 => ?_⟩
  · by_cases e : j = k + 1
    · subst e; rw [u8_byte hk]; exact ht
    · exact h.1 j (by omega)
  · by_cases e : j = k + 1
    · subst e
      rw [Nat.add_sub_cancel, u8_byte hk, u8_byte (by omega)]
      omega
    · exact h.2 j (by omega) h0
end Go.Proofs.YtjdcdhhbgijaoaaGreatDoor

namespace Go.Proofs.YtjdcdhhbgijaoaaGreatDoor
open Go.ChangeShapes Go.WideShapes Go.ChangeAt Go.RowKit Go.Sort

def cntI (l : List UInt8) : Nat → Int := fun k => (cntT l k : Int)
/-- the pile of a list of tiles -/
def srtL (l : List UInt8) : List UInt8 := pileL (cntI l) 27
def tlC (c : UInt8) : UInt8 := if capB (c.toNat : Int) then 63 else c
end Go.Proofs.YtjdcdhhbgijaoaaGreatDoor
namespace Go.Proofs.YtjdcdhhbgijaoaaGreatDoor
open Go.ChangeShapes Go.WideShapes Go.ChangeAt Go.RowKit Go.Sort

end Go.Proofs.YtjdcdhhbgijaoaaGreatDoor

namespace Go.Proofs.YtjdcdhhbgijaoaaGreatDoor
open Go.ChangeShapes Go.WideShapes Go.ChangeAt Go.RowKit Go.Sort

/-- ascending so far -/
def UO (l : List UInt8) (k : Nat) : Prop := ∀ j, j < k → 0 < j → (l.getD (j - 1) 0).toNat ≤ (l.getD j 0).toNat
theorem UO.one (l : List UInt8) : UO l 1 := fun j h h0 => by omega
theorem UO.step {s : ByteArray} {k : Nat} (h : UO s.data.toList (k + 1)) (hk : k + 1 < s.size) (ho : ¬ (s[k].toNat : Int) > (s[k + 1].toNat : Int)) : UO s.data.toList (k + 1 + 1) := by
  intro j hj h0
  by_cases e : j = k + 1
  · subst e
    rw [Nat.add_sub_cancel, u8_byte hk, u8_byte (by omega)]
    omega
  · exact h j (by omega) h0
end Go.Proofs.YtjdcdhhbgijaoaaGreatDoor

namespace Go.Proofs.YtjdcdhhbgijaoaaGreatDoor
open Go.ChangeShapes Go.WideShapes Go.ChangeAt Go.RowKit Go.Sort

/-! ### Rows of bytes that were appended to -/
end Go.Proofs.YtjdcdhhbgijaoaaGreatDoor
namespace Go.Proofs.YtjdcdhhbgijaoaaGreatDoor
open Go.ChangeShapes Go.WideShapes Go.ChangeAt Go.RowKit Go.Sort Go.Shelf

/-- a builder of the call's own that holds the text l -/
def IsB (B b : Nat) (l : List UInt8) (w : World) : Prop := Lib.IsBuilderF 239 5 B b (Lib.byteCells l) w
theorem atF_below {T e : TypeId} {B b : Nat} {p : Value} {bs : List Value} {W W' : World} (h : Lib.BuilderAtF T e B b p bs W) (hb : Below W.heap.size W W') : Lib.BuilderAtF T e B b p bs W' := by
  have hlt := h.lt
  obtain ⟨hB, v, h1, h2, h3⟩ := h
  exact ⟨hB, v, (hb.block b hlt).trans h1, h2.kept (row := none) (grown_of_below hb) (Classical.em _), h3⟩
theorem IsB.kept {B b : Nat} {l : List UInt8} {w w' : World} (h : IsB B b l w) (hb : Below w.heap.size w w') : IsB B b l w' :=
  h.elim (fun x => .inl (atF_below x hb)) (fun x => .inr (atF_below x hb))
theorem IsB.new (w : World) : IsB w.heap.size w.heap.size [] (w.alloc (.cells #[.pointer none, .slice none 0 0] 239)) := Lib.IsBuilderF.of (Lib.fresh_isBuilder _ _ w)
end Go.Proofs.YtjdcdhhbgijaoaaGreatDoor

namespace Go.Proofs.YtjdcdhhbgijaoaaGreatDoor
open Go.ChangeShapes Go.WideShapes Go.ChangeAt Go.RowKit Go.Sort

/-- a new array of counts -/
abbrev cts0 : Obj := .cells #[.int .i64 0, .int .i64 0, .int .i64 0, .int .i64 0, .int .i64 0, .int .i64 0, .int .i64 0, .int .i64 0, .int .i64 0, .int .i64 0, .int .i64 0, .int .i64 0, .int .i64 0, .int .i64 0, .int .i64 0, .int .i64 0, .int .i64 0, .int .i64 0, .int .i64 0, .int .i64 0, .int .i64 0, .int .i64 0, .int .i64 0, .int .i64 0, .int .i64 0, .int .i64 0, .int .i64 0] 201
end Go.Proofs.YtjdcdhhbgijaoaaGreatDoor

namespace Go.Proofs.YtjdcdhhbgijaoaaGreatDoor
open Go.ChangeShapes Go.WideShapes Go.ChangeAt Go.RowKit Go.Sort

end Go.Proofs.YtjdcdhhbgijaoaaGreatDoor
namespace Go.Proofs.YtjdcdhhbgijaoaaGreatDoor
open Go.ChangeShapes Go.WideShapes Go.ChangeAt Go.RowKit Go.Sort

/-! ### Plain -/
def placedB (word : ByteArray) (fr : List Nat) : List UInt8 := fr.map fun i => word.data.toList.getD i 0
end Go.Proofs.YtjdcdhhbgijaoaaGreatDoor
