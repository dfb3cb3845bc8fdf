/- Contracts: the reference's plays: placed words, plays turned over, boards and plays seen across. For valid boards. · Contracts: the reference's test on plays. For valid boards; the whole test: no condition but that lengths fit an int. · Contracts: the reference's whole test on plays; the squares that a play fills; a word across. For valid boards; the test: no condition but that lengths fit an int. -/
import Derived.Test.YtgphkffbbmmmmaaGreatDoorPlaP
import Derived.Test.YtgphkffbbmmmmaaGreatDoorBrD
namespace Go.Proofs.YtgphkffbbmmmmaaGreatDoor
open Go.ChangeShapes Go.WideShapes Go.ChangeAt Go.RowKit Go.Sort

/-! ### Plain -/
end Go.Proofs.YtgphkffbbmmmmaaGreatDoor

namespace Go.Proofs.YtgphkffbbmmmmaaGreatDoor
open Go.ChangeShapes Go.WideShapes Go.ChangeAt Go.RowKit Go.Sort

/-! ### Plain -/
theorem int_46 {c:UInt8} (h:((c.toNat:Int) == 46)=true):c=46:=u8_46 (by simp at h;omega)
theorem int_not46 {c:UInt8} (h:((c.toNat:Int) == 46)=false):c≠46:=fun e=>by subst e;simp at h
end Go.Proofs.YtgphkffbbmmmmaaGreatDoor

namespace Go.Proofs.YtgphkffbbmmmmaaGreatDoor
open Go.ChangeShapes Go.WideShapes Go.ChangeAt Go.RowKit Go.Sort

/-! ### Plain: letters along a column, by their places -/
def N64.enc (i:Nat):List Value:=[.int .i64 (i:Int)]
theorem N64.enc_len (i:Nat):(N64.enc i).length=1:=rfl
end Go.Proofs.YtgphkffbbmmmmaaGreatDoor
