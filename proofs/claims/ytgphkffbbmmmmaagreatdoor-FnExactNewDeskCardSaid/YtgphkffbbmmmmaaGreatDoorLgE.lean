/- Contracts: the reference's taking of tiles from a pile, the tiles of letters, the letters that a play places. For texts of at most a megabyte. -/
import Derived.Test.YtgphkffbbmmmmaaGreatDoorLgA
import Derived.Test.YtgphkffbbmmmmaaGreatDoorLgP
import Derived.Test.YtgphkffbbmmmmaaGreatDoorPlaD
import Derived.Test.YtgphkffbbmmmmaaGreatDoorScE
namespace Go.Proofs.YtgphkffbbmmmmaaGreatDoor
open Go.ChangeShapes Go.WideShapes Go.ChangeAt Go.RowKit Go.Sort

/-! ### Plain -/
def placedB (word:ByteArray) (fr:List Nat):List UInt8:=fr.map fun i=>word.data.toList.getD i 0
end Go.Proofs.YtgphkffbbmmmmaaGreatDoor
