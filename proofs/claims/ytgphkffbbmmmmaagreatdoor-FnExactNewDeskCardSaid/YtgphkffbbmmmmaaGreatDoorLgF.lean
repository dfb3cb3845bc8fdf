/- Contract: the program's words that a play forms. For valid plays on valid boards. · Contracts: the reference's words that a play forms and a lexicon does not have; its WrongW · Contracts: the reference's codes of plays: whether a down play is an across play too, the  -/
import Derived.Test.YtgphkffbbmmmmaaGreatDoorPlbF
import Derived.Test.YtgphkffbbmmmmaaGreatDoorLex
import Derived.Test.YtgphkffbbmmmmaaGreatDoorPlaD
import Derived.Test.YtgphkffbbmmmmaaGreatDoorLgE
import Derived.Test.YtgphkffbbmmmmaaGreatDoorToA
namespace Go.Proofs.YtgphkffbbmmmmaaGreatDoor
open Go.ChangeShapes Go.WideShapes Go.ChangeAt Go.RowKit Go.Sort

end Go.Proofs.YtgphkffbbmmmmaaGreatDoor
namespace Go.Proofs.YtgphkffbbmmmmaaGreatDoor
open Go.ChangeShapes Go.WideShapes Go.ChangeAt Go.RowKit Go.Sort

end Go.Proofs.YtgphkffbbmmmmaaGreatDoor

namespace Go.Proofs.YtgphkffbbmmmmaaGreatDoor
open Go.ChangeShapes Go.WideShapes Go.ChangeAt Go.RowKit Go.Sort

end Go.Proofs.YtgphkffbbmmmmaaGreatDoor

namespace Go.Proofs.YtgphkffbbmmmmaaGreatDoor
open Go.ChangeShapes Go.WideShapes Go.ChangeAt Go.RowKit Go.Sort

end Go.Proofs.YtgphkffbbmmmmaaGreatDoor
namespace Go.Proofs.YtgphkffbbmmmmaaGreatDoor
open Go.ChangeShapes Go.WideShapes Go.ChangeAt Go.RowKit Go.Sort

/-! ### Plain -/
/-- the tiles that a play places, in order -/
def Brd.tiles (b:Brd) (p:Ply):List UInt8:=(placedB p.word (b.fresh p)).map tlC
end Go.Proofs.YtgphkffbbmmmmaaGreatDoor
