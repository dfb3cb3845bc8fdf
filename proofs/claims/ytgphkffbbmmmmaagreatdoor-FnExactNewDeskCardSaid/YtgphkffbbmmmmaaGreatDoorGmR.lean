/- Contracts: the reference's test of games. No condition but that lengths fit an int. -/
import Derived.Test.YtgphkffbbmmmmaaGreatDoorGmQ
namespace Go.Proofs.YtgphkffbbmmmmaaGreatDoor
open Go.ChangeShapes Go.WideShapes Go.ChangeAt Go.RowKit Go.Sort

/-! ### Plain -/
end Go.Proofs.YtgphkffbbmmmmaaGreatDoor
