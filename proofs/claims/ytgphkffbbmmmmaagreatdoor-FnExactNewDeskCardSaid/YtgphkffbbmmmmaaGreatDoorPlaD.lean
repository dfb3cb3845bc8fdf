/- Contracts: the reference's words across. For valid boards. · Contracts: the reference's words that a play forms. For valid plays on valid boards. · Contracts: the reference's test on plays; its WordsFormed. No condition but that lengths fit an int. -/
import Derived.Test.YtgphkffbbmmmmaaGreatDoorPlaA
import Derived.Test.YtgphkffbbmmmmaaGreatDoorTx
namespace Go.Proofs.YtgphkffbbmmmmaaGreatDoor
open Go.ChangeShapes Go.WideShapes Go.ChangeAt Go.RowKit Go.Sort

end Go.Proofs.YtgphkffbbmmmmaaGreatDoor

namespace Go.Proofs.YtgphkffbbmmmmaaGreatDoor
open Go.ChangeShapes Go.WideShapes Go.ChangeAt Go.RowKit Go.Sort

end Go.Proofs.YtgphkffbbmmmmaaGreatDoor

namespace Go.Proofs.YtgphkffbbmmmmaaGreatDoor
open Go.ChangeShapes Go.WideShapes Go.ChangeAt Go.RowKit Go.Sort

/-! ### Plain -/
end Go.Proofs.YtgphkffbbmmmmaaGreatDoor
