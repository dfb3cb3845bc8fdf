/- Contracts: the reference's draw of a board and a play that are seldom not valid. Nothing is said of them but that their texts are short. -/
import Derived.Test.YtjdcdhhbgijaoaaGreatDoorDbB
import Derived.Test.YtjdcdhhbgijaoaaGreatDoorDbP
namespace Go.Proofs.YtjdcdhhbgijaoaaGreatDoor
open Go.ChangeShapes Go.WideShapes Go.ChangeAt Go.RowKit Go.Sort

end Go.Proofs.YtjdcdhhbgijaoaaGreatDoor
