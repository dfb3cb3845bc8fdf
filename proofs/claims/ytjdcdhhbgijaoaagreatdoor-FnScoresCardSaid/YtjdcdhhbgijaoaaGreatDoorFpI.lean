/- Contracts: a play made, its new squares and its tiles: the program; a play made: the reference. For whatever board and play. -/
import Derived.Test.YtjdcdhhbgijaoaaGreatDoorPlbF
import Derived.Test.YtjdcdhhbgijaoaaGreatDoorGmM
namespace Go.Proofs.YtjdcdhhbgijaoaaGreatDoor
open Go.ChangeShapes Go.WideShapes Go.ChangeAt Go.RowKit Go.Sort

end Go.Proofs.YtjdcdhhbgijaoaaGreatDoor
