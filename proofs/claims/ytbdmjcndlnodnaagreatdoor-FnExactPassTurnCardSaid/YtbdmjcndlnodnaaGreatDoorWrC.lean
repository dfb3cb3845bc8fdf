/- Contracts: the reference's words that a play forms and a lexicon does not have; its WrongWords. No condition but that lengths fit an int. · Contracts: slices.BinarySearch over an increasing list of words. No condition. · Contracts: the program's words that a play forms and a lexicon does not have; its WrongWords. Go's tables of unicode and unicode/utf8 hold what is laid (CEnv). -/
import Derived.Test.YtbdmjcndlnodnaaGreatDoorLex
import Derived.Test.YtbdmjcndlnodnaaGreatDoorPlaD
import Derived.Test.YtbdmjcndlnodnaaGreatDoorPlbH
namespace Go.Proofs.YtbdmjcndlnodnaaGreatDoor
open Go.ChangeShapes Go.WideShapes Go.ChangeAt Go.RowKit Go.Sort

end Go.Proofs.YtbdmjcndlnodnaaGreatDoor

namespace Go.Proofs.YtbdmjcndlnodnaaGreatDoor
open Go.ChangeShapes Go.WideShapes Go.ChangeAt Go.RowKit Go.Sort

end Go.Proofs.YtbdmjcndlnodnaaGreatDoor

namespace Go.Proofs.YtbdmjcndlnodnaaGreatDoor
open Go.ChangeShapes Go.WideShapes Go.ChangeAt Go.RowKit Go.Sort

end Go.Proofs.YtbdmjcndlnodnaaGreatDoor
