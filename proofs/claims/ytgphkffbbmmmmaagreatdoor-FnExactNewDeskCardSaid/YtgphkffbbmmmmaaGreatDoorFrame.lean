/- How an argument that is read as data lies in memory: structs by value, slices of structs. No condition. -/
import Derived.Test.YtgphkffbbmmmmaaGreatDoorBase
import Derived.Lib.SmallJoins
import Derived.Deep.Slices
import Derived.Deep.Fields
import Derived.ShutString
import Derived.ChangeOld
import Derived.ChangeSame
namespace Go.Proofs.YtgphkffbbmmmmaaGreatDoor
open Go.ChangeShapes Go.WideShapes Go.ChangeAt Go.RowKit Go.Sort Go.Joins Go.Deep

section
variable {H:Type} {ec:TypeId × Value→H} {P:Program} {w:World} {base:Nat} {spare:Nat→Bool} {held:Bool}
end
end Go.Proofs.YtgphkffbbmmmmaaGreatDoor
