/- Contracts: the reference's test of the last play of a game, and of games. No condition but that lengths fit an int. -/
import Derived.Test.YtgphkffbbmmmmaaGreatDoorGmG
namespace Go.Proofs.YtgphkffbbmmmmaaGreatDoor
open Go.ChangeShapes Go.WideShapes Go.ChangeAt Go.RowKit Go.Sort

/-- what a game must be for its last play to be looked at -/
structure Gam.Sided (x:Gam):Prop where
 tiles:x.setup.tiles.ok=true
 p0:0≤x.player
 p1:x.player≤1
 racks:x.racks.length=2
 rack:∀ k,k < 2→rackOk (x.rack k).data.toList=true
end Go.Proofs.YtgphkffbbmmmmaaGreatDoor
