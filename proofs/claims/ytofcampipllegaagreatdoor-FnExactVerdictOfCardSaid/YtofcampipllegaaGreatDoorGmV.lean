/- Contracts: the winner of a game: the program and the reference. Go's tables of unicode and unicode/utf8 hold what is laid (CEnv), internal/bytealg's MaxLen a number (EnvL); texts fit. -/
import Derived.Test.YtofcampipllegaaGreatDoorGmN
namespace Go.Proofs.YtofcampipllegaaGreatDoor
open Go.ChangeShapes Go.WideShapes Go.ChangeAt Go.RowKit Go.Sort

/-- who has won, and a code -/
def Gam.winner (x : Gam) : Int × Int := if x.ok = false then (0, 1) else if x.over = false then (0, 6) else if x.scores.getD 1 0 < x.scores.getD 0 0 then (0, 0) else if x.scores.getD 0 0 < x.scores.getD 1 0 then (1, 0) else (-1, 0)
end Go.Proofs.YtofcampipllegaaGreatDoor
