/- Contracts: the endgame of a game: the program and the reference. Go's tables of unicode and unicode/utf8 hold what is laid (CEnv), internal/bytealg's MaxLen a number (EnvL); texts fit. -/
import Derived.Test.YtkjhapbjdjcipaaGreatDoorGfP
namespace Go.Proofs.YtkjhapbjdjcipaaGreatDoor
open Go.ChangeShapes Go.WideShapes Go.ChangeAt Go.RowKit Go.Sort

/-- the code of a game in which a turn is to be made -/
def Gam.code (x:Gam):Int:=if x.ok=false then 1 else if x.over=true then 10 else 0
theorem ret_one {w w':World} {c a:Int} {e:Ending} (h:c=a) (he:e=.returned (.int .i64 a)) (hb:Below w.heap.size w w'):e=.returned (.int .i64 c)∧Below w.heap.size w w':=by
 rw [h]
 exact ⟨he,hb⟩
end Go.Proofs.YtkjhapbjdjcipaaGreatDoor
