/- FnExactPassTurn: what the row's and the card's checks read of the closed program. No condition. -/
import Derived.Test.YtbdmjcndlnodnaaGreatDoorDoor
import Derived.Test.YtbdmjcndlnodnaaGreatDoorRows
import Derived.Test.YtbdmjcndlnodnaaGreatDoorCards
import Derived.Test.YtbdmjcndlnodnaaGreatDoorTie
import Derived.Stop.Joined
import Derived.LaidMore
import Derived.Stop.LaidErr
import Derived.MakeChecks
import Derived.SevenTiedAt
import Derived.HandedShaped
import Derived.Lib.LaidU8
namespace Go.Proofs.YtbdmjcndlnodnaaGreatDoor
open Go.ChangeShapes Go.WideShapes Go.ChangeAt Go.RowKit Go.Sort Go.Joins Go.Deep
open Go.ChangeMaps (open_string shut_string)

theorem passTurn_k1:(Rows.fnExactPassTurnRow.inPlace == Tryz.prog.inPlace 3)=true:=by kernel_rfl
theorem passTurn_k2:(Rows.fnExactPassTurnRow.unfollowed == Tryz.prog.unfollowed 3)=true:=by kernel_rfl
theorem passTurn_k3:(Rows.fnExactPassTurnRow.recurses == Tryz.prog.recurses 3)=true:=by kernel_rfl
theorem passTurn_k4:(Rows.fnExactPassTurnRow.named == Tryz.prog.varsNamed 3)=true:=by kernel_rfl
theorem passTurn_joined:joinedFacts Tryz.prog 3 Tryz.f3 Rows.fnExactPassTurnSpec Rows.fnExactPassTurnRow=true:=by
 unfold joinedFacts
 rw [passTurn_k1,passTurn_k2,passTurn_k3,passTurn_k4]
 kernel_rfl
theorem passTurn_c1:Rows.fnExactPassTurnRow.wfByText (OpenSpec.ofChange Rows.fnExactPassTurnSpec)=true:=by kernel_rfl
theorem passTurn_c2:Tryz.prog.mainIs=some (true,("76eb26718595bfba59d0b343b76334c6b810f558baf63bbb5cefbc24dd94ef45" : String).toList):=by kernel_rfl
theorem passTurn_c3:false=Tryz.prog.looks []:=by kernel_rfl
theorem passTurn_c4:false=Rows.fnExactPassTurnRow.goesBy Tryz.prog:=by kernel_rfl
end Go.Proofs.YtbdmjcndlnodnaaGreatDoor
