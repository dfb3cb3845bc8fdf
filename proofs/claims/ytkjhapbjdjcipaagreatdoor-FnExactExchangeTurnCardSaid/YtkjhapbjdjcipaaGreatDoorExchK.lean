/- FnExactExchangeTurn: what the row's and the card's checks read of the closed program. No condition. -/
import Derived.Test.YtkjhapbjdjcipaaGreatDoorDoor
import Derived.Test.YtkjhapbjdjcipaaGreatDoorRows
import Derived.Test.YtkjhapbjdjcipaaGreatDoorCards
import Derived.Test.YtkjhapbjdjcipaaGreatDoorTie
import Derived.Stop.Joined
import Derived.LaidMore
import Derived.Stop.LaidErr
import Derived.MakeChecks
import Derived.SevenTiedAt
import Derived.HandedShaped
import Derived.Lib.LaidU8
namespace Go.Proofs.YtkjhapbjdjcipaaGreatDoor
open Go.ChangeShapes Go.WideShapes Go.ChangeAt Go.RowKit Go.Sort Go.Joins Go.Deep
open Go.ChangeMaps (open_string shut_string)

theorem exchangeTurn_k1:(Rows.fnExactExchangeTurnRow.inPlace == Tryz.prog.inPlace 3)=true:=by kernel_rfl
theorem exchangeTurn_k2:(Rows.fnExactExchangeTurnRow.unfollowed == Tryz.prog.unfollowed 3)=true:=by kernel_rfl
theorem exchangeTurn_k3:(Rows.fnExactExchangeTurnRow.recurses == Tryz.prog.recurses 3)=true:=by kernel_rfl
theorem exchangeTurn_k4:(Rows.fnExactExchangeTurnRow.named == Tryz.prog.varsNamed 3)=true:=by kernel_rfl
theorem exchangeTurn_joined:joinedFacts Tryz.prog 3 Tryz.f3 Rows.fnExactExchangeTurnSpec Rows.fnExactExchangeTurnRow=true:=by
 unfold joinedFacts
 rw [exchangeTurn_k1,exchangeTurn_k2,exchangeTurn_k3,exchangeTurn_k4]
 kernel_rfl
theorem exchangeTurn_c1:Rows.fnExactExchangeTurnRow.wfByText (OpenSpec.ofChange Rows.fnExactExchangeTurnSpec)=true:=by kernel_rfl
theorem exchangeTurn_c2:Tryz.prog.mainIs=some (true,("7204380b3b2b3b9e4acdcc7beb6b54e43d762c7143885885bd534cbdf96c5f01" : String).toList):=by kernel_rfl
theorem exchangeTurn_c3:false=Tryz.prog.looks []:=by kernel_rfl
theorem exchangeTurn_c4:false=Rows.fnExactExchangeTurnRow.goesBy Tryz.prog:=by kernel_rfl
end Go.Proofs.YtkjhapbjdjcipaaGreatDoor
