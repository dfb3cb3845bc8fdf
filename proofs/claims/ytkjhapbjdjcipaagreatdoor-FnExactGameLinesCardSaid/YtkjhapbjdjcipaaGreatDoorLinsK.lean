/- FnExactGameLines: what the row's and the card's checks read of the closed program. No condition. -/
import Derived.Test.YtkjhapbjdjcipaaGreatDoorDoor
import Derived.Test.YtkjhapbjdjcipaaGreatDoorRows
import Derived.Test.YtkjhapbjdjcipaaGreatDoorCards
import Derived.Test.YtkjhapbjdjcipaaGreatDoorTie
import Derived.Stop.Joined
import Derived.LaidMore
import Derived.Stop.LaidErr
import Derived.MakeChecks
import Derived.SevenTiedAt
import Derived.HandedShaped
import Derived.Lib.LaidU8
namespace Go.Proofs.YtkjhapbjdjcipaaGreatDoor
open Go.ChangeShapes Go.WideShapes Go.ChangeAt Go.RowKit Go.Sort Go.Joins Go.Deep
open Go.ChangeMaps (open_string shut_string)

theorem gameLines_k1:(Rows.fnExactGameLinesRow.inPlace == Tryz.prog.inPlace 6)=true:=by kernel_rfl
theorem gameLines_k2:(Rows.fnExactGameLinesRow.unfollowed == Tryz.prog.unfollowed 6)=true:=by kernel_rfl
theorem gameLines_k3:(Rows.fnExactGameLinesRow.recurses == Tryz.prog.recurses 6)=true:=by kernel_rfl
theorem gameLines_k4:(Rows.fnExactGameLinesRow.named == Tryz.prog.varsNamed 6)=true:=by kernel_rfl
theorem gameLines_joined:joinedFacts Tryz.prog 6 Tryz.f6 Rows.fnExactGameLinesSpec Rows.fnExactGameLinesRow=true:=by
 unfold joinedFacts
 rw [gameLines_k1,gameLines_k2,gameLines_k3,gameLines_k4]
 kernel_rfl
theorem gameLines_c1:Rows.fnExactGameLinesRow.wfByText (OpenSpec.ofChange Rows.fnExactGameLinesSpec)=true:=by kernel_rfl
theorem gameLines_c2:Tryz.prog.mainIs=some (true,("7204380b3b2b3b9e4acdcc7beb6b54e43d762c7143885885bd534cbdf96c5f01" : String).toList):=by kernel_rfl
theorem gameLines_c3:false=Tryz.prog.looks []:=by kernel_rfl
theorem gameLines_c4:false=Rows.fnExactGameLinesRow.goesBy Tryz.prog:=by kernel_rfl
end Go.Proofs.YtkjhapbjdjcipaaGreatDoor
