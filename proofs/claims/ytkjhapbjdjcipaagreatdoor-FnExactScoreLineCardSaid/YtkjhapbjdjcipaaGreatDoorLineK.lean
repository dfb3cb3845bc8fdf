/- FnExactScoreLine: what the row's and the card's checks read of the closed program. No condition. -/
import Derived.Test.YtkjhapbjdjcipaaGreatDoorDoor
import Derived.Test.YtkjhapbjdjcipaaGreatDoorRows
import Derived.Test.YtkjhapbjdjcipaaGreatDoorCards
import Derived.Test.YtkjhapbjdjcipaaGreatDoorTie
import Derived.Stop.Joined
import Derived.LaidMore
import Derived.Stop.LaidErr
import Derived.MakeChecks
import Derived.SevenTiedAt
import Derived.HandedShaped
import Derived.Lib.LaidU8
namespace Go.Proofs.YtkjhapbjdjcipaaGreatDoor
open Go.ChangeShapes Go.WideShapes Go.ChangeAt Go.RowKit Go.Sort Go.Joins Go.Deep
open Go.ChangeMaps (open_string shut_string)

theorem scoreLine_k1:(Rows.fnExactScoreLineRow.inPlace == Tryz.prog.inPlace 5)=true:=by kernel_rfl
theorem scoreLine_k2:(Rows.fnExactScoreLineRow.unfollowed == Tryz.prog.unfollowed 5)=true:=by kernel_rfl
theorem scoreLine_k3:(Rows.fnExactScoreLineRow.recurses == Tryz.prog.recurses 5)=true:=by kernel_rfl
theorem scoreLine_k4:(Rows.fnExactScoreLineRow.named == Tryz.prog.varsNamed 5)=true:=by kernel_rfl
theorem scoreLine_joined:joinedFacts Tryz.prog 5 Tryz.f5 Rows.fnExactScoreLineSpec Rows.fnExactScoreLineRow=true:=by
 unfold joinedFacts
 rw [scoreLine_k1,scoreLine_k2,scoreLine_k3,scoreLine_k4]
 kernel_rfl
theorem scoreLine_c1:Rows.fnExactScoreLineRow.wfByText (OpenSpec.ofChange Rows.fnExactScoreLineSpec)=true:=by kernel_rfl
theorem scoreLine_c2:Tryz.prog.mainIs=some (true,("7204380b3b2b3b9e4acdcc7beb6b54e43d762c7143885885bd534cbdf96c5f01" : String).toList):=by kernel_rfl
theorem scoreLine_c3:false=Tryz.prog.looks []:=by kernel_rfl
theorem scoreLine_c4:false=Rows.fnExactScoreLineRow.goesBy Tryz.prog:=by kernel_rfl
end Go.Proofs.YtkjhapbjdjcipaaGreatDoor
