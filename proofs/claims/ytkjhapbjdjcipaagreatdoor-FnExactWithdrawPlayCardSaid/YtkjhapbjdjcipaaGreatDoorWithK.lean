/- FnExactWithdrawPlay: what the row's and the card's checks read of the closed program. No condition. -/
import Derived.Test.YtkjhapbjdjcipaaGreatDoorDoor
import Derived.Test.YtkjhapbjdjcipaaGreatDoorRows
import Derived.Test.YtkjhapbjdjcipaaGreatDoorCards
import Derived.Test.YtkjhapbjdjcipaaGreatDoorTie
import Derived.Stop.Joined
import Derived.LaidMore
import Derived.Stop.LaidErr
import Derived.MakeChecks
import Derived.SevenTiedAt
import Derived.HandedShaped
import Derived.Lib.LaidU8
namespace Go.Proofs.YtkjhapbjdjcipaaGreatDoor
open Go.ChangeShapes Go.WideShapes Go.ChangeAt Go.RowKit Go.Sort Go.Joins Go.Deep
open Go.ChangeMaps (open_string shut_string)

theorem withdrawPlay_k1:(Rows.fnExactWithdrawPlayRow.inPlace == Tryz.prog.inPlace 4)=true:=by kernel_rfl
theorem withdrawPlay_k2:(Rows.fnExactWithdrawPlayRow.unfollowed == Tryz.prog.unfollowed 4)=true:=by kernel_rfl
theorem withdrawPlay_k3:(Rows.fnExactWithdrawPlayRow.recurses == Tryz.prog.recurses 4)=true:=by kernel_rfl
theorem withdrawPlay_k4:(Rows.fnExactWithdrawPlayRow.named == Tryz.prog.varsNamed 4)=true:=by kernel_rfl
theorem withdrawPlay_joined:joinedFacts Tryz.prog 4 Tryz.f4 Rows.fnExactWithdrawPlaySpec Rows.fnExactWithdrawPlayRow=true:=by
 unfold joinedFacts
 rw [withdrawPlay_k1,withdrawPlay_k2,withdrawPlay_k3,withdrawPlay_k4]
 kernel_rfl
theorem withdrawPlay_c1:Rows.fnExactWithdrawPlayRow.wfByText (OpenSpec.ofChange Rows.fnExactWithdrawPlaySpec)=true:=by kernel_rfl
theorem withdrawPlay_c2:Tryz.prog.mainIs=some (true,("7204380b3b2b3b9e4acdcc7beb6b54e43d762c7143885885bd534cbdf96c5f01" : String).toList):=by kernel_rfl
theorem withdrawPlay_c3:false=Tryz.prog.looks []:=by kernel_rfl
theorem withdrawPlay_c4:false=Rows.fnExactWithdrawPlayRow.goesBy Tryz.prog:=by kernel_rfl
end Go.Proofs.YtkjhapbjdjcipaaGreatDoor
