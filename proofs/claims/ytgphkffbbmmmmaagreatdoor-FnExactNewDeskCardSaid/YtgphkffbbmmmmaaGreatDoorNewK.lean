/- FnExactNewDesk: what the row's and the card's checks read of the closed program. No condition. -/
import Derived.Test.YtgphkffbbmmmmaaGreatDoorDoor
import Derived.Test.YtgphkffbbmmmmaaGreatDoorRows
import Derived.Test.YtgphkffbbmmmmaaGreatDoorCards
import Derived.Test.YtgphkffbbmmmmaaGreatDoorTie
import Derived.Stop.Joined
import Derived.LaidMore
import Derived.Stop.LaidErr
import Derived.MakeChecks
import Derived.SevenTiedAt
import Derived.HandedShaped
import Derived.Lib.LaidU8
namespace Go.Proofs.YtgphkffbbmmmmaaGreatDoor
open Go.ChangeShapes Go.WideShapes Go.ChangeAt Go.RowKit Go.Sort Go.Joins Go.Deep
open Go.ChangeMaps (open_string shut_string)

theorem newDesk_k1:(Rows.fnExactNewDeskRow.inPlace == Tryz.prog.inPlace 4)=true:=by kernel_rfl
theorem newDesk_k2:(Rows.fnExactNewDeskRow.unfollowed == Tryz.prog.unfollowed 4)=true:=by kernel_rfl
theorem newDesk_k3:(Rows.fnExactNewDeskRow.recurses == Tryz.prog.recurses 4)=true:=by kernel_rfl
theorem newDesk_k4:(Rows.fnExactNewDeskRow.named == Tryz.prog.varsNamed 4)=true:=by kernel_rfl
theorem newDesk_joined:joinedFacts Tryz.prog 4 Tryz.f4 Rows.fnExactNewDeskSpec Rows.fnExactNewDeskRow=true:=by
 unfold joinedFacts
 rw [newDesk_k1,newDesk_k2,newDesk_k3,newDesk_k4]
 kernel_rfl
theorem newDesk_c1:Rows.fnExactNewDeskRow.wfByText (OpenSpec.ofChange Rows.fnExactNewDeskSpec)=true:=by kernel_rfl
theorem newDesk_c2:Tryz.prog.mainIs=some (true,("62d2743cea4cef7294f16ecf61f517502b45cc5dde567a309c73d500b4134e95" : String).toList):=by kernel_rfl
theorem newDesk_c3:true=Tryz.prog.looks []:=by kernel_rfl
theorem newDesk_c4:false=Rows.fnExactNewDeskRow.goesBy Tryz.prog:=by kernel_rfl
end Go.Proofs.YtgphkffbbmmmmaaGreatDoor
