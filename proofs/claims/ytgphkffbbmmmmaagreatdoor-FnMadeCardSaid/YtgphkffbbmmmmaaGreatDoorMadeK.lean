/- FnMade: what the row's and the card's checks read of the closed program. No condition. -/
import Derived.Test.YtgphkffbbmmmmaaGreatDoorDoor
import Derived.Test.YtgphkffbbmmmmaaGreatDoorRows
import Derived.Test.YtgphkffbbmmmmaaGreatDoorCards
import Derived.Test.YtgphkffbbmmmmaaGreatDoorTie
import Derived.Stop.Joined
import Derived.LaidMore
import Derived.Stop.LaidErr
import Derived.MakeChecks
import Derived.SevenTiedAt
import Derived.HandedShaped
import Derived.Lib.LaidU8
namespace Go.Proofs.YtgphkffbbmmmmaaGreatDoor
open Go.ChangeShapes Go.WideShapes Go.ChangeAt Go.RowKit Go.Sort Go.Joins Go.Deep
open Go.ChangeMaps (open_string shut_string)

theorem made_k1:(Rows.fnMadeRow.inPlace == Tryz.prog.inPlace 5)=true:=by kernel_rfl
theorem made_k2:(Rows.fnMadeRow.unfollowed == Tryz.prog.unfollowed 5)=true:=by kernel_rfl
theorem made_k3:(Rows.fnMadeRow.recurses == Tryz.prog.recurses 5)=true:=by kernel_rfl
theorem made_k4:(Rows.fnMadeRow.named == Tryz.prog.varsNamed 5)=true:=by kernel_rfl
theorem made_joined:joinedFacts Tryz.prog 5 Tryz.f5 Rows.fnMadeSpec Rows.fnMadeRow=true:=by
 unfold joinedFacts
 rw [made_k1,made_k2,made_k3,made_k4]
 kernel_rfl
theorem made_c1:Rows.fnMadeRow.wfByText (OpenSpec.ofChange Rows.fnMadeSpec)=true:=by kernel_rfl
theorem made_c2:Tryz.prog.mainIs=some (true,("62d2743cea4cef7294f16ecf61f517502b45cc5dde567a309c73d500b4134e95" : String).toList):=by kernel_rfl
theorem made_c3:true=Tryz.prog.looks []:=by kernel_rfl
theorem made_c4:false=Rows.fnMadeRow.goesBy Tryz.prog:=by kernel_rfl
end Go.Proofs.YtgphkffbbmmmmaaGreatDoor
