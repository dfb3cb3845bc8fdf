/- FnExactMakeGame: what the row's and the card's checks read of the closed program. No condition. -/
import Derived.Test.YtgphkffbbmmmmaaGreatDoorDoor
import Derived.Test.YtgphkffbbmmmmaaGreatDoorRows
import Derived.Test.YtgphkffbbmmmmaaGreatDoorCards
import Derived.Test.YtgphkffbbmmmmaaGreatDoorTie
import Derived.Stop.Joined
import Derived.LaidMore
import Derived.Stop.LaidErr
import Derived.MakeChecks
import Derived.SevenTiedAt
import Derived.HandedShaped
import Derived.Lib.LaidU8
namespace Go.Proofs.YtgphkffbbmmmmaaGreatDoor
open Go.ChangeShapes Go.WideShapes Go.ChangeAt Go.RowKit Go.Sort Go.Joins Go.Deep
open Go.ChangeMaps (open_string shut_string)

theorem makeGame_k1:(Rows.fnExactMakeGameRow.inPlace == Tryz.prog.inPlace 3)=true:=by kernel_rfl
theorem makeGame_k2:(Rows.fnExactMakeGameRow.unfollowed == Tryz.prog.unfollowed 3)=true:=by kernel_rfl
theorem makeGame_k3:(Rows.fnExactMakeGameRow.recurses == Tryz.prog.recurses 3)=true:=by kernel_rfl
theorem makeGame_k4:(Rows.fnExactMakeGameRow.named == Tryz.prog.varsNamed 3)=true:=by kernel_rfl
theorem makeGame_joined:joinedFacts Tryz.prog 3 Tryz.f3 Rows.fnExactMakeGameSpec Rows.fnExactMakeGameRow=true:=by
 unfold joinedFacts
 rw [makeGame_k1,makeGame_k2,makeGame_k3,makeGame_k4]
 kernel_rfl
theorem makeGame_c1:Rows.fnExactMakeGameRow.wfByText (OpenSpec.ofChange Rows.fnExactMakeGameSpec)=true:=by kernel_rfl
theorem makeGame_c2:Tryz.prog.mainIs=some (true,("62d2743cea4cef7294f16ecf61f517502b45cc5dde567a309c73d500b4134e95" : String).toList):=by kernel_rfl
theorem makeGame_c3:true=Tryz.prog.looks []:=by kernel_rfl
theorem makeGame_c4:false=Rows.fnExactMakeGameRow.goesBy Tryz.prog:=by kernel_rfl
end Go.Proofs.YtgphkffbbmmmmaaGreatDoor
