/- FnExactValidDesk: what the row's and the card's checks read of the closed program. No condition. -/
import Derived.Test.YtalnbgcdhcnjfaaGreatDoorDoor
import Derived.Test.YtalnbgcdhcnjfaaGreatDoorRows
import Derived.Test.YtalnbgcdhcnjfaaGreatDoorCards
import Derived.Test.YtalnbgcdhcnjfaaGreatDoorTie
import Derived.Stop.Joined
import Derived.LaidMore
import Derived.Stop.LaidErr
import Derived.MakeChecks
import Derived.SevenTiedAt
import Derived.HandedShaped
import Derived.Lib.LaidU8
namespace Go.Proofs.YtalnbgcdhcnjfaaGreatDoor
open Go.ChangeShapes Go.WideShapes Go.ChangeAt Go.RowKit Go.Sort Go.Joins Go.Deep
open Go.ChangeMaps (open_string shut_string)

theorem validDesk_k1:(Rows.fnExactValidDeskRow.inPlace == Tryz.prog.inPlace 3)=true:=by kernel_rfl
theorem validDesk_k2:(Rows.fnExactValidDeskRow.unfollowed == Tryz.prog.unfollowed 3)=true:=by kernel_rfl
theorem validDesk_k3:(Rows.fnExactValidDeskRow.recurses == Tryz.prog.recurses 3)=true:=by kernel_rfl
theorem validDesk_k4:(Rows.fnExactValidDeskRow.named == Tryz.prog.varsNamed 3)=true:=by kernel_rfl
theorem validDesk_joined:joinedFacts Tryz.prog 3 Tryz.f3 Rows.fnExactValidDeskSpec Rows.fnExactValidDeskRow=true:=by
 unfold joinedFacts
 rw [validDesk_k1,validDesk_k2,validDesk_k3,validDesk_k4]
 kernel_rfl
theorem validDesk_c1:Rows.fnExactValidDeskRow.wfByText (OpenSpec.ofChange Rows.fnExactValidDeskSpec)=true:=by kernel_rfl
theorem validDesk_c2:Tryz.prog.mainIs=some (true,("3e888998b4f21148aeb96aeed0f4467f8dfffd837025662104be304321b70266" : String).toList):=by kernel_rfl
theorem validDesk_c3:false=Tryz.prog.looks []:=by kernel_rfl
theorem validDesk_c4:false=Rows.fnExactValidDeskRow.goesBy Tryz.prog:=by kernel_rfl
end Go.Proofs.YtalnbgcdhcnjfaaGreatDoor
