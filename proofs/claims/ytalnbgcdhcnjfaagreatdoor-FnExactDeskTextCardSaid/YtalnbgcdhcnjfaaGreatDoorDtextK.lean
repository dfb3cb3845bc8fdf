/- FnExactDeskText: what the row's and the card's checks read of the closed program. No condition. -/
import Derived.Test.YtalnbgcdhcnjfaaGreatDoorDoor
import Derived.Test.YtalnbgcdhcnjfaaGreatDoorRows
import Derived.Test.YtalnbgcdhcnjfaaGreatDoorCards
import Derived.Test.YtalnbgcdhcnjfaaGreatDoorTie
import Derived.Stop.Joined
import Derived.LaidMore
import Derived.Stop.LaidErr
import Derived.MakeChecks
import Derived.SevenTiedAt
import Derived.HandedShaped
import Derived.Lib.LaidU8
namespace Go.Proofs.YtalnbgcdhcnjfaaGreatDoor
open Go.ChangeShapes Go.WideShapes Go.ChangeAt Go.RowKit Go.Sort Go.Joins Go.Deep
open Go.ChangeMaps (open_string shut_string)

theorem deskText_k1:(Rows.fnExactDeskTextRow.inPlace == Tryz.prog.inPlace 4)=true:=by kernel_rfl
theorem deskText_k2:(Rows.fnExactDeskTextRow.unfollowed == Tryz.prog.unfollowed 4)=true:=by kernel_rfl
theorem deskText_k3:(Rows.fnExactDeskTextRow.recurses == Tryz.prog.recurses 4)=true:=by kernel_rfl
theorem deskText_k4:(Rows.fnExactDeskTextRow.named == Tryz.prog.varsNamed 4)=true:=by kernel_rfl
theorem deskText_joined:joinedFacts Tryz.prog 4 Tryz.f4 Rows.fnExactDeskTextSpec Rows.fnExactDeskTextRow=true:=by
 unfold joinedFacts
 rw [deskText_k1,deskText_k2,deskText_k3,deskText_k4]
 kernel_rfl
theorem deskText_c1:Rows.fnExactDeskTextRow.wfByText (OpenSpec.ofChange Rows.fnExactDeskTextSpec)=true:=by kernel_rfl
theorem deskText_c2:Tryz.prog.mainIs=some (true,("3e888998b4f21148aeb96aeed0f4467f8dfffd837025662104be304321b70266" : String).toList):=by kernel_rfl
theorem deskText_c3:false=Tryz.prog.looks []:=by kernel_rfl
theorem deskText_c4:false=Rows.fnExactDeskTextRow.goesBy Tryz.prog:=by kernel_rfl
end Go.Proofs.YtalnbgcdhcnjfaaGreatDoor
