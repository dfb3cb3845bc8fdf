/- FnPlayOrder: what the row's and the card's checks read of the closed program. No condition. -/
import Derived.Test.YtjdcdhhbgijaoaaGreatDoorDoor
import Derived.Test.YtjdcdhhbgijaoaaGreatDoorRows
import Derived.Test.YtjdcdhhbgijaoaaGreatDoorCards
import Derived.Test.YtjdcdhhbgijaoaaGreatDoorTie
import Derived.Stop.Joined
import Derived.LaidMore
import Derived.Stop.LaidErr
import Derived.MakeChecks
import Derived.SevenTiedAt
import Derived.HandedShaped
import Derived.Lib.LaidU8
namespace Go.Proofs.YtjdcdhhbgijaoaaGreatDoor
open Go.ChangeShapes Go.WideShapes Go.ChangeAt Go.RowKit Go.Sort Go.Joins Go.Deep
open Go.ChangeMaps (open_string shut_string)

theorem playOrder_k1 : (Rows.fnPlayOrderRow.inPlace == Tryz.prog.inPlace 7) = true := by kernel_rfl
theorem playOrder_k2 : (Rows.fnPlayOrderRow.unfollowed == Tryz.prog.unfollowed 7) = true := by kernel_rfl
theorem playOrder_k3 : (Rows.fnPlayOrderRow.recurses == Tryz.prog.recurses 7) = true := by kernel_rfl
theorem playOrder_k4 : (Rows.fnPlayOrderRow.named == Tryz.prog.varsNamed 7) = true := by kernel_rfl
theorem playOrder_joined : joinedFacts Tryz.prog 7 Tryz.f7 Rows.fnPlayOrderSpec Rows.fnPlayOrderRow = true := by
  unfold joinedFacts
  rw [playOrder_k1, playOrder_k2, playOrder_k3, playOrder_k4]
  kernel_rfl
theorem playOrder_c1 : Rows.fnPlayOrderRow.wfByText (OpenSpec.ofChange Rows.fnPlayOrderSpec) = true := by kernel_rfl
theorem playOrder_c2 : Tryz.prog.mainIs = some (true, ("7a554f35fac1f01cb40326fe4ae915f1a0695ea0bfb45fc4e78ca45fbcb614ff" : String).toList) := by kernel_rfl
theorem playOrder_c3 : true = Tryz.prog.looks [] := by kernel_rfl
theorem playOrder_c4 : false = Rows.fnPlayOrderRow.goesBy Tryz.prog := by kernel_rfl
end Go.Proofs.YtjdcdhhbgijaoaaGreatDoor
