/- FnPlays: what the row's and the card's checks read of the closed program. No condition. -/
import Derived.Test.YtjdcdhhbgijaoaaGreatDoorDoor
import Derived.Test.YtjdcdhhbgijaoaaGreatDoorRows
import Derived.Test.YtjdcdhhbgijaoaaGreatDoorCards
import Derived.Test.YtjdcdhhbgijaoaaGreatDoorTie
import Derived.Stop.Joined
import Derived.LaidMore
import Derived.Stop.LaidErr
import Derived.MakeChecks
import Derived.SevenTiedAt
import Derived.HandedShaped
import Derived.Lib.LaidU8
namespace Go.Proofs.YtjdcdhhbgijaoaaGreatDoor
open Go.ChangeShapes Go.WideShapes Go.ChangeAt Go.RowKit Go.Sort Go.Joins Go.Deep
open Go.ChangeMaps (open_string shut_string)

theorem plays_k1 : (Rows.fnPlaysRow.inPlace == Tryz.prog.inPlace 6) = true := by kernel_rfl
theorem plays_k2 : (Rows.fnPlaysRow.unfollowed == Tryz.prog.unfollowed 6) = true := by kernel_rfl
theorem plays_k3 : (Rows.fnPlaysRow.recurses == Tryz.prog.recurses 6) = true := by kernel_rfl
theorem plays_k4 : (Rows.fnPlaysRow.named == Tryz.prog.varsNamed 6) = true := by kernel_rfl
theorem plays_joined : joinedFacts Tryz.prog 6 Tryz.f6 Rows.fnPlaysSpec Rows.fnPlaysRow = true := by
  unfold joinedFacts
  rw [plays_k1, plays_k2, plays_k3, plays_k4]
  kernel_rfl
theorem plays_c1 : Rows.fnPlaysRow.wfByText (OpenSpec.ofChange Rows.fnPlaysSpec) = true := by kernel_rfl
theorem plays_c2 : Tryz.prog.mainIs = some (true, ("7a554f35fac1f01cb40326fe4ae915f1a0695ea0bfb45fc4e78ca45fbcb614ff" : String).toList) := by kernel_rfl
theorem plays_c3 : true = Tryz.prog.looks [] := by kernel_rfl
theorem plays_c4 : false = Rows.fnPlaysRow.goesBy Tryz.prog := by kernel_rfl
end Go.Proofs.YtjdcdhhbgijaoaaGreatDoor
