/- FnTransposedPlays: what the row's and the card's checks read of the closed program. No condition. -/
import Derived.Test.YtjdcdhhbgijaoaaGreatDoorDoor
import Derived.Test.YtjdcdhhbgijaoaaGreatDoorRows
import Derived.Test.YtjdcdhhbgijaoaaGreatDoorCards
import Derived.Test.YtjdcdhhbgijaoaaGreatDoorTie
import Derived.Stop.Joined
import Derived.LaidMore
import Derived.Stop.LaidErr
import Derived.MakeChecks
import Derived.SevenTiedAt
import Derived.HandedShaped
import Derived.Lib.LaidU8
namespace Go.Proofs.YtjdcdhhbgijaoaaGreatDoor
open Go.ChangeShapes Go.WideShapes Go.ChangeAt Go.RowKit Go.Sort Go.Joins Go.Deep
open Go.ChangeMaps (open_string shut_string)

theorem transposedPlays_k1 : (Rows.fnTransposedPlaysRow.inPlace == Tryz.prog.inPlace 3) = true := by kernel_rfl
theorem transposedPlays_k2 : (Rows.fnTransposedPlaysRow.unfollowed == Tryz.prog.unfollowed 3) = true := by kernel_rfl
theorem transposedPlays_k3 : (Rows.fnTransposedPlaysRow.recurses == Tryz.prog.recurses 3) = true := by kernel_rfl
theorem transposedPlays_k4 : (Rows.fnTransposedPlaysRow.named == Tryz.prog.varsNamed 3) = true := by kernel_rfl
theorem transposedPlays_joined : joinedFacts Tryz.prog 3 Tryz.f3 Rows.fnTransposedPlaysSpec Rows.fnTransposedPlaysRow = true := by
  unfold joinedFacts
  rw [transposedPlays_k1, transposedPlays_k2, transposedPlays_k3, transposedPlays_k4]
  kernel_rfl
theorem transposedPlays_c1 : Rows.fnTransposedPlaysRow.wfByText (OpenSpec.ofChange Rows.fnTransposedPlaysSpec) = true := by kernel_rfl
theorem transposedPlays_c2 : Tryz.prog.mainIs = some (true, ("7a554f35fac1f01cb40326fe4ae915f1a0695ea0bfb45fc4e78ca45fbcb614ff" : String).toList) := by kernel_rfl
theorem transposedPlays_c3 : true = Tryz.prog.looks [] := by kernel_rfl
theorem transposedPlays_c4 : false = Rows.fnTransposedPlaysRow.goesBy Tryz.prog := by kernel_rfl
end Go.Proofs.YtjdcdhhbgijaoaaGreatDoor
