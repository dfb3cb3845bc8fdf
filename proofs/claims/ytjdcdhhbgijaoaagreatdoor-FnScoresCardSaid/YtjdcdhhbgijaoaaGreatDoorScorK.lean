/- FnScores: what the row's and the card's checks read of the closed program. No condition. -/
import Derived.Test.YtjdcdhhbgijaoaaGreatDoorDoor
import Derived.Test.YtjdcdhhbgijaoaaGreatDoorRows
import Derived.Test.YtjdcdhhbgijaoaaGreatDoorCards
import Derived.Test.YtjdcdhhbgijaoaaGreatDoorTie
import Derived.Stop.Joined
import Derived.LaidMore
import Derived.Stop.LaidErr
import Derived.MakeChecks
import Derived.SevenTiedAt
import Derived.HandedShaped
import Derived.Lib.LaidU8
namespace Go.Proofs.YtjdcdhhbgijaoaaGreatDoor
open Go.ChangeShapes Go.WideShapes Go.ChangeAt Go.RowKit Go.Sort Go.Joins Go.Deep
open Go.ChangeMaps (open_string shut_string)

theorem scores_k1 : (Rows.fnScoresRow.inPlace == Tryz.prog.inPlace 4) = true := by kernel_rfl
theorem scores_k2 : (Rows.fnScoresRow.unfollowed == Tryz.prog.unfollowed 4) = true := by kernel_rfl
theorem scores_k3 : (Rows.fnScoresRow.recurses == Tryz.prog.recurses 4) = true := by kernel_rfl
theorem scores_k4 : (Rows.fnScoresRow.named == Tryz.prog.varsNamed 4) = true := by kernel_rfl
theorem scores_joined : joinedFacts Tryz.prog 4 Tryz.f4 Rows.fnScoresSpec Rows.fnScoresRow = true := by
  unfold joinedFacts
  rw [scores_k1, scores_k2, scores_k3, scores_k4]
  kernel_rfl
theorem scores_c1 : Rows.fnScoresRow.wfByText (OpenSpec.ofChange Rows.fnScoresSpec) = true := by kernel_rfl
theorem scores_c2 : Tryz.prog.mainIs = some (true, ("7a554f35fac1f01cb40326fe4ae915f1a0695ea0bfb45fc4e78ca45fbcb614ff" : String).toList) := by kernel_rfl
theorem scores_c3 : true = Tryz.prog.looks [] := by kernel_rfl
theorem scores_c4 : false = Rows.fnScoresRow.goesBy Tryz.prog := by kernel_rfl
end Go.Proofs.YtjdcdhhbgijaoaaGreatDoor
