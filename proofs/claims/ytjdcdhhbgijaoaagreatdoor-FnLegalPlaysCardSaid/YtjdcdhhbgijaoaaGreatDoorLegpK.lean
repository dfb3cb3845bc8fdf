/- FnLegalPlays: what the row's and the card's checks read of the closed program. No condition. -/
import Derived.Test.YtjdcdhhbgijaoaaGreatDoorDoor
import Derived.Test.YtjdcdhhbgijaoaaGreatDoorRows
import Derived.Test.YtjdcdhhbgijaoaaGreatDoorCards
import Derived.Test.YtjdcdhhbgijaoaaGreatDoorTie
import Derived.Stop.Joined
import Derived.LaidMore
import Derived.Stop.LaidErr
import Derived.MakeChecks
import Derived.SevenTiedAt
import Derived.HandedShaped
import Derived.Lib.LaidU8
namespace Go.Proofs.YtjdcdhhbgijaoaaGreatDoor
open Go.ChangeShapes Go.WideShapes Go.ChangeAt Go.RowKit Go.Sort Go.Joins Go.Deep
open Go.ChangeMaps (open_string shut_string)

theorem legalPlays_k1 : (Rows.fnLegalPlaysRow.inPlace == Tryz.prog.inPlace 8) = true := by kernel_rfl
theorem legalPlays_k2 : (Rows.fnLegalPlaysRow.unfollowed == Tryz.prog.unfollowed 8) = true := by kernel_rfl
theorem legalPlays_k3 : (Rows.fnLegalPlaysRow.recurses == Tryz.prog.recurses 8) = true := by kernel_rfl
theorem legalPlays_k4 : (Rows.fnLegalPlaysRow.named == Tryz.prog.varsNamed 8) = true := by kernel_rfl
theorem legalPlays_joined : joinedFacts Tryz.prog 8 Tryz.f8 Rows.fnLegalPlaysSpec Rows.fnLegalPlaysRow = true := by
  unfold joinedFacts
  rw [legalPlays_k1, legalPlays_k2, legalPlays_k3, legalPlays_k4]
  kernel_rfl
theorem legalPlays_c1 : Rows.fnLegalPlaysRow.wfByText (OpenSpec.ofChange Rows.fnLegalPlaysSpec) = true := by kernel_rfl
theorem legalPlays_c2 : Tryz.prog.mainIs = some (true, ("7a554f35fac1f01cb40326fe4ae915f1a0695ea0bfb45fc4e78ca45fbcb614ff" : String).toList) := by kernel_rfl
theorem legalPlays_c3 : true = Tryz.prog.looks [] := by kernel_rfl
theorem legalPlays_c4 : false = Rows.fnLegalPlaysRow.goesBy Tryz.prog := by kernel_rfl
end Go.Proofs.YtjdcdhhbgijaoaaGreatDoor
