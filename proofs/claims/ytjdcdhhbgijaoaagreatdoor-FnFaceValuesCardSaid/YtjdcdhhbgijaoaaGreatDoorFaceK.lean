/- FnFaceValues: what the row's and the card's checks read of the closed program. No condition. -/
import Derived.Test.YtjdcdhhbgijaoaaGreatDoorDoor
import Derived.Test.YtjdcdhhbgijaoaaGreatDoorRows
import Derived.Test.YtjdcdhhbgijaoaaGreatDoorCards
import Derived.Test.YtjdcdhhbgijaoaaGreatDoorTie
import Derived.Stop.Joined
import Derived.LaidMore
import Derived.Stop.LaidErr
import Derived.MakeChecks
import Derived.SevenTiedAt
import Derived.HandedShaped
import Derived.Lib.LaidU8
namespace Go.Proofs.YtjdcdhhbgijaoaaGreatDoor
open Go.ChangeShapes Go.WideShapes Go.ChangeAt Go.RowKit Go.Sort Go.Joins Go.Deep
open Go.ChangeMaps (open_string shut_string)

theorem faceValues_k1 : (Rows.fnFaceValuesRow.inPlace == Tryz.prog.inPlace 5) = true := by kernel_rfl
theorem faceValues_k2 : (Rows.fnFaceValuesRow.unfollowed == Tryz.prog.unfollowed 5) = true := by kernel_rfl
theorem faceValues_k3 : (Rows.fnFaceValuesRow.recurses == Tryz.prog.recurses 5) = true := by kernel_rfl
theorem faceValues_k4 : (Rows.fnFaceValuesRow.named == Tryz.prog.varsNamed 5) = true := by kernel_rfl
theorem faceValues_joined : joinedFacts Tryz.prog 5 Tryz.f5 Rows.fnFaceValuesSpec Rows.fnFaceValuesRow = true := by
  unfold joinedFacts
  rw [faceValues_k1, faceValues_k2, faceValues_k3, faceValues_k4]
  kernel_rfl
theorem faceValues_c1 : Rows.fnFaceValuesRow.wfByText (OpenSpec.ofChange Rows.fnFaceValuesSpec) = true := by kernel_rfl
theorem faceValues_c2 : Tryz.prog.mainIs = some (true, ("7a554f35fac1f01cb40326fe4ae915f1a0695ea0bfb45fc4e78ca45fbcb614ff" : String).toList) := by kernel_rfl
theorem faceValues_c3 : true = Tryz.prog.looks [] := by kernel_rfl
theorem faceValues_c4 : false = Rows.fnFaceValuesRow.goesBy Tryz.prog := by kernel_rfl
end Go.Proofs.YtjdcdhhbgijaoaaGreatDoor
