/- FnClubTexts: what the row's and the card's checks read of the closed program. No condition. -/
import Derived.Test.YtlbnjdgfggiifaaGreatDoorDoor
import Derived.Test.YtlbnjdgfggiifaaGreatDoorRows
import Derived.Test.YtlbnjdgfggiifaaGreatDoorCards
import Derived.Test.YtlbnjdgfggiifaaGreatDoorTie
import Derived.Stop.Joined
import Derived.LaidMore
import Derived.Stop.LaidErr
import Derived.MakeChecks
import Derived.SevenTiedAt
import Derived.HandedShaped
import Derived.Lib.LaidU8
namespace Go.Proofs.YtlbnjdgfggiifaaGreatDoor
open Go.ChangeShapes Go.WideShapes Go.ChangeAt Go.RowKit Go.Sort Go.Joins Go.Deep
open Go.ChangeMaps (open_string shut_string)

theorem clubTexts_k1 : (Rows.fnClubTextsRow.inPlace == Tryz.prog.inPlace 3) = true := by kernel_rfl
theorem clubTexts_k2 : (Rows.fnClubTextsRow.unfollowed == Tryz.prog.unfollowed 3) = true := by kernel_rfl
theorem clubTexts_k3 : (Rows.fnClubTextsRow.recurses == Tryz.prog.recurses 3) = true := by kernel_rfl
theorem clubTexts_k4 : (Rows.fnClubTextsRow.named == Tryz.prog.varsNamed 3) = true := by kernel_rfl
theorem clubTexts_joined : joinedFacts Tryz.prog 3 Tryz.f3 Rows.fnClubTextsSpec Rows.fnClubTextsRow = true := by
  unfold joinedFacts
  rw [clubTexts_k1, clubTexts_k2, clubTexts_k3, clubTexts_k4]
  kernel_rfl
theorem clubTexts_c1 : Rows.fnClubTextsRow.wfByText (OpenSpec.ofChange Rows.fnClubTextsSpec) = true := by kernel_rfl
theorem clubTexts_c2 : Tryz.prog.mainIs = some (true, ("e8a528ed5a7552b64066bb258f7ec44a9b6f7507f124a2d983e5069984ea2761" : String).toList) := by kernel_rfl
theorem clubTexts_c3 : true = Tryz.prog.looks [] := by kernel_rfl
theorem clubTexts_c4 : false = Rows.fnClubTextsRow.goesBy Tryz.prog := by kernel_rfl
end Go.Proofs.YtlbnjdgfggiifaaGreatDoor
