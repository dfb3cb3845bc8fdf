/- From the row's cell 'laid' to Go's tables and strconv's two errors (Env); the door's world meets it. No other condition. -/
import Derived.Test.YtlbnjdgfggiifaaGreatDoorDoorM
namespace Go.Proofs.YtlbnjdgfggiifaaGreatDoor
open Go.ChangeShapes Go.WideShapes Go.ChangeAt Go.RowKit Go.Sort Go.Joins Go.Deep Go.Lib

theorem env_Ct {W : World} (hsh : W.ShapedOpen Tryz.prog) (h : laidMetH Tryz.prog Rows.fnClubTextsRow.laid W) : Env W := by
  rw [MakeChecks.laidMetH_plain _ _ _ (by kernel_rfl)] at h
  exact env_of_met [("unicode/utf8.first", Rows.laid_unicode_utf8_first)] hsh h
theorem door_Ct_met (os : Os) (args : Array Value) : laidMetH Tryz.prog Rows.fnClubTextsRow.laid ((doorFirst os).forCall (fun _ _ => 0) ⟨#[], args, []⟩).memory :=
  laidMetH_of_parts3 (fuel := 8) (door_seven os args) (by kernel_rfl) (by kernel_rfl)
end Go.Proofs.YtlbnjdgfggiifaaGreatDoor
