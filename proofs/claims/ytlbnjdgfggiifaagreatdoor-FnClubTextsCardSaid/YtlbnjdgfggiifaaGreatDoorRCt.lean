/- FnClubTexts: clubs and results are read back from their texts. -/
import Derived.Test.YtlbnjdgfggiifaaGreatDoorCtK
import Derived.Test.YtlbnjdgfggiifaaGreatDoorSCt
import Derived.Test.YtlbnjdgfggiifaaGreatDoorRows
import Derived.Test.YtlbnjdgfggiifaaGreatDoorCards
import Derived.Test.YtlbnjdgfggiifaaGreatDoorTie
import Derived.Test.YtlbnjdgfggiifaaGreatDoorLCt
import Derived.Test.YtlbnjdgfggiifaaGreatDoorDoorT
import Derived.Test.YtlbnjdgfggiifaaGreatDoorDoor
import Derived.Stop.Joined
import Derived.LaidMore
import Derived.Stop.LaidErr
import Derived.MakeChecks
import Derived.SevenTiedAt
import Derived.HandedShaped
import Derived.Lib.LaidU8
namespace Go.Proofs.YtlbnjdgfggiifaaGreatDoor
open Go.ChangeShapes Go.WideShapes Go.ChangeAt Go.RowKit Go.Sort Go.Joins Go.Deep
open Go.ChangeMaps (open_string shut_string)

theorem clubTexts_row : Rows.FnClubTextsSaid :=
  OpenClaim.holds_of_wide 3 Tryz.f3 rfl rfl rfl rfl rfl rfl rfl ⟨rfl, rfl, rfl, rfl, rfl⟩ rfl rfl rfl rfl rfl (by kernel_rfl) Tryz.func3 clubTexts_joined
    (of_decide_eq_true (by kernel_rfl)) (by unfold Func.isWrapper; first | (rw [if_pos (by decide +kernel)]; kernel_rfl) | (rw [if_neg (by decide +kernel)]; exact ⟨rfl, rfl⟩))
    (fun os started H enc _ => lifted_ClubTexts os started H enc)
/-- The tied card. -/
theorem clubTexts_holds : Rows.FnClubTextsCardSaid :=
  Claim7.holds_tied_plain_at .later [] [.data, .data, .data, .data, .sentinel, .sentinel, .pinned] true (true, "e8a528ed5a7552b64066bb258f7ec44a9b6f7507f124a2d983e5069984ea2761") true
    clubTexts_row (fun _ h => by cases h) clubTexts_c1 (fun _ h => by cases h) fnClubTexts_row_tie rfl ⟨rfl, rfl⟩ clubTexts_c2 rfl
    (fun f fn hf hfn => by
      obtain rfl : f = 3 := Option.some.inj ((show Tryz.prog.funcNamed "loop.example/g00911/laws.FnClubTexts" = some 3 by kernel_rfl).symm.trans hf) |>.symm
      obtain rfl : fn = Tryz.f3 := (Option.some.inj (Tryz.func3.symm.trans hfn)).symm
      exact ⟨clubTexts_c3, fun j t ht => by
        rw [Tryz.params3] at ht
        have h3 : t = 22 := by
          rcases j with _ | j
          · exact (by simpa using ht.symm)
          simp at ht
        rcases h3 with rfl
        exact (show Tryz.prog.wantsStandIn 22 = false by kernel_rfl)⟩)
    clubTexts_c4
end Go.Proofs.YtlbnjdgfggiifaaGreatDoor
