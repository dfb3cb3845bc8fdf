/- FnExactGameLines: the lines of a game: the program and the reference alike. -/
import Derived.Test.YtkjhapbjdjcipaaGreatDoorLinsK
import Derived.Test.YtkjhapbjdjcipaaGreatDoorSLins
import Derived.Test.YtkjhapbjdjcipaaGreatDoorRows
import Derived.Test.YtkjhapbjdjcipaaGreatDoorCards
import Derived.Test.YtkjhapbjdjcipaaGreatDoorTie
import Derived.Test.YtkjhapbjdjcipaaGreatDoorDoorS
import Derived.Test.YtkjhapbjdjcipaaGreatDoorDoor
import Derived.Stop.Joined
import Derived.LaidMore
import Derived.Stop.LaidErr
import Derived.MakeChecks
import Derived.SevenTiedAt
import Derived.HandedShaped
import Derived.Lib.LaidU8
namespace Go.Proofs.YtkjhapbjdjcipaaGreatDoor
open Go.ChangeShapes Go.WideShapes Go.ChangeAt Go.RowKit Go.Sort Go.Joins Go.Deep
open Go.ChangeMaps (open_string shut_string)

theorem gameLines_row:Rows.FnExactGameLinesSaid :=
 OpenClaim.holds_of_wide 6 Tryz.f6 rfl rfl rfl rfl rfl rfl rfl ⟨rfl,rfl,rfl,rfl,rfl⟩ rfl rfl rfl rfl rfl (by kernel_rfl) Tryz.func6 gameLines_joined
  (of_decide_eq_true (by kernel_rfl)) (by unfold Func.isWrapper;first | (rw [if_pos (by decide +kernel)];kernel_rfl) | (rw [if_neg (by decide +kernel)];exact ⟨rfl,rfl⟩))
  (fun os started H enc _=>lifted_GameLines os started H enc)
/-- The tied card. -/
theorem gameLines_holds:Rows.FnExactGameLinesCardSaid :=
 Claim7.holds_tied_plain_at .later [] [.data,.data,.data,.data,.pinned,.pinned] true (true, "7204380b3b2b3b9e4acdcc7beb6b54e43d762c7143885885bd534cbdf96c5f01") false
  gameLines_row (fun _ h=>by cases h) gameLines_c1 (fun _ h=>by cases h) fnExactGameLines_row_tie rfl ⟨rfl,rfl⟩ gameLines_c2 rfl
  (fun f fn hf hfn=>by
   obtain rfl:f=6:=Option.some.inj ((show Tryz.prog.funcNamed "loop.example/g00911/laws.FnExactGameLines" = some 6 by kernel_rfl).symm.trans hf) |>.symm
   obtain rfl:fn=Tryz.f6:=(Option.some.inj (Tryz.func6.symm.trans hfn)).symm
   exact ⟨gameLines_c3,fun j t ht=>by
    rw [Tryz.params6] at ht
    have h3:t=37:=by
     rcases j with _ | j
     ·exact by simpa using ht.symm
     simp at ht
    rcases h3 with rfl
    exact (show Tryz.prog.wantsStandIn 37=false by kernel_rfl)⟩)
  gameLines_c4
end Go.Proofs.YtkjhapbjdjcipaaGreatDoor
