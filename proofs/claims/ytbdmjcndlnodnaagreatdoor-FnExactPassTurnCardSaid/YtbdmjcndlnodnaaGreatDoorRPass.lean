/- FnExactPassTurn: a pass: the program and the reference alike. -/
import Derived.Test.YtbdmjcndlnodnaaGreatDoorPassK
import Derived.Test.YtbdmjcndlnodnaaGreatDoorPassAll
import Derived.Test.YtbdmjcndlnodnaaGreatDoorRows
import Derived.Test.YtbdmjcndlnodnaaGreatDoorCards
import Derived.Test.YtbdmjcndlnodnaaGreatDoorTie
import Derived.Test.YtbdmjcndlnodnaaGreatDoorDoor
import Derived.Stop.Joined
import Derived.LaidMore
import Derived.Stop.LaidErr
import Derived.MakeChecks
import Derived.SevenTiedAt
import Derived.HandedShaped
import Derived.Lib.LaidU8
namespace Go.Proofs.YtbdmjcndlnodnaaGreatDoor
open Go.ChangeShapes Go.WideShapes Go.ChangeAt Go.RowKit Go.Sort Go.Joins Go.Deep
open Go.ChangeMaps (open_string shut_string)

theorem passTurn_row:Rows.FnExactPassTurnSaid :=
 OpenClaim.holds_of_wide 3 Tryz.f3 rfl rfl rfl rfl rfl rfl rfl ⟨rfl,rfl,rfl,rfl,rfl⟩ rfl rfl rfl rfl rfl (by kernel_rfl) Tryz.func3 passTurn_joined
  (of_decide_eq_true (by kernel_rfl)) (by unfold Func.isWrapper;first | (rw [if_pos (by decide +kernel)];kernel_rfl) | (rw [if_neg (by decide +kernel)];exact ⟨rfl,rfl⟩))
  (fun os started H enc _=>lifted_PassTurn os started H enc)
/-- The tied card. -/
theorem passTurn_holds:Rows.FnExactPassTurnCardSaid :=
 Claim7.holds_tied_plain_at .later [] [.data,.pinned,.pinned] true (true, "76eb26718595bfba59d0b343b76334c6b810f558baf63bbb5cefbc24dd94ef45") false
  passTurn_row (fun _ h=>by cases h) passTurn_c1 (fun _ h=>by cases h) fnExactPassTurn_row_tie rfl ⟨rfl,rfl⟩ passTurn_c2 rfl
  (fun f fn hf hfn=>by
   obtain rfl:f=3:=Option.some.inj ((show Tryz.prog.funcNamed "loop.example/g00911/laws.FnExactPassTurn" = some 3 by kernel_rfl).symm.trans hf) |>.symm
   obtain rfl:fn=Tryz.f3:=(Option.some.inj (Tryz.func3.symm.trans hfn)).symm
   exact ⟨passTurn_c3,fun j t ht=>by
    rw [Tryz.params3] at ht
    have h3:t=37∨t=2:=by
     rcases j with _ | j
     ·exact Or.inl (by simpa using ht.symm)
     rcases j with _ | j
     ·exact Or.inr (by simpa using ht.symm)
     simp at ht
    rcases h3 with rfl | rfl
    ·exact (show Tryz.prog.wantsStandIn 37=false by kernel_rfl)
    ·exact (show Tryz.prog.wantsStandIn 2=false by kernel_rfl)⟩)
  passTurn_c4
end Go.Proofs.YtbdmjcndlnodnaaGreatDoor
