/- FnExactMakeGame: games made by name: the program and the reference alike. -/
import Derived.Test.YtgphkffbbmmmmaaGreatDoorMakeK
import Derived.Test.YtgphkffbbmmmmaaGreatDoorSMake
import Derived.Test.YtgphkffbbmmmmaaGreatDoorRows
import Derived.Test.YtgphkffbbmmmmaaGreatDoorCards
import Derived.Test.YtgphkffbbmmmmaaGreatDoorTie
import Derived.Test.YtgphkffbbmmmmaaGreatDoorLMake
import Derived.Test.YtgphkffbbmmmmaaGreatDoorDoorM
import Derived.Test.YtgphkffbbmmmmaaGreatDoorDoor
import Derived.Stop.Joined
import Derived.LaidMore
import Derived.Stop.LaidErr
import Derived.MakeChecks
import Derived.SevenTiedAt
import Derived.HandedShaped
import Derived.Lib.LaidU8
namespace Go.Proofs.YtgphkffbbmmmmaaGreatDoor
open Go.ChangeShapes Go.WideShapes Go.ChangeAt Go.RowKit Go.Sort Go.Joins Go.Deep
open Go.ChangeMaps (open_string shut_string)

theorem makeGame_row:Rows.FnExactMakeGameSaid :=
 OpenClaim.holds_of_wide 3 Tryz.f3 rfl rfl rfl rfl rfl rfl rfl ⟨rfl,rfl,rfl,rfl,rfl⟩ rfl rfl rfl rfl rfl (by kernel_rfl) Tryz.func3 makeGame_joined
  (of_decide_eq_true (by kernel_rfl)) (by unfold Func.isWrapper;first | (rw [if_pos (by decide +kernel)];kernel_rfl) | (rw [if_neg (by decide +kernel)];exact ⟨rfl,rfl⟩))
  (fun os started H enc _=>lifted_MakeGame os started H enc)
/-- The tied card. -/
theorem makeGame_holds:Rows.FnExactMakeGameCardSaid :=
 Claim7.holds_tied_plain_at .later [] [.data,.data,.data,.data,.sentinel,.sentinel,.pinned] true (true, "62d2743cea4cef7294f16ecf61f517502b45cc5dde567a309c73d500b4134e95") true
  makeGame_row (fun _ h=>by cases h) makeGame_c1 (fun _ h=>by cases h) fnExactMakeGame_row_tie rfl ⟨rfl,rfl⟩ makeGame_c2 rfl
  (fun f fn hf hfn=>by
   obtain rfl:f=3:=Option.some.inj ((show Tryz.prog.funcNamed "loop.example/g00911/laws.FnExactMakeGame" = some 3 by kernel_rfl).symm.trans hf) |>.symm
   obtain rfl:fn=Tryz.f3:=(Option.some.inj (Tryz.func3.symm.trans hfn)).symm
   exact ⟨makeGame_c3,fun j t ht=>by
    rw [Tryz.params3] at ht
    have h3:t=9∨t=2:=by
     rcases j with _ | j
     ·exact Or.inl (by simpa using ht.symm)
     rcases j with _ | j
     ·exact Or.inr (by simpa using ht.symm)
     rcases j with _ | j
     ·exact Or.inr (by simpa using ht.symm)
     rcases j with _ | j
     ·exact Or.inr (by simpa using ht.symm)
     simp at ht
    rcases h3 with rfl | rfl
    ·exact (show Tryz.prog.wantsStandIn 9=false by kernel_rfl)
    ·exact (show Tryz.prog.wantsStandIn 2=false by kernel_rfl)⟩)
  makeGame_c4
end Go.Proofs.YtgphkffbbmmmmaaGreatDoor
