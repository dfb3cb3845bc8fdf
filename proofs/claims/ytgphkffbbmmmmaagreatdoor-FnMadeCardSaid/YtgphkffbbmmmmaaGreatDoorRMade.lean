/- FnMade: made games: the program and the reference alike. -/
import Derived.Test.YtgphkffbbmmmmaaGreatDoorMadeK
import Derived.Test.YtgphkffbbmmmmaaGreatDoorSMade
import Derived.Test.YtgphkffbbmmmmaaGreatDoorRows
import Derived.Test.YtgphkffbbmmmmaaGreatDoorCards
import Derived.Test.YtgphkffbbmmmmaaGreatDoorTie
import Derived.Test.YtgphkffbbmmmmaaGreatDoorLMade
import Derived.Test.YtgphkffbbmmmmaaGreatDoorDoorF
import Derived.Test.YtgphkffbbmmmmaaGreatDoorDoor
import Derived.Stop.Joined
import Derived.LaidMore
import Derived.Stop.LaidErr
import Derived.MakeChecks
import Derived.SevenTiedAt
import Derived.HandedShaped
import Derived.Lib.LaidU8
namespace Go.Proofs.YtgphkffbbmmmmaaGreatDoor
open Go.ChangeShapes Go.WideShapes Go.ChangeAt Go.RowKit Go.Sort Go.Joins Go.Deep
open Go.ChangeMaps (open_string shut_string)

theorem made_row:Rows.FnMadeSaid :=
 OpenClaim.holds_of_wide 5 Tryz.f5 rfl rfl rfl rfl rfl rfl rfl ⟨rfl,rfl,rfl,rfl,rfl⟩ rfl rfl rfl rfl rfl (by kernel_rfl) Tryz.func5 made_joined
  (of_decide_eq_true (by kernel_rfl)) (by unfold Func.isWrapper;first | (rw [if_pos (by decide +kernel)];kernel_rfl) | (rw [if_neg (by decide +kernel)];exact ⟨rfl,rfl⟩))
  (fun os started H enc _=>lifted_Made os started H enc)
/-- The tied card. -/
theorem made_holds:Rows.FnMadeCardSaid :=
 Claim7.holds_tied_plain_at .later [] [.data,.data,.data,.data,.sentinel,.sentinel,.pinned,.pinned] true (true, "62d2743cea4cef7294f16ecf61f517502b45cc5dde567a309c73d500b4134e95") true
  made_row (fun _ h=>by cases h) made_c1 (fun _ h=>by cases h) fnMade_row_tie rfl ⟨rfl,rfl⟩ made_c2 rfl
  (fun f fn hf hfn=>by
   obtain rfl:f=5:=Option.some.inj ((show Tryz.prog.funcNamed "loop.example/g00911/laws.FnMade" = some 5 by kernel_rfl).symm.trans hf) |>.symm
   obtain rfl:fn=Tryz.f5:=(Option.some.inj (Tryz.func5.symm.trans hfn)).symm
   exact ⟨made_c3,fun j t ht=>by
    rw [Tryz.params5] at ht
    have h3:t=49:=by
     rcases j with _ | j
     ·exact (by simpa using ht.symm)
     simp at ht
    rcases h3 with rfl
    exact (show Tryz.prog.wantsStandIn 49=false by kernel_rfl)⟩)
  made_c4
end Go.Proofs.YtgphkffbbmmmmaaGreatDoor
