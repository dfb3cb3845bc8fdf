/- FnExactExchangeTurn: an exchange of tiles: the program and the reference alike. -/
import Derived.Test.YtkjhapbjdjcipaaGreatDoorExchK
import Derived.Test.YtkjhapbjdjcipaaGreatDoorSExch
import Derived.Test.YtkjhapbjdjcipaaGreatDoorRows
import Derived.Test.YtkjhapbjdjcipaaGreatDoorCards
import Derived.Test.YtkjhapbjdjcipaaGreatDoorTie
import Derived.Test.YtkjhapbjdjcipaaGreatDoorDoor
import Derived.Stop.Joined
import Derived.LaidMore
import Derived.Stop.LaidErr
import Derived.MakeChecks
import Derived.SevenTiedAt
import Derived.HandedShaped
import Derived.Lib.LaidU8
namespace Go.Proofs.YtkjhapbjdjcipaaGreatDoor
open Go.ChangeShapes Go.WideShapes Go.ChangeAt Go.RowKit Go.Sort Go.Joins Go.Deep
open Go.ChangeMaps (open_string shut_string)

theorem exchangeTurn_row:Rows.FnExactExchangeTurnSaid :=
 OpenClaim.holds_of_wide 3 Tryz.f3 rfl rfl rfl rfl rfl rfl rfl ⟨rfl,rfl,rfl,rfl,rfl⟩ rfl rfl rfl rfl rfl (by kernel_rfl) Tryz.func3 exchangeTurn_joined
  (of_decide_eq_true (by kernel_rfl)) (by unfold Func.isWrapper;first | (rw [if_pos (by decide +kernel)];kernel_rfl) | (rw [if_neg (by decide +kernel)];exact ⟨rfl,rfl⟩))
  (fun os started H enc _=>lifted_ExchangeTurn os started H enc)
/-- The tied card. -/
theorem exchangeTurn_holds:Rows.FnExactExchangeTurnCardSaid :=
 Claim7.holds_tied_plain_at .later [] [.data,.pinned,.pinned] true (true, "7204380b3b2b3b9e4acdcc7beb6b54e43d762c7143885885bd534cbdf96c5f01") false
  exchangeTurn_row (fun _ h=>by cases h) exchangeTurn_c1 (fun _ h=>by cases h) fnExactExchangeTurn_row_tie rfl ⟨rfl,rfl⟩ exchangeTurn_c2 rfl
  (fun f fn hf hfn=>by
   obtain rfl:f=3:=Option.some.inj ((show Tryz.prog.funcNamed "loop.example/g00911/laws.FnExactExchangeTurn" = some 3 by kernel_rfl).symm.trans hf) |>.symm
   obtain rfl:fn=Tryz.f3:=(Option.some.inj (Tryz.func3.symm.trans hfn)).symm
   exact ⟨exchangeTurn_c3,fun j t ht=>by
    rw [Tryz.params3] at ht
    have h3:t=37∨t=9∨t=2:=by
     rcases j with _ | j
     ·exact Or.inl (by simpa using ht.symm)
     rcases j with _ | j
     ·exact Or.inr (Or.inl (by simpa using ht.symm))
     rcases j with _ | j
     ·exact Or.inr (Or.inr (by simpa using ht.symm))
     simp at ht
    rcases h3 with rfl | rfl | rfl
    ·exact (show Tryz.prog.wantsStandIn 37=false by kernel_rfl)
    ·exact (show Tryz.prog.wantsStandIn 9=false by kernel_rfl)
    ·exact (show Tryz.prog.wantsStandIn 2=false by kernel_rfl)⟩)
  exchangeTurn_c4
end Go.Proofs.YtkjhapbjdjcipaaGreatDoor
