/- FnPlayOrder: the order of plays and their texts. -/
import Derived.Test.YtjdcdhhbgijaoaaGreatDoorOrdK
import Derived.Test.YtjdcdhhbgijaoaaGreatDoorSOrder
import Derived.Test.YtjdcdhhbgijaoaaGreatDoorRows
import Derived.Test.YtjdcdhhbgijaoaaGreatDoorCards
import Derived.Test.YtjdcdhhbgijaoaaGreatDoorTie
import Derived.Test.YtjdcdhhbgijaoaaGreatDoorLOrder
import Derived.Test.YtjdcdhhbgijaoaaGreatDoorDoorPo
import Derived.Test.YtjdcdhhbgijaoaaGreatDoorDoor
import Derived.Stop.Joined
import Derived.LaidMore
import Derived.Stop.LaidErr
import Derived.MakeChecks
import Derived.SevenTiedAt
import Derived.HandedShaped
import Derived.Lib.LaidU8
namespace Go.Proofs.YtjdcdhhbgijaoaaGreatDoor
open Go.ChangeShapes Go.WideShapes Go.ChangeAt Go.RowKit Go.Sort Go.Joins Go.Deep
open Go.ChangeMaps (open_string shut_string)

theorem playOrder_row : Rows.FnPlayOrderSaid :=
  OpenClaim.holds_of_wide 7 Tryz.f7 rfl rfl rfl rfl rfl rfl rfl ⟨rfl, rfl, rfl, rfl, rfl⟩ rfl rfl rfl rfl rfl (by kernel_rfl) Tryz.func7 playOrder_joined
    (of_decide_eq_true (by kernel_rfl)) (by unfold Func.isWrapper; first | (rw [if_pos (by decide +kernel)]; kernel_rfl) | (rw [if_neg (by decide +kernel)]; exact ⟨rfl, rfl⟩))
    (fun os started H enc _ => lifted_PlayOrder os started H enc)
/-- The tied card. -/
theorem playOrder_holds : Rows.FnPlayOrderCardSaid :=
  Claim7.holds_tied_plain_at .later [] [.data, .data, .data, .data, .sentinel, .sentinel, .pinned, .pinned] true (true, "7a554f35fac1f01cb40326fe4ae915f1a0695ea0bfb45fc4e78ca45fbcb614ff") true
    playOrder_row (fun _ h => by cases h) playOrder_c1 (fun _ h => by cases h) fnPlayOrder_row_tie rfl ⟨rfl, rfl⟩ playOrder_c2 rfl
    (fun f fn hf hfn => by
      obtain rfl : f = 7 := Option.some.inj ((show Tryz.prog.funcNamed "loop.example/g00911/laws.FnPlayOrder" = some 7 by kernel_rfl).symm.trans hf) |>.symm
      obtain rfl : fn = Tryz.f7 := (Option.some.inj (Tryz.func7.symm.trans hfn)).symm
      exact ⟨playOrder_c3, fun j t ht => by
        rw [Tryz.params7] at ht
        have h3 : t = 22 := by
          rcases j with _ | j
          · exact (by simpa using ht.symm)
          simp at ht
        rcases h3 with rfl
        exact (show Tryz.prog.wantsStandIn 22 = false by kernel_rfl)⟩)
    playOrder_c4
end Go.Proofs.YtjdcdhhbgijaoaaGreatDoor
