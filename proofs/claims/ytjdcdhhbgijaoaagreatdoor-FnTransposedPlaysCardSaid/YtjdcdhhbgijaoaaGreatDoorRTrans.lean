/- FnTransposedPlays: a play on the transposed board forms the same words, leads to the transposed board, and is as legal, unless it has to be placed in the other direction. -/
import Derived.Test.YtjdcdhhbgijaoaaGreatDoorTransK
import Derived.Test.YtjdcdhhbgijaoaaGreatDoorSTrans
import Derived.Test.YtjdcdhhbgijaoaaGreatDoorRows
import Derived.Test.YtjdcdhhbgijaoaaGreatDoorCards
import Derived.Test.YtjdcdhhbgijaoaaGreatDoorTie
import Derived.Test.YtjdcdhhbgijaoaaGreatDoorLTrans
import Derived.Test.YtjdcdhhbgijaoaaGreatDoorCEnv
import Derived.Test.YtjdcdhhbgijaoaaGreatDoorDoor
import Derived.Stop.Joined
import Derived.LaidMore
import Derived.Stop.LaidErr
import Derived.MakeChecks
import Derived.SevenTiedAt
import Derived.HandedShaped
import Derived.Lib.LaidU8
namespace Go.Proofs.YtjdcdhhbgijaoaaGreatDoor
open Go.ChangeShapes Go.WideShapes Go.ChangeAt Go.RowKit Go.Sort Go.Joins Go.Deep
open Go.ChangeMaps (open_string shut_string)

theorem transposedPlays_row : Rows.FnTransposedPlaysSaid :=
  OpenClaim.holds_of_wide 3 Tryz.f3 rfl rfl rfl rfl rfl rfl rfl ⟨rfl, rfl, rfl, rfl, rfl⟩ rfl rfl rfl rfl rfl (by kernel_rfl) Tryz.func3 transposedPlays_joined
    (of_decide_eq_true (by kernel_rfl)) (by unfold Func.isWrapper; first | (rw [if_pos (by decide +kernel)]; kernel_rfl) | (rw [if_neg (by decide +kernel)]; exact ⟨rfl, rfl⟩))
    (fun os started H enc _ => lifted_TransposedPlays os started H enc)
/-- The tied card. -/
theorem transposedPlays_holds : Rows.FnTransposedPlaysCardSaid :=
  Claim7.holds_tied_plain_at .later [] [.data, .pinned, .pinned] true (true, "7a554f35fac1f01cb40326fe4ae915f1a0695ea0bfb45fc4e78ca45fbcb614ff") true
    transposedPlays_row (fun _ h => by cases h) transposedPlays_c1 (fun _ h => by cases h) fnTransposedPlays_row_tie rfl ⟨rfl, rfl⟩ transposedPlays_c2 rfl
    (fun f fn hf hfn => by
      obtain rfl : f = 3 := Option.some.inj ((show Tryz.prog.funcNamed "loop.example/g00911/laws.FnTransposedPlays" = some 3 by kernel_rfl).symm.trans hf) |>.symm
      obtain rfl : fn = Tryz.f3 := (Option.some.inj (Tryz.func3.symm.trans hfn)).symm
      exact ⟨transposedPlays_c3, fun j t ht => by
        rw [Tryz.params3] at ht
        have h3 : t = 22 := by
          rcases j with _ | j
          · exact (by simpa using ht.symm)
          simp at ht
        rcases h3 with rfl
        exact (show Tryz.prog.wantsStandIn 22 = false by kernel_rfl)⟩)
    transposedPlays_c4
end Go.Proofs.YtjdcdhhbgijaoaaGreatDoor
