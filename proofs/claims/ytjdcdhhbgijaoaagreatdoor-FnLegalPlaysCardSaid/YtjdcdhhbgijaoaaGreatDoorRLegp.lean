/- FnLegalPlays: after a legal play a board on which all words were of the lexicon has words of the lexicon alone, and is connected if it was. -/
import Derived.Test.YtjdcdhhbgijaoaaGreatDoorLegpK
import Derived.Test.YtjdcdhhbgijaoaaGreatDoorSLegp
import Derived.Test.YtjdcdhhbgijaoaaGreatDoorRows
import Derived.Test.YtjdcdhhbgijaoaaGreatDoorCards
import Derived.Test.YtjdcdhhbgijaoaaGreatDoorTie
import Derived.Test.YtjdcdhhbgijaoaaGreatDoorLLegp
import Derived.Test.YtjdcdhhbgijaoaaGreatDoorCEnv
import Derived.Test.YtjdcdhhbgijaoaaGreatDoorDoor
import Derived.Stop.Joined
import Derived.LaidMore
import Derived.Stop.LaidErr
import Derived.MakeChecks
import Derived.SevenTiedAt
import Derived.HandedShaped
import Derived.Lib.LaidU8
namespace Go.Proofs.YtjdcdhhbgijaoaaGreatDoor
open Go.ChangeShapes Go.WideShapes Go.ChangeAt Go.RowKit Go.Sort Go.Joins Go.Deep
open Go.ChangeMaps (open_string shut_string)

theorem legalPlays_row : Rows.FnLegalPlaysSaid :=
  OpenClaim.holds_of_wide 8 Tryz.f8 rfl rfl rfl rfl rfl rfl rfl ⟨rfl, rfl, rfl, rfl, rfl⟩ rfl rfl rfl rfl rfl (by kernel_rfl) Tryz.func8 legalPlays_joined
    (of_decide_eq_true (by kernel_rfl)) (by unfold Func.isWrapper; first | (rw [if_pos (by decide +kernel)]; kernel_rfl) | (rw [if_neg (by decide +kernel)]; exact ⟨rfl, rfl⟩))
    (fun os started H enc _ => lifted_LegalPlays os started H enc)
/-- The tied card. -/
theorem legalPlays_holds : Rows.FnLegalPlaysCardSaid :=
  Claim7.holds_tied_plain_at .later [] [.data, .pinned, .pinned] true (true, "7a554f35fac1f01cb40326fe4ae915f1a0695ea0bfb45fc4e78ca45fbcb614ff") true
    legalPlays_row (fun _ h => by cases h) legalPlays_c1 (fun _ h => by cases h) fnLegalPlays_row_tie rfl ⟨rfl, rfl⟩ legalPlays_c2 rfl
    (fun f fn hf hfn => by
      obtain rfl : f = 8 := Option.some.inj ((show Tryz.prog.funcNamed "loop.example/g00911/laws.FnLegalPlays" = some 8 by kernel_rfl).symm.trans hf) |>.symm
      obtain rfl : fn = Tryz.f8 := (Option.some.inj (Tryz.func8.symm.trans hfn)).symm
      exact ⟨legalPlays_c3, fun j t ht => by
        rw [Tryz.params8] at ht
        have h3 : t = 22 := by
          rcases j with _ | j
          · exact (by simpa using ht.symm)
          simp at ht
        rcases h3 with rfl
        exact (show Tryz.prog.wantsStandIn 22 = false by kernel_rfl)⟩)
    legalPlays_c4
end Go.Proofs.YtjdcdhhbgijaoaaGreatDoor
