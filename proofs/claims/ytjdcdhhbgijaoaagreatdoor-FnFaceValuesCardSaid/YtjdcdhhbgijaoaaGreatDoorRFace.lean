/- FnFaceValues: a play adds the value of its tiles to that of the board, and no play has a greater score than the best one. -/
import Derived.Test.YtjdcdhhbgijaoaaGreatDoorFaceK
import Derived.Test.YtjdcdhhbgijaoaaGreatDoorSFace
import Derived.Test.YtjdcdhhbgijaoaaGreatDoorRows
import Derived.Test.YtjdcdhhbgijaoaaGreatDoorCards
import Derived.Test.YtjdcdhhbgijaoaaGreatDoorTie
import Derived.Test.YtjdcdhhbgijaoaaGreatDoorLFace
import Derived.Test.YtjdcdhhbgijaoaaGreatDoorCEnv
import Derived.Test.YtjdcdhhbgijaoaaGreatDoorDoor
import Derived.Stop.Joined
import Derived.LaidMore
import Derived.Stop.LaidErr
import Derived.MakeChecks
import Derived.SevenTiedAt
import Derived.HandedShaped
import Derived.Lib.LaidU8
namespace Go.Proofs.YtjdcdhhbgijaoaaGreatDoor
open Go.ChangeShapes Go.WideShapes Go.ChangeAt Go.RowKit Go.Sort Go.Joins Go.Deep
open Go.ChangeMaps (open_string shut_string)

theorem faceValues_row : Rows.FnFaceValuesSaid :=
  OpenClaim.holds_of_wide 5 Tryz.f5 rfl rfl rfl rfl rfl rfl rfl ⟨rfl, rfl, rfl, rfl, rfl⟩ rfl rfl rfl rfl rfl (by kernel_rfl) Tryz.func5 faceValues_joined
    (of_decide_eq_true (by kernel_rfl)) (by unfold Func.isWrapper; first | (rw [if_pos (by decide +kernel)]; kernel_rfl) | (rw [if_neg (by decide +kernel)]; exact ⟨rfl, rfl⟩))
    (fun os started H enc _ => lifted_FaceValues os started H enc)
/-- The tied card. -/
theorem faceValues_holds : Rows.FnFaceValuesCardSaid :=
  Claim7.holds_tied_plain_at .later [] [.data, .pinned, .pinned] true (true, "7a554f35fac1f01cb40326fe4ae915f1a0695ea0bfb45fc4e78ca45fbcb614ff") true
    faceValues_row (fun _ h => by cases h) faceValues_c1 (fun _ h => by cases h) fnFaceValues_row_tie rfl ⟨rfl, rfl⟩ faceValues_c2 rfl
    (fun f fn hf hfn => by
      obtain rfl : f = 5 := Option.some.inj ((show Tryz.prog.funcNamed "loop.example/g00911/laws.FnFaceValues" = some 5 by kernel_rfl).symm.trans hf) |>.symm
      obtain rfl : fn = Tryz.f5 := (Option.some.inj (Tryz.func5.symm.trans hfn)).symm
      exact ⟨faceValues_c3, fun j t ht => by
        rw [Tryz.params5] at ht
        have h3 : t = 22 := by
          rcases j with _ | j
          · exact (by simpa using ht.symm)
          simp at ht
        rcases h3 with rfl
        exact (show Tryz.prog.wantsStandIn 22 = false by kernel_rfl)⟩)
    faceValues_c4
end Go.Proofs.YtjdcdhhbgijaoaaGreatDoor
