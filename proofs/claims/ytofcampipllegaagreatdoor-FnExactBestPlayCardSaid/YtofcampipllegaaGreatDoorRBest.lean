/- FnExactBestPlay: the best play of a list: the program and the reference alike. -/
import Derived.Test.YtofcampipllegaaGreatDoorSBest
import Derived.Test.YtofcampipllegaaGreatDoorRows
import Derived.Test.YtofcampipllegaaGreatDoorCards
import Derived.Test.YtofcampipllegaaGreatDoorTie
import Derived.Test.YtofcampipllegaaGreatDoorLBest
import Derived.Test.YtofcampipllegaaGreatDoorLScP
import Derived.Test.YtofcampipllegaaGreatDoorDoor
import Derived.Test.YtofcampipllegaaGreatDoorReadB
import Derived.Test.YtofcampipllegaaGreatDoorReadP
import Derived.Stop.Joined
import Derived.LaidMore
import Derived.Stop.LaidErr
import Derived.MakeChecks
import Derived.SevenTiedAt
import Derived.HandedShaped
import Derived.Lib.LaidU8
namespace Go.Proofs.YtofcampipllegaaGreatDoor
open Go.ChangeShapes Go.WideShapes Go.ChangeAt Go.RowKit Go.Sort Go.Joins Go.Deep
open Go.ChangeMaps (open_string shut_string)

theorem bestPlay_k1 : (Rows.fnExactBestPlayRow.inPlace == Tryz.prog.inPlace 3) = true := by kernel_rfl
theorem bestPlay_k2 : (Rows.fnExactBestPlayRow.unfollowed == Tryz.prog.unfollowed 3) = true := by kernel_rfl
theorem bestPlay_k3 : (Rows.fnExactBestPlayRow.recurses == Tryz.prog.recurses 3) = true := by kernel_rfl
theorem bestPlay_k4 : (Rows.fnExactBestPlayRow.named == Tryz.prog.varsNamed 3) = true := by kernel_rfl
theorem bestPlay_joined : joinedFacts Tryz.prog 3 Tryz.f3 Rows.fnExactBestPlaySpec Rows.fnExactBestPlayRow = true := by
  unfold joinedFacts
  rw [bestPlay_k1, bestPlay_k2, bestPlay_k3, bestPlay_k4]
  kernel_rfl
theorem bestPlay_row : Rows.FnExactBestPlaySaid :=
  OpenClaim.holds_of_wide 3 Tryz.f3 rfl rfl rfl rfl rfl rfl rfl ⟨rfl, rfl, rfl, rfl, rfl⟩ rfl rfl rfl rfl rfl (by kernel_rfl) Tryz.func3 bestPlay_joined
    (of_decide_eq_true (by kernel_rfl)) (by unfold Func.isWrapper; first | (rw [if_pos (by decide +kernel)]; kernel_rfl) | (rw [if_neg (by decide +kernel)]; exact ⟨rfl, rfl⟩))
    (fun os started H enc _ => lifted_BestPlay os started H enc)
theorem bestPlay_c1 : Rows.fnExactBestPlayRow.wfByText (OpenSpec.ofChange Rows.fnExactBestPlaySpec) = true := by kernel_rfl
theorem bestPlay_c2 : Tryz.prog.mainIs = some (true, ("52541a47feabdb2b6f309412e302d02688d67de48f45fa8bd177a0395dcb11fa" : String).toList) := by kernel_rfl
theorem bestPlay_c3 : false = Tryz.prog.looks [] := by kernel_rfl
theorem bestPlay_c4 : false = Rows.fnExactBestPlayRow.goesBy Tryz.prog := by kernel_rfl
/-- The tied card. -/
theorem bestPlay_holds : Rows.FnExactBestPlayCardSaid :=
  Claim7.holds_tied_plain_at .later [] [.data, .pinned, .pinned] true (true, "52541a47feabdb2b6f309412e302d02688d67de48f45fa8bd177a0395dcb11fa") false
    bestPlay_row (fun _ h => by cases h) bestPlay_c1 (fun _ h => by cases h) fnExactBestPlay_row_tie rfl ⟨rfl, rfl⟩ bestPlay_c2 rfl
    (fun f fn hf hfn => by
      obtain rfl : f = 3 := Option.some.inj ((show Tryz.prog.funcNamed "loop.example/g00911/laws.FnExactBestPlay" = some 3 by kernel_rfl).symm.trans hf) |>.symm
      obtain rfl : fn = Tryz.f3 := (Option.some.inj (Tryz.func3.symm.trans hfn)).symm
      exact ⟨bestPlay_c3, fun j t ht => by
        rw [Tryz.params3] at ht
        have h3 : t = 24 ∨ t = 26 ∨ t = 27 := by
          rcases j with _ | j
          · exact Or.inl (by simpa using ht.symm)
          rcases j with _ | j
          · exact Or.inr (Or.inl (by simpa using ht.symm))
          rcases j with _ | j
          · exact Or.inr (Or.inr (by simpa using ht.symm))
          simp at ht
        rcases h3 with rfl | rfl | rfl
        · exact (show Tryz.prog.wantsStandIn 24 = false by kernel_rfl)
        · exact (show Tryz.prog.wantsStandIn 26 = false by kernel_rfl)
        · exact (show Tryz.prog.wantsStandIn 27 = false by kernel_rfl)⟩)
    bestPlay_c4
end Go.Proofs.YtofcampipllegaaGreatDoor
