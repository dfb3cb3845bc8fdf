/- FnExactVerdictOf: the verdict about the last play: the program and the reference alike. -/
import Derived.Test.YtofcampipllegaaGreatDoorVerAll
import Derived.Test.YtofcampipllegaaGreatDoorDoor
import Derived.Test.YtofcampipllegaaGreatDoorRows
import Derived.Test.YtofcampipllegaaGreatDoorCards
import Derived.Test.YtofcampipllegaaGreatDoorTie
import Derived.Stop.Joined
import Derived.LaidMore
import Derived.Stop.LaidErr
import Derived.MakeChecks
import Derived.SevenTiedAt
import Derived.HandedShaped
import Derived.Lib.LaidU8
namespace Go.Proofs.YtofcampipllegaaGreatDoor
open Go.ChangeShapes Go.WideShapes Go.ChangeAt Go.RowKit Go.Sort Go.Joins Go.Deep
open Go.ChangeMaps (open_string shut_string)

theorem verdictOf_k1 : (Rows.fnExactVerdictOfRow.inPlace == Tryz.prog.inPlace 8) = true := by kernel_rfl
theorem verdictOf_k2 : (Rows.fnExactVerdictOfRow.unfollowed == Tryz.prog.unfollowed 8) = true := by kernel_rfl
theorem verdictOf_k3 : (Rows.fnExactVerdictOfRow.recurses == Tryz.prog.recurses 8) = true := by kernel_rfl
theorem verdictOf_k4 : (Rows.fnExactVerdictOfRow.named == Tryz.prog.varsNamed 8) = true := by kernel_rfl
theorem verdictOf_joined : joinedFacts Tryz.prog 8 Tryz.f8 Rows.fnExactVerdictOfSpec Rows.fnExactVerdictOfRow = true := by
 unfold joinedFacts
 rw [verdictOf_k1, verdictOf_k2, verdictOf_k3, verdictOf_k4]
 kernel_rfl
theorem verdictOf_row : Rows.FnExactVerdictOfSaid :=
 OpenClaim.holds_of_wide 8 Tryz.f8 rfl rfl rfl rfl rfl rfl rfl ⟨rfl, rfl, rfl, rfl, rfl⟩ rfl rfl rfl rfl rfl (by kernel_rfl) Tryz.func8 verdictOf_joined
  (of_decide_eq_true (by kernel_rfl)) (by unfold Func.isWrapper; first | (rw [if_pos (by decide +kernel)]; kernel_rfl) | (rw [if_neg (by decide +kernel)]; exact ⟨rfl, rfl⟩))
  (fun os started H enc _ => lifted_VerdictOf os started H enc)
theorem verdictOf_c1 : Rows.fnExactVerdictOfRow.wfByText (OpenSpec.ofChange Rows.fnExactVerdictOfSpec) = true := by kernel_rfl
theorem verdictOf_c2 : Tryz.prog.mainIs = some (true, ("52541a47feabdb2b6f309412e302d02688d67de48f45fa8bd177a0395dcb11fa" : String).toList) := by kernel_rfl
theorem verdictOf_c3 : false = Tryz.prog.looks [] := by kernel_rfl
theorem verdictOf_c4 : false = Rows.fnExactVerdictOfRow.goesBy Tryz.prog := by kernel_rfl
/-- The tied card. -/
theorem verdictOf_holds : Rows.FnExactVerdictOfCardSaid :=
 Claim7.holds_tied_plain_at .later [] [.data, .pinned, .pinned] true (true, "52541a47feabdb2b6f309412e302d02688d67de48f45fa8bd177a0395dcb11fa") false
  verdictOf_row (fun _ h => by cases h) verdictOf_c1 (fun _ h => by cases h) fnExactVerdictOf_row_tie rfl ⟨rfl, rfl⟩ verdictOf_c2 rfl
  (fun f fn hf hfn => by
   obtain rfl : f = 8 := Option.some.inj ((show Tryz.prog.funcNamed "loop.example/g00911/laws.FnExactVerdictOf" = some 8 by kernel_rfl).symm.trans hf) |>.symm
   obtain rfl : fn = Tryz.f8 := (Option.some.inj (Tryz.func8.symm.trans hfn)).symm
   exact ⟨verdictOf_c3, fun j t ht => by
    rw [Tryz.params8] at ht
    have h3 : t = 52 := by
     rcases j with _ | j
     ·exact by simpa using ht.symm
     simp at ht
    rcases h3 with rfl
    exact (show Tryz.prog.wantsStandIn 52 = false by kernel_rfl)⟩)
  verdictOf_c4
end Go.Proofs.YtofcampipllegaaGreatDoor
