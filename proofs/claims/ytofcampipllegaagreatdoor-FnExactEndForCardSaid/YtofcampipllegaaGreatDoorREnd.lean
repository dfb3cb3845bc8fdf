/- FnExactEndFor: the endgame of a game: the program and the reference alike. -/
import Derived.Test.YtofcampipllegaaGreatDoorSEnd
import Derived.Test.YtofcampipllegaaGreatDoorRows
import Derived.Test.YtofcampipllegaaGreatDoorCards
import Derived.Test.YtofcampipllegaaGreatDoorTie
import Derived.Test.YtofcampipllegaaGreatDoorLEnd
import Derived.Test.YtofcampipllegaaGreatDoorDoor
import Derived.Test.YtofcampipllegaaGreatDoorReadG
import Derived.Stop.Joined
import Derived.LaidMore
import Derived.Stop.LaidErr
import Derived.MakeChecks
import Derived.SevenTiedAt
import Derived.HandedShaped
import Derived.Lib.LaidU8
namespace Go.Proofs.YtofcampipllegaaGreatDoor
open Go.ChangeShapes Go.WideShapes Go.ChangeAt Go.RowKit Go.Sort Go.Joins Go.Deep
open Go.ChangeMaps (open_string shut_string)

theorem endFor_k1 : (Rows.fnExactEndForRow.inPlace == Tryz.prog.inPlace 4) = true := by kernel_rfl
theorem endFor_k2 : (Rows.fnExactEndForRow.unfollowed == Tryz.prog.unfollowed 4) = true := by kernel_rfl
theorem endFor_k3 : (Rows.fnExactEndForRow.recurses == Tryz.prog.recurses 4) = true := by kernel_rfl
theorem endFor_k4 : (Rows.fnExactEndForRow.named == Tryz.prog.varsNamed 4) = true := by kernel_rfl
theorem endFor_joined : joinedFacts Tryz.prog 4 Tryz.f4 Rows.fnExactEndForSpec Rows.fnExactEndForRow = true := by
 unfold joinedFacts
 rw [endFor_k1, endFor_k2, endFor_k3, endFor_k4]
 kernel_rfl
theorem endFor_row : Rows.FnExactEndForSaid :=
 OpenClaim.holds_of_wide 4 Tryz.f4 rfl rfl rfl rfl rfl rfl rfl ⟨rfl, rfl, rfl, rfl, rfl⟩ rfl rfl rfl rfl rfl (by kernel_rfl) Tryz.func4 endFor_joined
  (of_decide_eq_true (by kernel_rfl)) (by unfold Func.isWrapper; first | (rw [if_pos (by decide +kernel)]; kernel_rfl) | (rw [if_neg (by decide +kernel)]; exact ⟨rfl, rfl⟩))
  (fun os started H enc _ => lifted_EndFor os started H enc)
theorem endFor_c1 : Rows.fnExactEndForRow.wfByText (OpenSpec.ofChange Rows.fnExactEndForSpec) = true := by kernel_rfl
theorem endFor_c2 : Tryz.prog.mainIs = some (true, ("52541a47feabdb2b6f309412e302d02688d67de48f45fa8bd177a0395dcb11fa" : String).toList) := by kernel_rfl
theorem endFor_c3 : false = Tryz.prog.looks [] := by kernel_rfl
theorem endFor_c4 : false = Rows.fnExactEndForRow.goesBy Tryz.prog := by kernel_rfl
/-- The tied card. -/
theorem endFor_holds : Rows.FnExactEndForCardSaid :=
 Claim7.holds_tied_plain_at .later [] [.data, .pinned, .pinned] true (true, "52541a47feabdb2b6f309412e302d02688d67de48f45fa8bd177a0395dcb11fa") false
  endFor_row (fun _ h => by cases h) endFor_c1 (fun _ h => by cases h) fnExactEndFor_row_tie rfl ⟨rfl, rfl⟩ endFor_c2 rfl
  (fun f fn hf hfn => by
   obtain rfl : f = 4 := Option.some.inj ((show Tryz.prog.funcNamed "loop.example/g00911/laws.FnExactEndFor" = some 4 by kernel_rfl).symm.trans hf) |>.symm
   obtain rfl : fn = Tryz.f4 := (Option.some.inj (Tryz.func4.symm.trans hfn)).symm
   exact ⟨endFor_c3, fun j t ht => by
    rw [Tryz.params4] at ht
    have h3 : t = 52 := by
     rcases j with _ | j
     ·exact by simpa using ht.symm
     simp at ht
    rcases h3 with rfl
    exact (show Tryz.prog.wantsStandIn 52 = false by kernel_rfl)⟩)
  endFor_c4
end Go.Proofs.YtofcampipllegaaGreatDoor
