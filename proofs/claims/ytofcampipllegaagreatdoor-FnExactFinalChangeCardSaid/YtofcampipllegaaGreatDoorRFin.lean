/- FnExactFinalChange: the changes of the scores at the end of a game: the program and the reference alike. -/
import Derived.Test.YtofcampipllegaaGreatDoorSFin
import Derived.Test.YtofcampipllegaaGreatDoorRows
import Derived.Test.YtofcampipllegaaGreatDoorCards
import Derived.Test.YtofcampipllegaaGreatDoorTie
import Derived.Test.YtofcampipllegaaGreatDoorLFinal
import Derived.Test.YtofcampipllegaaGreatDoorDoor
import Derived.Test.YtofcampipllegaaGreatDoorReadG
import Derived.Stop.Joined
import Derived.LaidMore
import Derived.Stop.LaidErr
import Derived.MakeChecks
import Derived.SevenTiedAt
import Derived.HandedShaped
import Derived.Lib.LaidU8
namespace Go.Proofs.YtofcampipllegaaGreatDoor
open Go.ChangeShapes Go.WideShapes Go.ChangeAt Go.RowKit Go.Sort Go.Joins Go.Deep
open Go.ChangeMaps (open_string shut_string)

theorem finalChange_k1 : (Rows.fnExactFinalChangeRow.inPlace == Tryz.prog.inPlace 5) = true := by kernel_rfl
theorem finalChange_k2 : (Rows.fnExactFinalChangeRow.unfollowed == Tryz.prog.unfollowed 5) = true := by kernel_rfl
theorem finalChange_k3 : (Rows.fnExactFinalChangeRow.recurses == Tryz.prog.recurses 5) = true := by kernel_rfl
theorem finalChange_k4 : (Rows.fnExactFinalChangeRow.named == Tryz.prog.varsNamed 5) = true := by kernel_rfl
theorem finalChange_joined : joinedFacts Tryz.prog 5 Tryz.f5 Rows.fnExactFinalChangeSpec Rows.fnExactFinalChangeRow = true := by
 unfold joinedFacts
 rw [finalChange_k1, finalChange_k2, finalChange_k3, finalChange_k4]
 kernel_rfl
theorem finalChange_row : Rows.FnExactFinalChangeSaid :=
 OpenClaim.holds_of_wide 5 Tryz.f5 rfl rfl rfl rfl rfl rfl rfl ⟨rfl, rfl, rfl, rfl, rfl⟩ rfl rfl rfl rfl rfl (by kernel_rfl) Tryz.func5 finalChange_joined
  (of_decide_eq_true (by kernel_rfl)) (by unfold Func.isWrapper; first | (rw [if_pos (by decide +kernel)]; kernel_rfl) | (rw [if_neg (by decide +kernel)]; exact ⟨rfl, rfl⟩))
  (fun os started H enc _ => lifted_FinalChange os started H enc)
theorem finalChange_c1 : Rows.fnExactFinalChangeRow.wfByText (OpenSpec.ofChange Rows.fnExactFinalChangeSpec) = true := by kernel_rfl
theorem finalChange_c2 : Tryz.prog.mainIs = some (true, ("52541a47feabdb2b6f309412e302d02688d67de48f45fa8bd177a0395dcb11fa" : String).toList) := by kernel_rfl
theorem finalChange_c3 : false = Tryz.prog.looks [] := by kernel_rfl
theorem finalChange_c4 : false = Rows.fnExactFinalChangeRow.goesBy Tryz.prog := by kernel_rfl
/-- The tied card. -/
theorem finalChange_holds : Rows.FnExactFinalChangeCardSaid :=
 Claim7.holds_tied_plain_at .later [] [.data, .pinned, .pinned] true (true, "52541a47feabdb2b6f309412e302d02688d67de48f45fa8bd177a0395dcb11fa") false
  finalChange_row (fun _ h => by cases h) finalChange_c1 (fun _ h => by cases h) fnExactFinalChange_row_tie rfl ⟨rfl, rfl⟩ finalChange_c2 rfl
  (fun f fn hf hfn => by
   obtain rfl : f = 5 := Option.some.inj ((show Tryz.prog.funcNamed "loop.example/g00911/laws.FnExactFinalChange" = some 5 by kernel_rfl).symm.trans hf) |>.symm
   obtain rfl : fn = Tryz.f5 := (Option.some.inj (Tryz.func5.symm.trans hfn)).symm
   exact ⟨finalChange_c3, fun j t ht => by
    rw [Tryz.params5] at ht
    have h3 : t = 52 := by
     rcases j with _ | j
     ·exact by simpa using ht.symm
     simp at ht
    rcases h3 with rfl
    exact (show Tryz.prog.wantsStandIn 52 = false by kernel_rfl)⟩)
  finalChange_c4
end Go.Proofs.YtofcampipllegaaGreatDoor
