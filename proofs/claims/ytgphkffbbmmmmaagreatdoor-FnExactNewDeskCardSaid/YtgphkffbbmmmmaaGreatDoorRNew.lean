/- FnExactNewDesk: a new desk: the program and the reference alike. -/
import Derived.Test.YtgphkffbbmmmmaaGreatDoorNewK
import Derived.Test.YtgphkffbbmmmmaaGreatDoorSNew
import Derived.Test.YtgphkffbbmmmmaaGreatDoorRows
import Derived.Test.YtgphkffbbmmmmaaGreatDoorCards
import Derived.Test.YtgphkffbbmmmmaaGreatDoorTie
import Derived.Test.YtgphkffbbmmmmaaGreatDoorLNew
import Derived.Test.YtgphkffbbmmmmaaGreatDoorDoorN
import Derived.Test.YtgphkffbbmmmmaaGreatDoorDoor
import Derived.Stop.Joined
import Derived.LaidMore
import Derived.Stop.LaidErr
import Derived.MakeChecks
import Derived.SevenTiedAt
import Derived.HandedShaped
import Derived.Lib.LaidU8
namespace Go.Proofs.YtgphkffbbmmmmaaGreatDoor
open Go.ChangeShapes Go.WideShapes Go.ChangeAt Go.RowKit Go.Sort Go.Joins Go.Deep
open Go.ChangeMaps (open_string shut_string)

theorem newDesk_row:Rows.FnExactNewDeskSaid :=
 OpenClaim.holds_of_wide 4 Tryz.f4 rfl rfl rfl rfl rfl rfl rfl ⟨rfl,rfl,rfl,rfl,rfl⟩ rfl rfl rfl rfl rfl (by kernel_rfl) Tryz.func4 newDesk_joined
  (of_decide_eq_true (by kernel_rfl)) (by unfold Func.isWrapper;first | (rw [if_pos (by decide +kernel)];kernel_rfl) | (rw [if_neg (by decide +kernel)];exact ⟨rfl,rfl⟩))
  (fun os started H enc _=>lifted_NewDesk os started H enc)
/-- The tied card. -/
theorem newDesk_holds:Rows.FnExactNewDeskCardSaid :=
 Claim7.holds_tied_plain_at .later [] [.data,.data,.data,.data,.sentinel,.sentinel,.pinned] true (true, "62d2743cea4cef7294f16ecf61f517502b45cc5dde567a309c73d500b4134e95") true
  newDesk_row (fun _ h=>by cases h) newDesk_c1 (fun _ h=>by cases h) fnExactNewDesk_row_tie rfl ⟨rfl,rfl⟩ newDesk_c2 rfl
  (fun f fn hf hfn=>by
   obtain rfl:f=4:=Option.some.inj ((show Tryz.prog.funcNamed "loop.example/g00911/laws.FnExactNewDesk" = some 4 by kernel_rfl).symm.trans hf) |>.symm
   obtain rfl:fn=Tryz.f4:=(Option.some.inj (Tryz.func4.symm.trans hfn)).symm
   exact ⟨newDesk_c3,fun j t ht=>by
    rw [Tryz.params4] at ht
    simp at ht⟩)
  newDesk_c4
end Go.Proofs.YtgphkffbbmmmmaaGreatDoor
