/- FnExactValidDesk: whether a desk is valid: the program and the reference alike. -/
import Derived.Test.YtalnbgcdhcnjfaaGreatDoorVdeskK
import Derived.Test.YtalnbgcdhcnjfaaGreatDoorSVdesk
import Derived.Test.YtalnbgcdhcnjfaaGreatDoorRows
import Derived.Test.YtalnbgcdhcnjfaaGreatDoorCards
import Derived.Test.YtalnbgcdhcnjfaaGreatDoorTie
import Derived.Test.YtalnbgcdhcnjfaaGreatDoorLVdesk
import Derived.Test.YtalnbgcdhcnjfaaGreatDoorDoor
import Derived.Test.YtalnbgcdhcnjfaaGreatDoorDkR
import Derived.Stop.Joined
import Derived.LaidMore
import Derived.Stop.LaidErr
import Derived.MakeChecks
import Derived.SevenTiedAt
import Derived.HandedShaped
import Derived.Lib.LaidU8
namespace Go.Proofs.YtalnbgcdhcnjfaaGreatDoor
open Go.ChangeShapes Go.WideShapes Go.ChangeAt Go.RowKit Go.Sort Go.Joins Go.Deep
open Go.ChangeMaps (open_string shut_string)

theorem validDesk_row:Rows.FnExactValidDeskSaid :=
 OpenClaim.holds_of_wide 3 Tryz.f3 rfl rfl rfl rfl rfl rfl rfl ⟨rfl,rfl,rfl,rfl,rfl⟩ rfl rfl rfl rfl rfl (by kernel_rfl) Tryz.func3 validDesk_joined
  (of_decide_eq_true (by kernel_rfl)) (by unfold Func.isWrapper;first | (rw [if_pos (by decide +kernel)];kernel_rfl) | (rw [if_neg (by decide +kernel)];exact ⟨rfl,rfl⟩))
  (fun os started H enc _=>lifted_ValidDesk os started H enc)
/-- The tied card. -/
theorem validDesk_holds:Rows.FnExactValidDeskCardSaid :=
 Claim7.holds_tied_plain_at .later [] [.data,.pinned,.pinned] true (true, "3e888998b4f21148aeb96aeed0f4467f8dfffd837025662104be304321b70266") false
  validDesk_row (fun _ h=>by cases h) validDesk_c1 (fun _ h=>by cases h) fnExactValidDesk_row_tie rfl ⟨rfl,rfl⟩ validDesk_c2 rfl
  (fun f fn hf hfn=>by
   obtain rfl:f=3:=Option.some.inj ((show Tryz.prog.funcNamed "loop.example/g00911/laws.FnExactValidDesk" = some 3 by kernel_rfl).symm.trans hf) |>.symm
   obtain rfl:fn=Tryz.f3:=(Option.some.inj (Tryz.func3.symm.trans hfn)).symm
   exact ⟨validDesk_c3,fun j t ht=>by
    rw [Tryz.params3] at ht
    have h3:t=39:=by
     rcases j with _ | j
     ·exact by simpa using ht.symm
     simp at ht
    rcases h3 with rfl
    exact (show Tryz.prog.wantsStandIn 39=false by kernel_rfl)⟩)
  validDesk_c4
end Go.Proofs.YtalnbgcdhcnjfaaGreatDoor
