/- FnExactDeskText: the line of scores of a desk: the program and the reference alike. -/
import Derived.Test.YtalnbgcdhcnjfaaGreatDoorDtextK
import Derived.Test.YtalnbgcdhcnjfaaGreatDoorSDtext
import Derived.Test.YtalnbgcdhcnjfaaGreatDoorRows
import Derived.Test.YtalnbgcdhcnjfaaGreatDoorCards
import Derived.Test.YtalnbgcdhcnjfaaGreatDoorTie
import Derived.Test.YtalnbgcdhcnjfaaGreatDoorLDtext
import Derived.Test.YtalnbgcdhcnjfaaGreatDoorDoorD
import Derived.Test.YtalnbgcdhcnjfaaGreatDoorDoor
import Derived.Test.YtalnbgcdhcnjfaaGreatDoorDkR
import Derived.Stop.Joined
import Derived.LaidMore
import Derived.Stop.LaidErr
import Derived.MakeChecks
import Derived.SevenTiedAt
import Derived.HandedShaped
import Derived.Lib.LaidU8
namespace Go.Proofs.YtalnbgcdhcnjfaaGreatDoor
open Go.ChangeShapes Go.WideShapes Go.ChangeAt Go.RowKit Go.Sort Go.Joins Go.Deep
open Go.ChangeMaps (open_string shut_string)

theorem deskText_row:Rows.FnExactDeskTextSaid :=
 OpenClaim.holds_of_wide 4 Tryz.f4 rfl rfl rfl rfl rfl rfl rfl ⟨rfl,rfl,rfl,rfl,rfl⟩ rfl rfl rfl rfl rfl (by kernel_rfl) Tryz.func4 deskText_joined
  (of_decide_eq_true (by kernel_rfl)) (by unfold Func.isWrapper;first | (rw [if_pos (by decide +kernel)];kernel_rfl) | (rw [if_neg (by decide +kernel)];exact ⟨rfl,rfl⟩))
  (fun os started H enc _=>lifted_DeskText os started H enc)
/-- The tied card. -/
theorem deskText_holds:Rows.FnExactDeskTextCardSaid :=
 Claim7.holds_tied_plain_at .later [] [.data,.data,.data,.data,.pinned,.pinned] true (true, "3e888998b4f21148aeb96aeed0f4467f8dfffd837025662104be304321b70266") false
  deskText_row (fun _ h=>by cases h) deskText_c1 (fun _ h=>by cases h) fnExactDeskText_row_tie rfl ⟨rfl,rfl⟩ deskText_c2 rfl
  (fun f fn hf hfn=>by
   obtain rfl:f=4:=Option.some.inj ((show Tryz.prog.funcNamed "loop.example/g00911/laws.FnExactDeskText" = some 4 by kernel_rfl).symm.trans hf) |>.symm
   obtain rfl:fn=Tryz.f4:=(Option.some.inj (Tryz.func4.symm.trans hfn)).symm
   exact ⟨deskText_c3,fun j t ht=>by
    rw [Tryz.params4] at ht
    have h3:t=39:=by
     rcases j with _ | j
     ·exact by simpa using ht.symm
     simp at ht
    rcases h3 with rfl
    exact (show Tryz.prog.wantsStandIn 39=false by kernel_rfl)⟩)
  deskText_c4
end Go.Proofs.YtalnbgcdhcnjfaaGreatDoor
