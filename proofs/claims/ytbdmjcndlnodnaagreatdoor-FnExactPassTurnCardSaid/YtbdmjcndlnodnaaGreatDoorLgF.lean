/- Contracts: the reference's codes of plays: whether a down play is an across play too, the first fault of a play, LegalPlay. No condition but that lengths fit an int. -/
import Derived.Test.YtbdmjcndlnodnaaGreatDoorLgE
import Derived.Test.YtbdmjcndlnodnaaGreatDoorToA
import Derived.Test.YtbdmjcndlnodnaaGreatDoorWrC
namespace Go.Proofs.YtbdmjcndlnodnaaGreatDoor
open Go.ChangeShapes Go.WideShapes Go.ChangeAt Go.RowKit Go.Sort

/-! ### Plain -/
/-- the tiles that a play places, in order -/
def Brd.tiles (b:Brd) (p:Ply):List UInt8:=(placedB p.word (b.fresh p)).map tlC
/-- the reference's way of taking tiles answers as the plain law -/
theorem take_tiles {a:ByteArray} {R L:List UInt8} (ha:pileOk a.data.toList=true) (hR:SortedT R) (hp:R.Perm L) (hL:∀ c∈L,tileB c=true):decide (takeK R a.data.toList=R.length)=hasT a.data.toList L:=by
 rw [take_has (pile_sorted ha) hR (fun c hc=>hL c (hp.mem_iff.1 hc))]
 exact has_congr fun k _=>cnt_perm hp k
end Go.Proofs.YtbdmjcndlnodnaaGreatDoor
