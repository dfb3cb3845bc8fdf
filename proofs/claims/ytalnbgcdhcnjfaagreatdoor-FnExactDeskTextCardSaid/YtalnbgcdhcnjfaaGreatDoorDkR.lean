/- What comes in, read: a desk. No condition beyond the form that the statements' frame gives. -/
import Derived.Test.YtalnbgcdhcnjfaaGreatDoorReadG
import Derived.Test.YtalnbgcdhcnjfaaGreatDoorGmG
set_option maxRecDepth 100000
namespace Go.Proofs.YtalnbgcdhcnjfaaGreatDoor
open Go.ChangeShapes Go.WideShapes Go.ChangeAt Go.RowKit Go.Sort Go.Joins Go.Deep

section
variable {H:Type} {ec:TypeId × Value→H} {w:World} {base:Nat} {spare:Nat→Bool} {held:Bool}
theorem rdDesk {m:Nat} {cs:List Value} {y:DataW H × List MemPlace} (h:DataW.trod ec Tryz.prog w base spare held m 39 cs=some y) :
  ∃ (x:Gam) (q:GaA),cs=gcells x q∧x.At q w∧x.fit:=by
 obtain ⟨hl,n,hg⟩:=rd_fields Tryz.underlying39 h
 rw [show Tryz.prog.cellsOf 39=30 by kernel_rfl] at hl
 obtain ⟨y0,t0⟩:=hg 0 _ rfl
 replace t0:DataW.trod ec Tryz.prog w base spare held n 37 ((cs.drop 0).take 30)=some y0:=t0
 rw [List.drop_zero,List.take_of_length_le (Nat.le_of_eq hl)] at t0
 obtain ⟨x,q,e,ha,hf⟩:=rdGame t0
 exact ⟨x,q,e,ha,hf⟩
/-- A desk that came in. -/
theorem Desk.read {r:Reach} {b0:Nat} {v:Value} {d:DataW H} {p:List MemPlace} (hv:Value.okWide Tryz.prog w r b0 39 v) (h:DataW.Trod ec Tryz.prog w base spare held 39 v d p) :
  ∃ (x:Gam) (q:GaA),v=.agg (gcells x q).toArray∧x.At q w∧x.fit:=by
 obtain ⟨cs,rfl,fuel,x,hf⟩:=open_aggs Tryz.underlying39 hv h
 obtain ⟨x,q,rfl,hs,hf⟩:=rdDesk hf
 exact ⟨x,q,rfl,hs,hf⟩
end
end Go.Proofs.YtalnbgcdhcnjfaaGreatDoor
