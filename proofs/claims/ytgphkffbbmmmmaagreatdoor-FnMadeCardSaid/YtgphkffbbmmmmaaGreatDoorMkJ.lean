/- Contract: the reference starts a game, where all is well. -/
import Derived.Test.YtgphkffbbmmmmaaGreatDoorMkQ
import Derived.Test.YtgphkffbbmmmmaaGreatDoorGpI
import Derived.Test.YtgphkffbbmmmmaaGreatDoorMkV
namespace Go.Proofs.YtgphkffbbmmmmaaGreatDoor
open Go.ChangeShapes Go.WideShapes Go.ChangeAt Go.RowKit Go.Sort

/-- a game of the call's own, and a code -/
def StartPost (x:Gam) (w:World) (e:Ending) (w':World):Prop :=
 ∃ r:GaA,e=.returned (.tuple #[.agg (gcells x r).toArray,.int .i64 0])∧x.Z r w.heap.size w'∧x.Off r∧Below w.heap.size w w'
theorem sat_new (w:World) (s:Stp) (q:StA) (t:TypeId) (h:s.At q w):SAt (w.alloc (.cells (scells s q).toArray t)) w.heap.size s q :=
 have V:=VarAt.new w t (scells s q)
 have hb:Below w.heap.size w (w.alloc (.cells (scells s q).toArray t)):=(Below.refl _ _).alloc (Nat.le_refl _) _
 ⟨⟨⟨V.cell (i:=0) rfl,V.cell (i:=1) rfl,V.cell (i:=2) rfl,V.cell (i:=3) rfl⟩,Tls.At.kept h.1 hb⟩,V.cell (i:=4) rfl,h.2.kept hb,⟨V.cell (i:=5) rfl,V.cell (i:=6) rfl,V.cell (i:=7) rfl⟩,V.cell (i:=8) rfl,V.cell (i:=9) rfl⟩
/-- a game whose rows are not there yet -/
def g1 (s:Stp) (bag:List UInt8):Gam:=⟨s,s.board,mkB (bag.drop 14),[],[],[],0,0,noLst,false⟩
def nrow:Rwa:=⟨none,0⟩
theorem bag_cut (bag:List UInt8):(mkB bag).extract 14 (mkB bag).size=mkB (bag.drop 14)∧(mkB bag).extract 0 7=mkB (bag.take 7)∧(mkB bag).extract 7 14=mkB ((bag.take 14).drop 7):=by
 refine ⟨?_,?_,?_⟩
 ·rw [← mkB_of ((mkB bag).extract 14 (mkB bag).size),Lib.extract_to_end,mkB_data]
 ·rw [← mkB_of ((mkB bag).extract 0 7)]
  congr 1
  simp [mkB_data]
 ·rw [← mkB_of ((mkB bag).extract 7 14)]
  congr 1
  simp [mkB_data,List.drop_take]
theorem all_tk {l:List UInt8} (h:l.all tileB=true) (n:Nat):(l.take n).all tileB=true:=List.all_eq_true.2 fun c hc=>List.all_eq_true.1 h c (List.mem_of_mem_take hc)
theorem all_dp {l:List UInt8} (h:l.all tileB=true) (n:Nat):(l.drop n).all tileB=true:=List.all_eq_true.2 fun c hc=>List.all_eq_true.1 h c (List.mem_of_mem_drop hc)
theorem own_two (w:World) (a b:Int):(w.alloc (.cells #[.int .i64 a,.int .i64 b] 2)).ownsRow w.heap.size 2 1 (.slice (some ⟨w.heap.size,0,none⟩) 2 2) 2 ([a,b].flatMap I64.enc) :=
 ⟨by simp [I64.enc],.inr ⟨w.heap.size,2,#[.int .i64 a,.int .i64 b],rfl,Nat.le_refl _,heap_alloc_new w _,Nat.le_refl _,by unfold maxLen;omega,by simp,by simp [I64.enc]⟩⟩
end Go.Proofs.YtgphkffbbmmmmaaGreatDoor
