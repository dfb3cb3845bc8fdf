/- Plain lemmas: a variable of a function that lies in memory (a block of its own), known whole. No condition. · Plain lemmas: a variable of many cells is loaded and stored as a whole. No condition. · Plain lemmas: a range over a string of ASCII bytes whose round may make memory: the iterator's own block. No condition but that. · Plain lemmas for the statements' own functions: a variable that a drawn statement makes and fills with a row of the callee's. No condition. · The world behind a floating alloc, as a letter: ahead of a call, and ahead of one operation. No condition. · The world behind a floating alloc as a letter, ahead of a step of a region that draws its order; a row that is appended to beside a box. No condition. -/
import Derived.Test.YtgphkffbbmmmmaaGreatDoorBase
import Derived.Deep.AppendLies
import Derived.Deep.MidRow
import Derived.Laws.ResultCell
import Derived.Laws.RangeString
import Derived.Laws.RangeAny
import Derived.Deep.RegionHeld3
import Derived.Deep.DeepCutAuto
namespace Go.Proofs.YtgphkffbbmmmmaaGreatDoor
open Go.ChangeShapes Go.WideShapes Go.ChangeAt Go.RowKit Go.Sort

/-- block g holds the cells cs, and none is frozen -/
def VarAt (w:World) (g:Nat) (t:TypeId) (cs:List Value):Prop:=w.ownsRow 0 t cs.length (.slice (some ⟨g,0,none⟩) 1 1) 1 cs
theorem VarAt.new (w:World) (t:TypeId) (cs:List Value):VarAt (w.alloc (.cells cs.toArray t)) w.heap.size t cs :=
 ⟨by simp,.inr ⟨w.heap.size,1,cs.toArray,rfl,Nat.zero_le _,heap_alloc_new w _,Nat.le_refl _,by unfold maxLen;omega,by simp,by simp⟩⟩
theorem VarAt.lt {w:World} {g:Nat} {t:TypeId} {cs:List Value} (h:VarAt w g t cs):g < w.heap.size:=(World.ownsRow.lt h g rfl).2
theorem VarAt.cell {w:World} {g:Nat} {t:TypeId} {cs:List Value} (h:VarAt w g t cs) {i:Nat} {v:Value} (hv:cs[i]?=some v):w.cell? ⟨g,i,none⟩=some v:=by
 have hi:i < 1 * cs.length:=by have:=(List.getElem?_eq_some_iff.1 hv).1;omega
 rw [World.ownsRow.cellAt h i hi]
 exact hv
theorem VarAt.free {w:World} {g:Nat} {t:TypeId} {cs:List Value} (h:VarAt w g t cs) (i:Nat):w.frozen? ⟨g,i,none⟩=false:=World.ownsRow.frozenAt h i
theorem VarAt.grown {w w':World} {g:Nat} {t:TypeId} {cs:List Value} (h:VarAt w g t cs) {row:Option Nat} (hg:w.grownBy w' row) (hne:some g≠row):VarAt w' g t cs :=
 World.ownsRow.kept h hg (.inr (by simpa [Value.ownBlock] using hne))
theorem VarAt.kept {w w':World} {g:Nat} {t:TypeId} {cs:List Value} (h:VarAt w g t cs) (hb:Below w.heap.size w w'):VarAt w' g t cs:=own_below h hb
theorem VarAt.set {w:World} {g:Nat} {t:TypeId} {cs:List Value} (h:VarAt w g t cs) (i:Nat) (v:Value):VarAt (w.setCell ⟨g,i,none⟩ v) g t (cs.set i v)∧w.grownBy (w.setCell ⟨g,i,none⟩ v) (some g):=by
 obtain ⟨h1,h2⟩:=World.ownsRow.stored h i v
 refine ⟨?_,h2⟩
 unfold VarAt
 rw [List.length_set]
 exact h1
theorem VarAt.as {w:World} {g:Nat} {t:TypeId} {cs cs':List Value} (h:VarAt w g t cs) (e:cs=cs'):VarAt w g t cs':=e ▸ h
theorem own_ne {w:World} {base:Nat} {e:TypeId} {sz:Nat} {v:Value} {n:Nat} {L:List Value} (h:w.ownsRow base e sz v n L) {G:Nat} (hG:G < base):some G≠v.ownBlock:=fun he=>by have:=(h.lt G he.symm).1;omega
end Go.Proofs.YtgphkffbbmmmmaaGreatDoor

namespace Go.Proofs.YtgphkffbbmmmmaaGreatDoor
open Go.ChangeShapes Go.WideShapes Go.ChangeAt Go.RowKit Go.Sort

theorem VarAt.range {w:World} {g:Nat} {t:TypeId} {cs:List Value} (h:VarAt w g t cs):w.rangeAt g 0 cs:=fun j v hv=>by
 rw [Nat.zero_add];exact h.cell hv
theorem VarAt.there {w:World} {g:Nat} {t:TypeId} {cs:List Value} (h:VarAt w g t cs) {n:Nat} (hn:n=cs.length):w.there g 0 n:=fun j hj=>by
 rw [Nat.zero_add]
 subst hn
 refine ⟨?_,h.free j⟩
 rw [h.cell (List.getElem?_eq_getElem hj)]
 rfl
theorem set_cells (g:Nat) (t:TypeId):∀ (vs:List Value) (o:Nat) (w:World) (cs:List Value),VarAt w g t cs→w.grownBy (w.setCells g o vs) (some g)
 | [],_,w,_,_=>grown_of_below (Below.refl _ _)
 | v :: r,o,w,cs,V=>by
  obtain ⟨V2,k⟩:=V.set o v
  exact grownBy_trans k (set_cells g t r (o+1) _ _ V2)
theorem results_cell_var {P:Program} {fn:Func} {p:Tmp} {ty:TypeId} (h:fn.results=#[.cell p ty]) (tmps:Array Value) (w:World) (a:Addr) (v:Value)
  (hp:tmps.getD p undef=.pointer (some a)) (hv:(loadVar ty a).run P w=.ok v w):(results fn tmps).run P w=.ok v w:=by
 have hp':tmps[p]?.getD undef=.pointer (some a):=by simpa using hp
 simp [results,h,hp',asAddr,hv]
theorem VarAt.setMany {g:Nat} {t:TypeId}:∀ (vs:List Value) (o:Nat) {w:World} {cs:List Value},VarAt w g t cs→VarAt (w.setCells g o vs) g t (setR cs o vs)
 | [],_,_,_,h=>h
 | v :: r,o,_,_,h=>VarAt.setMany r (o+1) (h.set o v).1
/-- a variable is stored as a whole -/
theorem VarAt.put {w:World} {g:Nat} {t:TypeId} {cs:List Value} (h:VarAt w g t cs) (vs:List Value) (hl:vs.length=cs.length):VarAt (w.setCells g 0 vs) g t vs∧w.grownBy (w.setCells g 0 vs) (some g):=by
 refine ⟨?_,set_cells g t vs 0 w cs h⟩
 have h2:=VarAt.setMany vs 0 h
 have e:=setR_append vs [] cs 0 rfl (by omega)
 rw [List.nil_append,List.nil_append,hl,List.drop_length,List.append_nil] at e
 rwa [e] at h2
theorem results_cell_tmp_var {P:Program} {fn:Func} {p u:Tmp} {ty:TypeId} (h:fn.results=#[.cell p ty,.tmp u]) (tmps:Array Value) (w:World) (a:Addr) (v:Value)
  (hp:tmps.getD p undef=.pointer (some a)) (hv:(loadVar ty a).run P w=.ok v w):(results fn tmps).run P w=.ok (.tuple #[v,tmps.getD u undef]) w:=by
 rw [results_cell_tmp h,hp]
 simp [asAddr,Result.andThen,hv]
end Go.Proofs.YtgphkffbbmmmmaaGreatDoor

namespace Go.Proofs.YtgphkffbbmmmmaaGreatDoor
open Go.ChangeShapes Go.WideShapes Go.ChangeAt Go.RowKit Go.Sort

/-- block it is the iterator of a range over s, at pos -/
def IterAt (w:World) (it:Nat) (s:ByteArray) (pos:Nat):Prop:=w.heap[it]?=some (.stringIter s pos)
theorem IterAt.new (w:World) (s:ByteArray):IterAt (w.iter s 0) w.heap.size s 0:=World.iter_heap w s 0
theorem IterAt.lt {w:World} {it:Nat} {s:ByteArray} {pos:Nat} (h:IterAt w it s pos):it < w.heap.size:=(Array.getElem?_eq_some_iff.1 h).1
theorem IterAt.kept {w w':World} {it:Nat} {s:ByteArray} {pos:Nat} (h:IterAt w it s pos) (hb:Below w.heap.size w w'):IterAt w' it s pos:=(hb.block it h.lt).trans h
theorem IterAt.grown {w w':World} {it:Nat} {s:ByteArray} {pos:Nat} (h:IterAt w it s pos) {row:Option Nat} (hg:w.grownBy w' row) (hne:some it≠row):IterAt w' it s pos:=(hg.block it h.lt hne).trans h
theorem IterAt.pos {w:World} {it:Nat} {s:ByteArray} {pos:Nat} (h:IterAt w it s pos):w.iterPos it=pos:=by
 unfold IterAt at h
 simp [World.iterPos,h]
end Go.Proofs.YtgphkffbbmmmmaaGreatDoor

namespace Go.Proofs.YtgphkffbbmmmmaaGreatDoor
open Go.ChangeShapes Go.WideShapes Go.ChangeAt Go.RowKit Go.Sort

end Go.Proofs.YtgphkffbbmmmmaaGreatDoor

namespace Go.Proofs.YtgphkffbbmmmmaaGreatDoor
open Go.ChangeShapes Go.WideShapes Go.ChangeAt Go.RowKit Go.Sort

end Go.Proofs.YtgphkffbbmmmmaaGreatDoor

namespace Go.Proofs.YtgphkffbbmmmmaaGreatDoor
open Go.ChangeShapes Go.WideShapes Go.ChangeAt Go.RowKit Go.Sort

theorem flat_snoc {α:Type} (enc:α→List Value) (xs:List α) (x:α):xs.flatMap enc++enc x=(xs++[x]).flatMap enc:=by simp
end Go.Proofs.YtgphkffbbmmmmaaGreatDoor
