/- Contracts: the program's placed words and the squares of a play. Go's tables of unicode and unicode/utf8 hold what is laid (CEnv). · Contracts: the program's test on plays. Go's tables of unicode and unicode/utf8 hold what is laid (CEnv). -/
import Derived.Test.YtgphkffbbmmmmaaGreatDoorPlaP
import Derived.Test.YtgphkffbbmmmmaaGreatDoorBrI
import Derived.Test.YtgphkffbbmmmmaaGreatDoorPlaD
namespace Go.Proofs.YtgphkffbbmmmmaaGreatDoor
open Go.ChangeShapes Go.WideShapes Go.ChangeAt Go.RowKit Go.Sort

/-- Go's tables -/
def CEnv (w:World):Prop:=Lib.CaseVar 8 Lib.caseA w∧Lib.Utf8Tabs 2 3 w
theorem CEnv.kept {w w':World} (h:CEnv w) (hb:Below w.heap.size w w'):CEnv w' :=
 ⟨Lib.CaseVar_below h.1 hb,fun c hc=>cell_kept (h.2.1 c hc) hb,fun i hi=>⟨cell_kept (h.2.2 i hi).1 hb,cell_kept (h.2.2 i hi).2 hb⟩⟩
def Ply.sr (p:Ply) (k:Int):Int:=if p.down then p.row+k else p.row
def Ply.sc (p:Ply) (k:Int):Int:=if p.down then p.col else p.col+k
theorem Brd.Good.sq {b:Brd} {n:Nat} (h:b.Good n) (p:Ply) (k:Int):b.cell (p.sr k) (p.sc k)=b.view p p.r (p.c+k):=by
 rw [h.view]
 unfold Ply.sr Ply.sc Ply.r Ply.c
 cases p.down<;>rfl
end Go.Proofs.YtgphkffbbmmmmaaGreatDoor

namespace Go.Proofs.YtgphkffbbmmmmaaGreatDoor
open Go.ChangeShapes Go.WideShapes Go.ChangeAt Go.RowKit Go.Sort

/-! ### Plain -/
theorem Brd.Good.last {b:Brd} {n:Nat} (h:b.Good n) {p:Ply} (hi:b.inB p.row p.col=true) {k:Nat} (hk:2≤k):b.inB (p.sr ((k:Int) - 1)) (p.sc ((k:Int) - 1))=true↔p.c+k≤n:=by
 have h1:=h.inB.1 hi
 rw [h.inB]
 unfold Ply.sr Ply.sc Ply.c
 cases p.down<;>simp only [if_true,if_false,Bool.false_eq_true]<;>omega
end Go.Proofs.YtgphkffbbmmmmaaGreatDoor
