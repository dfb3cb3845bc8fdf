/- Contracts: the program's new squares of a play. For valid plays on valid boards. · Contract: the program's board after a play. For valid plays on valid boards. · Contract: the program's board after a play, the walk. For valid plays on valid boards. -/
import Derived.Test.YtgphkffbbmmmmaaGreatDoorPlbB
import Derived.Test.YtgphkffbbmmmmaaGreatDoorVar
namespace Go.Proofs.YtgphkffbbmmmmaaGreatDoor
open Go.ChangeShapes Go.WideShapes Go.ChangeAt Go.RowKit Go.Sort

def Sq.enc (s:Int × Int):List Value:=[.int .i64 s.1,.int .i64 s.2]
theorem Sq.enc_len (s:Int × Int):(Sq.enc s).length=2:=rfl
def sqOf (p:Ply) (i:Nat):Int × Int:=(p.sr i,p.sc i)
theorem PGood.rows {b:Brd} {p:Ply} {n:Nat} (h:PGood b p n):(-100≤p.row∧p.row≤100)∧(-100≤p.col∧p.col≤100):=by
 have h0:=h.good.hi
 have h1:=h.r0
 have h2:=h.r1
 have h3:=h.c0
 have h4:=h.c1
 unfold Ply.r at h1 h2
 unfold Ply.c at h3 h4
 cases hd:p.down<;>rw [hd] at h1 h2 h3 h4<;>simp only [if_true,if_false,Bool.false_eq_true] at h1 h2 h3 h4<;>omega
end Go.Proofs.YtgphkffbbmmmmaaGreatDoor

namespace Go.Proofs.YtgphkffbbmmmmaaGreatDoor
open Go.ChangeShapes Go.WideShapes Go.ChangeAt Go.RowKit Go.Sort

/-! ### Plain -/
def Ply.idx (p:Ply) (n k:Nat):Nat:=(p.sr k * n+p.sc k).toNat
def madeK (n:Nat) (p:Ply) (L:List UInt8):Nat→List UInt8
 | 0=>L
 | k+1=>(madeK n p L k).set (p.idx n k) (p.word.data.toList.getD k 0)
def Brd.made (b:Brd) (p:Ply):Brd:=⟨b.size,b.premium,mkB (madeK b.size.toNat p b.cells.data.toList p.word.size)⟩
/-- the squares of a valid play lie on the board -/
theorem PGood.sq_in {b:Brd} {p:Ply} {n:Nat} (h:PGood b p n) {k:Nat} (hk:k < p.word.size):(0≤p.sr k∧p.sr k < n)∧0≤p.sc k∧p.sc k < n:=by
 have h1:=h.r0
 have h2:=h.r1
 have h3:=h.c0
 have h4:=h.c1
 unfold Ply.r at h1 h2
 unfold Ply.c at h3 h4
 unfold Ply.sr Ply.sc
 cases hd:p.down<;>rw [hd] at h1 h2 h3 h4<;>simp only [if_true,if_false,Bool.false_eq_true] at h1 h2 h3 h4 ⊢<;>omega
end Go.Proofs.YtgphkffbbmmmmaaGreatDoor

namespace Go.Proofs.YtgphkffbbmmmmaaGreatDoor
open Go.ChangeShapes Go.WideShapes Go.ChangeAt Go.RowKit Go.Sort

end Go.Proofs.YtgphkffbbmmmmaaGreatDoor
