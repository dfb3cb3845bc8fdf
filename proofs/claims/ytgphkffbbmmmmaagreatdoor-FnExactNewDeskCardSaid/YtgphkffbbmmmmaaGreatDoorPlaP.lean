/- Plain definitions and lemmas: words that are placed; strings.ToLower keeps no string of letters but such of ASCII. No condition. · Plain definitions and lemmas: plays on boards: whether one fits, the squares that it fills, the words that it forms. No condition. -/
import Derived.Test.YtgphkffbbmmmmaaGreatDoorBrA
import Derived.Test.YtgphkffbbmmmmaaGreatDoorBrI
import Derived.Test.YtgphkffbbmmmmaaGreatDoorLex
import Derived.Lib.MapLaws
import Derived.Lib.TrimAscii
import Derived.Lib.TrimU
import Derived.Shelf.Strings.CaseAny
import Derived.Test.YtgphkffbbmmmmaaGreatDoorTx
namespace Go.Proofs.YtgphkffbbmmmmaaGreatDoor
open Go.ChangeShapes Go.WideShapes Go.ChangeAt Go.RowKit Go.Sort

def placedL (l:List UInt8):Bool:=decide (1≤l.length) && decide (l.length≤12) && l.all (fun c=>letB c.toNat)
def mainL (l:List UInt8):Bool:=decide (2≤l.length) && placedL l

end Go.Proofs.YtgphkffbbmmmmaaGreatDoor

namespace Go.Proofs.YtgphkffbbmmmmaaGreatDoor
open Go.ChangeShapes Go.WideShapes Go.ChangeAt Go.RowKit Go.Sort

def Ply.r (p:Ply):Int:=if p.down then p.col else p.row
def Ply.c (p:Ply):Int:=if p.down then p.row else p.col
def Ply.turn (p:Ply):Ply:=⟨p.col,p.row,!p.down,p.word⟩
/-- the play as an across play -/
def Ply.flat (p:Ply):Ply:=if p.down then p.turn else p
/-- what an across play sees: a square is 46 (free) or its letter -/
def fitTo (F:Fl) (R C:Int) (l:List UInt8) (k:Nat):Bool:=(List.range k).all fun i=>F R (C+i) == 46 || F R (C+i) == l.getD i 0
def freeTo (F:Fl) (R C:Int) (k:Nat):Bool:=(List.range k).any fun i=>F R (C+i) == 46
def fitsF (F:Fl) (n:Int) (R C:Int) (l:List UInt8):Bool :=
 withinB R 0 (n - 1) && withinB C 0 (n - 1) && decide (C+l.length≤n) && !fullC (F R (C - 1)) && !fullC (F R (C+l.length)) && fitTo F R C l l.length && freeTo F R C l.length
def Brd.view (b:Brd) (p:Ply):Fl:=(b.flat p.down).cell
def Brd.fits (b:Brd) (p:Ply):Bool:=fitsF (b.view p) b.size p.r p.c p.word.data.toList
def Brd.okPlay (b:Brd) (p:Ply):Bool:=b.ok && mainL p.word.data.toList && b.fits p
theorem Brd.Good.view {b:Brd} {n:Nat} (h:b.Good n) (p:Ply):b.view p=if p.down then fun r c=>b.cell c r else b.cell:=by
 unfold Brd.view Brd.flat
 cases p.down
 ·rfl
 ·exact h.turn_cell
/-- a valid play on a valid board, seen across -/
structure PGood (b:Brd) (p:Ply) (n:Nat):Prop where
 good:b.Good n
 two:2≤p.word.size
 twelve:p.word.size≤12
 letters:p.word.data.toList.all (fun c=>letB c.toNat)=true
 r0:0≤p.r
 r1:p.r < n
 c0:0≤p.c
 c1:p.c+p.word.size≤n
 before:fullC (b.view p p.r (p.c - 1))=false
 behind:fullC (b.view p p.r (p.c+p.word.size))=false
 fit:fitTo (b.view p) p.r p.c p.word.data.toList p.word.size=true
 free:freeTo (b.view p) p.r p.c p.word.size=true
theorem mainL_iff {l:List UInt8}:mainL l=true↔2≤l.length∧l.length≤12∧l.all (fun c=>letB c.toNat)=true:=by
 unfold mainL placedL
 simp only [Bool.and_eq_true,decide_eq_true_eq]
 constructor
 ·rintro ⟨h1,⟨h2,h3⟩,h4⟩;exact ⟨h1,h3,h4⟩
 ·rintro ⟨h1,h2,h3⟩;exact ⟨h1,⟨by omega,h2⟩,h3⟩
theorem PGood.ok {b:Brd} {p:Ply} {n:Nat} (h:PGood b p n):b.okPlay p=true:=by
 obtain ⟨hn,m1,m2,m3,r0,r1,c0,c1,a4,a5,a6,a7⟩:=h
 have hl:p.word.data.toList.length=p.word.size:=by simp
 have hs:=hn.size
 unfold Brd.okPlay Brd.fits fitsF
 simp only [Bool.and_eq_true,Bool.not_eq_true',decide_eq_true_eq,within_iff,hl]
 exact ⟨⟨hn.ok,mainL_iff.2 ⟨by omega,by omega,m3⟩⟩,⟨⟨⟨⟨⟨⟨⟨r0,by omega⟩,c0,by omega⟩,by omega⟩,a4⟩,a5⟩,a6⟩,a7⟩⟩
/-- the offsets of the letters that are placed -/
def freshL (F:Fl) (R C:Int) (k:Nat):List Nat:=(List.range k).filter fun i=>F R (C+i) == 46
def Brd.fresh (b:Brd) (p:Ply):List Nat:=freshL (b.view p) p.r p.c p.word.size
/-- a word across, through a square on which a letter is placed -/
def crossW (F:Fl) (R C:Int) (x:UInt8):List UInt8:=(upL F C 16 (R - 1)).reverse++x :: dnL F C 16 (R+1)
/-- the words across that the first offsets of a list form -/
def acrossL (F:Fl) (R C:Int) (l:List UInt8) (is:List Nat):List (List UInt8):=(is.map fun i:Nat=>crossW F R (C+i) (l.getD i 0)).filter fun w=>decide (1 < w.length)
def Brd.formed (b:Brd) (p:Ply):List (List UInt8):=p.word.data.toList :: acrossL (b.view p) p.r p.c p.word.data.toList (b.fresh p)
def Brd.words (b:Brd) (p:Ply):List ByteArray:=(b.formed p).map fun l=>mkB (lowL l)
end Go.Proofs.YtgphkffbbmmmmaaGreatDoor
