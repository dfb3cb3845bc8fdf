/- Contracts: the winner of a game: the program and the reference. Go's tables of unicode and · Contract: the reference's decimal form of a number. No condition but that the number is an · Contracts: the line of scores of a game: the reference. A valid game. -/
import Derived.Test.YtgphkffbbmmmmaaGreatDoorGmN
import Derived.Test.YtgphkffbbmmmmaaGreatDoorVar
import Derived.Test.YtgphkffbbmmmmaaGreatDoorMkU
import Derived.Lib.ItoaLen
import Derived.Handy
import Derived.OwnWalk
import Derived.Deep.DeepMust
import Derived.Laws.AppendOwn
import Derived.Test.YtgphkffbbmmmmaaGreatDoorMkV
namespace Go.Proofs.YtgphkffbbmmmmaaGreatDoor
open Go.ChangeShapes Go.WideShapes Go.ChangeAt Go.RowKit Go.Sort

/-- who has won, and a code -/
def Gam.winner (x:Gam):Int × Int:=if x.ok=false then (0,1) else if x.over=false then (0,6) else if x.scores.getD 1 0 < x.scores.getD 0 0 then (0,0) else if x.scores.getD 0 0 < x.scores.getD 1 0 then (1,0) else (-1,0)
end Go.Proofs.YtgphkffbbmmmmaaGreatDoor

namespace Go.Proofs.YtgphkffbbmmmmaaGreatDoor
open Go.ChangeShapes Go.WideShapes Go.ChangeAt Go.RowKit Go.Sort

/-- what a valid game knows -/
structure Gam.Fine (x:Gam):Prop where
 tiles:x.setup.tiles.ok=true
 lexicon:lexOk x.setup.lexicon=true
 board:x.board.ok=true
 rule:0≤x.setup.rule∧x.setup.rule≤3
 racks:x.racks.length=2
 scores:x.scores.length=2
 clocks:x.clocks.length=2
 player:0≤x.player∧x.player≤1
 zeros:0≤x.zeros∧x.zeros≤6
 rack:∀ k,k < 2→rackOk (x.rack k).data.toList=true
 score:∀ k,k < 2→-100000≤x.scores.getD k 0∧x.scores.getD k 0≤100000
 clock:∀ k,k < 2→-36000≤x.clocks.getD k 0∧x.clocks.getD k 0≤36000
 bag:bagOk x.bag.data.toList=true
 open6:x.over=false→x.zeros < 6
theorem withinB_iff {x lo hi:Int}:withinB x lo hi=true↔lo≤x∧x≤hi:=by
 unfold withinB
 rw [Bool.and_eq_true,decide_eq_true_eq,decide_eq_true_eq]
theorem Gam.fine {x:Gam} (h:x.ok=true):x.Fine:=by
 unfold Gam.ok Gam.headOk Gam.listOk Gam.sideOk at h
 simp only [Bool.and_eq_true,Bool.or_eq_true,decide_eq_true_eq,withinB_iff] at h
 obtain ⟨⟨h1,h2,_,_,h5⟩,⟨h6,h7,h8,h9⟩,⟨a1,a2,a3⟩,⟨b1,b2,b3⟩,h10,h11,_,_⟩:=h
 have g:=Stp.good h1
 have hr:=g.rule
 rw [withinB_iff] at hr
 refine ⟨g.tiles,g.lexicon,h2,hr,h6,h7,h8,h9,h10,?_,?_,?_,h5,fun ho=>?_⟩
 ·intro k hk
  match k,hk with
  | 0,_=>exact a1
  | 1,_=>exact b1
 ·intro k hk
  match k,hk with
  | 0,_=>exact a2
  | 1,_=>exact b2
 ·intro k hk
  match k,hk with
  | 0,_=>exact a3
  | 1,_=>exact b3
 ·rcases h11 with h | h
  ·rw [ho] at h;cases h
  ·exact h
structure Edg where
 board:Brd
 mine:ByteArray
 theirs:ByteArray
 passed:Bool
def Edg.zero:Edg:=⟨⟨0,⟨#[]⟩,⟨#[]⟩⟩,⟨#[]⟩,⟨#[]⟩,false⟩
/-- the value of the first k bytes -/
def Tls.sumK (x:Tls) (s:ByteArray):Nat→Int
 | 0=>0
 | k+1=>x.sumK s k+x.val (s.data.toList.getD k 0)
def Tls.sum (x:Tls) (s:ByteArray):Int:=x.sumK s s.size
/-- the penalty for a clock -/
def pen (c:Int):Int:=if 0≤c then 0 else 10 * ((59 - c) / 60)
/-- by what the score of a player changes -/
def Gam.chg (x:Gam) (k:Nat):Int:=- x.setup.tiles.sum (x.rack k) - pen (x.clocks.getD k 0)+(if (x.rack k).size=0 then x.setup.tiles.sum (x.rack (1 - k)) else 0)
def Gam.change (x:Gam):List Int:=[x.chg 0,x.chg 1]
end Go.Proofs.YtgphkffbbmmmmaaGreatDoor
namespace Go.Proofs.YtgphkffbbmmmmaaGreatDoor
open Go.ChangeShapes Go.WideShapes Go.ChangeAt Go.RowKit Go.Sort

end Go.Proofs.YtgphkffbbmmmmaaGreatDoor
namespace Go.Proofs.YtgphkffbbmmmmaaGreatDoor
open Go.ChangeShapes Go.WideShapes Go.ChangeAt Go.RowKit Go.Sort

/-- the numbers of the line -/
def lineOf (a b c d e:Int):List UInt8:=Lib.itoa a++[32]++Lib.itoa b++[32]++Lib.itoa c++[32]++Lib.itoa d++[32]++Lib.itoa e
def overL (l:List UInt8) (b:Bool):List UInt8:=if b=true then l++[32,111,118,101,114] else l
def Gam.lineL (x:Gam):List UInt8:=overL (lineOf (x.scores.getD 0 0) (x.scores.getD 1 0) x.player x.bag.size x.zeros) x.over
def Gam.scoreL (x:Gam):List UInt8:=if x.ok=true then x.lineL else []
theorem lineOf_len {a b c d e:Int} (ha:-100000≤a∧a≤100000) (hb:-100000≤b∧b≤100000) (hc:-100000≤c∧c≤100000) (hd:-100000≤d∧d≤100000) (he:-100000≤e∧e≤100000):(lineOf a b c d e).length≤109:=by
 have h1:=Lib.itoa_length_le a (by omega) (by omega)
 have h2:=Lib.itoa_length_le b (by omega) (by omega)
 have h3:=Lib.itoa_length_le c (by omega) (by omega)
 have h4:=Lib.itoa_length_le d (by omega) (by omega)
 have h5:=Lib.itoa_length_le e (by omega) (by omega)
 unfold lineOf
 simp only [List.length_append,List.length_cons,List.length_nil]
 omega
end Go.Proofs.YtgphkffbbmmmmaaGreatDoor
