/- Plain: the text of a tile set, read; the two tile sets that are given. No condition. · Contracts: the texts of the standard tile sets: the reference. -/
import Derived.Test.YtgphkffbbmmmmaaGreatDoorGam
import Derived.Test.YtgphkffbbmmmmaaGreatDoorMkU
import Derived.Test.YtgphkffbbmmmmaaGreatDoorFrame
namespace Go.Proofs.YtgphkffbbmmmmaaGreatDoor
open Go.ChangeShapes Go.WideShapes Go.ChangeAt Go.RowKit Go.Sort

def tlsNone:Tls:=⟨⟨#[]⟩,[],[],0⟩
/-- the two halves of a word of a tile set's text -/
def partS (w:List UInt8):Option (List UInt8 × List UInt8):=match splitL 120 w with
 | [p,q]=>if p=[] then none else some (p,q)
 | [p,q,r]=>if p=[] then some (120 :: q,r) else none
 | _=>none
/-- a word, read into a tile set -/
def wordS (t:Tls) (w:List UInt8):Tls × Bool:=match partS w with
 | none=>(t,false)
 | some (p,q) =>
  if p=[63] then ({ t with blanks:=(specNum q).getD 0 },(specNum q).isSome && decide (0 < (specNum q).getD 0))
  else ({ t with letters:=t.letters++mkB (p.take 1),values:=t.values++[(specNum (p.drop 1)).getD 0],counts:=t.counts++[(specNum q).getD 0] },(specNum q).isSome && ((specNum (p.drop 1)).isSome && decide (t.blanks=0)))
def wordsS:Tls→List (List UInt8)→Tls × Bool
 | t,[]=>(t,true)
 | t,w :: ws=>match wordS t w with
  | (t2,true)=>wordsS t2 ws
  | (t2,false)=>(t2,false)
/-- a letter's word -/
def tileW (t:Tls) (i:Nat):List UInt8:=t.letters.data.toList.getD i 0 :: (Lib.itoa (t.values.getD i 0)++120 :: Lib.itoa (t.counts.getD i 0))
def tilesK (t:Tls):Nat→List UInt8
 | 0=>[]
 | i+1=>if i=0 then tileW t 0 else tilesK t i++32 :: tileW t i
/-- the text of a tile set -/
def tilesT (t:Tls):List UInt8:=if 0 < t.blanks then tilesK t t.letters.size++[32,63,120]++Lib.itoa t.blanks else tilesK t t.letters.size
def readS (s:List UInt8):Tls × Bool :=
 if 27 < (splitL 32 s).length then (tlsNone,false)
 else if (wordsS tlsNone (splitL 32 s)).2=true∧(wordsS tlsNone (splitL 32 s)).1.ok=true∧tilesT (wordsS tlsNone (splitL 32 s)).1=s then ((wordsS tlsNone (splitL 32 s)).1,true) else (tlsNone,false)
def smallX:ByteArray:=⟨#[97,49,120,51,32,101,49,120,51,32,110,50,120,50,32,114,50,120,50,32,115,49,120,50,32,116,50,120,50,32,63,120,49]⟩
def smallT:Tls:=⟨⟨#[97,101,110,114,115,116]⟩,[1,1,2,2,1,2],[3,3,2,2,2,2],1⟩
theorem small_text:tilesT smallT=smallX.data.toList:=by kernel_rfl
theorem small_ok:smallT.ok=true:=by kernel_rfl
def englishX:ByteArray:=⟨#[97,49,120,57,32,98,51,120,50,32,99,51,120,50,32,100,50,120,52,32,101,49,120,49,50,32,102,52,120,50,32,103,50,120,51,32,104,52,120,50,32,105,49,120,57,32,106,56,120,49,32,107,53,120,49,32,108,49,120,52,32,109,51,120,50,32,110,49,120,54,32,111,49,120,56,32,112,51,120,50,32,113,49,48,120,49,32,114,49,120,54,32,115,49,120,52,32,116,49,120,54,32,117,49,120,52,32,118,52,120,50,32,119,52,120,50,32,120,56,120,49,32,121,52,120,50,32,122,49,48,120,49,32,63,120,50]⟩
def englishT:Tls:=⟨⟨#[97,98,99,100,101,102,103,104,105,106,107,108,109,110,111,112,113,114,115,116,117,118,119,120,121,122]⟩,[1,3,3,2,1,4,2,4,1,8,5,1,3,1,1,3,10,1,1,1,1,4,4,8,4,10],[9,2,2,4,12,2,3,2,9,1,1,4,2,6,8,2,1,6,4,6,4,2,2,1,2,1],2⟩
theorem english_text:tilesT englishT=englishX.data.toList:=by kernel_rfl
theorem english_ok:englishT.ok=true:=by kernel_rfl
end Go.Proofs.YtgphkffbbmmmmaaGreatDoor
namespace Go.Proofs.YtgphkffbbmmmmaaGreatDoor
open Go.ChangeShapes Go.WideShapes Go.ChangeAt Go.RowKit Go.Sort

def smallN:ByteArray:=⟨#[115,109,97,108,108]⟩
def englishN:ByteArray:=⟨#[101,110,103,108,105,115,104]⟩
def standX (s:ByteArray):ByteArray:=if s.data.toList=englishN.data.toList then englishX else if s.data.toList=smallN.data.toList then smallX else ⟨#[]⟩
end Go.Proofs.YtgphkffbbmmmmaaGreatDoor
