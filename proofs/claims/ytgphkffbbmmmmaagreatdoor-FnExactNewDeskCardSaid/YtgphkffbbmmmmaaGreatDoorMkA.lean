/- Plain: the text of a tile set, read; the two tile sets that are given. No condition. · Contracts: the texts of the standard tile sets: the reference. · Plain: the premiums of a standard board; the shuffling of a bag. No condition. · Contracts: a standard board: the reference and the program. For every size. -/
import Derived.Test.YtgphkffbbmmmmaaGreatDoorGam
import Derived.Test.YtgphkffbbmmmmaaGreatDoorMkU
import Derived.Test.YtgphkffbbmmmmaaGreatDoorBase
import Derived.Test.YtgphkffbbmmmmaaGreatDoorBrD
namespace Go.Proofs.YtgphkffbbmmmmaaGreatDoor
open Go.ChangeShapes Go.WideShapes Go.ChangeAt Go.RowKit Go.Sort

def tlsNone:Tls:=⟨⟨#[]⟩,[],[],0⟩
/-- the two halves of a word of a tile set's text -/
def partS (w:List UInt8):Option (List UInt8 × List UInt8):=match splitL 120 w with
 | [p,q]=>if p=[] then none else some (p,q)
 | [p,q,r]=>if p=[] then some (120 :: q,r) else none
 | _=>none
/-- a letter's word -/
def tileW (t:Tls) (i:Nat):List UInt8:=t.letters.data.toList.getD i 0 :: (Lib.itoa (t.values.getD i 0)++120 :: Lib.itoa (t.counts.getD i 0))
def tilesK (t:Tls):Nat→List UInt8
 | 0=>[]
 | i+1=>if i=0 then tileW t 0 else tilesK t i++32 :: tileW t i
/-- the text of a tile set -/
def tilesT (t:Tls):List UInt8:=if 0 < t.blanks then tilesK t t.letters.size++[32,63,120]++Lib.itoa t.blanks else tilesK t t.letters.size
def smallX:ByteArray:=⟨#[97,49,120,51,32,101,49,120,51,32,110,50,120,50,32,114,50,120,50,32,115,49,120,50,32,116,50,120,50,32,63,120,49]⟩
def smallT:Tls:=⟨⟨#[97,101,110,114,115,116]⟩,[1,1,2,2,1,2],[3,3,2,2,2,2],1⟩
theorem small_text:tilesT smallT=smallX.data.toList:=by kernel_rfl
theorem small_ok:smallT.ok=true:=by kernel_rfl
def englishX:ByteArray:=⟨#[97,49,120,57,32,98,51,120,50,32,99,51,120,50,32,100,50,120,52,32,101,49,120,49,50,32,102,52,120,50,32,103,50,120,51,32,104,52,120,50,32,105,49,120,57,32,106,56,120,49,32,107,53,120,49,32,108,49,120,52,32,109,51,120,50,32,110,49,120,54,32,111,49,120,56,32,112,51,120,50,32,113,49,48,120,49,32,114,49,120,54,32,115,49,120,52,32,116,49,120,54,32,117,49,120,52,32,118,52,120,50,32,119,52,120,50,32,120,56,120,49,32,121,52,120,50,32,122,49,48,120,49,32,63,120,50]⟩
def englishT:Tls:=⟨⟨#[97,98,99,100,101,102,103,104,105,106,107,108,109,110,111,112,113,114,115,116,117,118,119,120,121,122]⟩,[1,3,3,2,1,4,2,4,1,8,5,1,3,1,1,3,10,1,1,1,1,4,4,8,4,10],[9,2,2,4,12,2,3,2,9,1,1,4,2,6,8,2,1,6,4,6,4,2,2,1,2,1],2⟩
theorem english_text:tilesT englishT=englishX.data.toList:=by kernel_rfl
theorem english_ok:englishT.ok=true:=by kernel_rfl
end Go.Proofs.YtgphkffbbmmmmaaGreatDoor
set_option maxRecDepth 100000
namespace Go.Proofs.YtgphkffbbmmmmaaGreatDoor
open Go.ChangeShapes Go.WideShapes Go.ChangeAt Go.RowKit Go.Sort

def smallN:ByteArray:=⟨#[115,109,97,108,108]⟩
def englishN:ByteArray:=⟨#[101,110,103,108,105,115,104]⟩
def standX (s:ByteArray):ByteArray:=if s.data.toList=englishN.data.toList then englishX else if s.data.toList=smallN.data.toList then smallX else ⟨#[]⟩
theorem l02Standard_any (s:ByteArray) (w:World):Calls Tryz.prog 54 #[.string s] w fun e w'=>e=.returned (.string (standX s))∧w=w':=by
 by_cases h1:s.data.toList=englishN.data.toList
 ·have HS:Hid (standX s=englishX):=Lh (if_pos h1)
  have q1:s.toList=[101,110,103,108,105,115,104]:=by rw [ByteArray.toList_eq];exact h1
  clear h1
  rw [HS.out]
  go_enter Tryz.func54,Tryz.ntmps54
  go_wp2
  go_ret
  exact ⟨rfl,rfl⟩
 ·have q1:(s.toList == [101,110,103,108,105,115,104])=false:=by rw [ByteArray.toList_eq];exact beq_eq_false_iff_ne.2 h1
  by_cases h2:s.data.toList=smallN.data.toList
  ·have HS:Hid (standX s=smallX):=Lh ((if_neg h1).trans (if_pos h2))
   have q2:s.toList=[115,109,97,108,108]:=by rw [ByteArray.toList_eq];exact h2
   clear h1 h2
   rw [HS.out]
   go_enter Tryz.func54,Tryz.ntmps54
   go_wp2
   go_ret
   exact ⟨rfl,rfl⟩
  ·have HS:Hid (standX s=⟨#[]⟩):=Lh ((if_neg h1).trans (if_neg h2))
   have q2:(s.toList == [115,109,97,108,108])=false:=by rw [ByteArray.toList_eq];exact beq_eq_false_iff_ne.2 h2
   clear h1 h2
   rw [HS.out]
   go_enter Tryz.func54,Tryz.ntmps54
   go_wp2
   go_ret
   exact ⟨rfl,rfl⟩
end Go.Proofs.YtgphkffbbmmmmaaGreatDoor
namespace Go.Proofs.YtgphkffbbmmmmaaGreatDoor
open Go.ChangeShapes Go.WideShapes Go.ChangeAt Go.RowKit Go.Sort

def mnI (a b:Int):Int:=if a < b then a else b
def mxI (a b:Int):Int:=if a > b then a else b
theorem mnI_min (a b:Int):min a b=mnI a b:=by unfold mnI;split<;>omega
theorem mxI_max (a b:Int):max a b=mxI a b:=by unfold mxI;split<;>omega
theorem mnI_rng {a b l h:Int} (ha:l≤a∧a≤h) (hb:l≤b∧b≤h):l≤mnI a b∧mnI a b≤h:=by unfold mnI;split<;>omega
theorem mxI_rng {a b l h:Int} (ha:l≤a∧a≤h) (hb:l≤b∧b≤h):l≤mxI a b∧mxI a b≤h:=by unfold mxI;split<;>omega
/-- the premium of a square that lies a and b from the edges; h: half of the last row's number -/
def stdA (a b h:Int):Int:=if a=0∧(b=0∨b=h) then 116 else if a=b then 100 else if (a+b) % 6=4 then 51 else if (a+b) % 4=3 then 50 else 46
def stdC (n r c:Int):Int:=stdA (mnI (mnI r (n - 1 - r)) (mnI c (n - 1 - c))) (mxI (mnI r (n - 1 - r)) (mnI c (n - 1 - c))) ((n - 1) / 2)
def stdB (n r c:Int):UInt8:=UInt8.ofNat (stdC n r c).toNat
theorem stdB_val (n r c:Int):((stdB n r c).toNat:Int)=stdC n r c:=by
 unfold stdB stdC stdA
 split
 ·rfl
 ·split
  ·rfl
  ·split
   ·rfl
   ·split<;>rfl
def stdL (n:Nat):List UInt8:=(List.range (n * n)).map (fun k=>stdB n ((k / n:Nat):Int) ((k % n:Nat):Int))
theorem stdL_len (n:Nat):(stdL n).length=n * n:=by simp [stdL]
theorem stdL_take {n r c m:Nat} (hr:r < n) (hc:c < n) (hm:m=r * n+c):(stdL n).take (m+1)=(stdL n).take m++[stdB n r c]:=by
 have h1:r * n+c < n * n:=row_ltn hr hc
 have hlt:m < (stdL n).length:=by rw [stdL_len,hm];exact h1
 rw [List.take_succ_eq_append_getElem hlt]
 congr 1
 have e1:m / n=r:=by rw [hm,Nat.mul_comm,Nat.mul_add_div (by omega),Nat.div_eq_of_lt hc,Nat.add_zero]
 have e2:m % n=c:=by rw [hm,Nat.mul_comm,Nat.mul_add_mod,Nat.mod_eq_of_lt hc]
 simp only [stdL,List.getElem_map,List.getElem_range,e1,e2]
/-- a standard board, and a code -/
def stdBoard (z:Int):Brd × Int:=if withinB z 5 15=true then (⟨z,mkB (stdL z.toNat),mkB (List.replicate (z.toNat * z.toNat) 46)⟩,0) else (⟨0,⟨#[]⟩,⟨#[]⟩⟩,2)
end Go.Proofs.YtgphkffbbmmmmaaGreatDoor
set_option maxHeartbeats 4000000
namespace Go.Proofs.YtgphkffbbmmmmaaGreatDoor
open Go.ChangeShapes Go.WideShapes Go.ChangeAt Go.RowKit Go.Sort

theorem mkMin_any (a b:Int) (w:World):Calls Tryz.prog 98 #[.int .i64 a,.int .i64 b] w fun e w'=>e=.returned (.int .i64 (mnI a b))∧w=w':=by
 go_enter Tryz.func98,Tryz.ntmps98
 go_wp2
 all_goals
  go_ret
  exact ⟨ret_int (by unfold mnI;split<;>omega),rfl⟩
theorem mkMax_any (a b:Int) (w:World):Calls Tryz.prog 99 #[.int .i64 a,.int .i64 b] w fun e w'=>e=.returned (.int .i64 (mxI a b))∧w=w':=by
 go_enter Tryz.func99,Tryz.ntmps99
 go_wp2
 all_goals
  go_ret
  exact ⟨ret_int (by unfold mxI;split<;>omega),rfl⟩
/-- the square's distances from the edges are small -/
theorem near {n r:Int} (hn:5≤n∧n≤15) (hr:0≤r∧r≤n - 1):0≤mnI r (n - 1 - r)∧mnI r (n - 1 - r)≤14:=by unfold mnI;split<;>omega
theorem l11Standard_any (n r c:Int) (w:World) (hn:5≤n∧n≤15) (hr:0≤r∧r≤n - 1) (hc:0≤c∧c≤n - 1) :
  Calls Tryz.prog 56 #[.int .i64 n,.int .i64 r,.int .i64 c] w fun e w'=>e=.returned (.int .u8 ((stdB n r c).toNat:Int))∧w=w':=by
 have HV:Hid (((stdB n r c).toNat:Int)=stdC n r c):=Lh (stdB_val n r c)
 unfold stdC at HV
 have hx:=near hn hr
 have hy:=near hn hc
 have ha:=mnI_rng hx hy
 have hb:=mxI_rng hx hy
 obtain ⟨hn0,hn1⟩:=hn
 obtain ⟨hr0,hr1⟩:=hr
 obtain ⟨hc0,hc1⟩:=hc
 go_enter Tryz.func56,Tryz.ntmps56
 go_wp2_with fail
 refine (mkMin_any _ _ _).mono ?_
 rintro e w' ⟨rfl,rfl⟩
 generalize mnI r (n - 1 - r)=x at *
 go_wp2_with fail
 refine (mkMin_any _ _ _).mono ?_
 rintro e w' ⟨rfl,rfl⟩
 generalize mnI c (n - 1 - c)=y at *
 go_wp2_with fail
 refine (mkMin_any _ _ _).mono ?_
 rintro e w' ⟨rfl,rfl⟩
 go_wp2_with fail
 refine (mkMax_any _ _ _).mono ?_
 rintro e w' ⟨rfl,rfl⟩
 generalize mnI x y=a at *
 generalize mxI x y=b at *
 obtain ⟨ha0,ha1⟩:=ha
 obtain ⟨hb0,hb1⟩:=hb
 clear hx hy
 by_cases h1:a=0
 ·by_cases h2:b=0
  ·go_wp2
   all_goals
    go_ret
    exact ⟨ret_int (by rw [HV.out];unfold stdA;(try simp only [beq_iff_eq,beq_eq_false_iff_ne,ne_eq] at *);(repeat' split)<;>omega),rfl⟩
  ·by_cases h3:b=(n - 1) / 2
   ·go_wp2
    all_goals
     go_ret
     exact ⟨ret_int (by rw [HV.out];unfold stdA;(try simp only [beq_iff_eq,beq_eq_false_iff_ne,ne_eq] at *);(repeat' split)<;>omega),rfl⟩
   ·go_wp2
    all_goals
     go_ret
     exact ⟨ret_int (by rw [HV.out];unfold stdA;(try simp only [beq_iff_eq,beq_eq_false_iff_ne,ne_eq] at *);(repeat' split)<;>omega),rfl⟩
 ·go_wp2
  all_goals
   go_ret
   exact ⟨ret_int (by rw [HV.out];unfold stdA;(try simp only [beq_iff_eq,beq_eq_false_iff_ne,ne_eq] at *);(repeat' split)<;>omega),rfl⟩
theorem standardPremium_any (n r c:Int) (w:World) (hn:5≤n∧n≤15) (hr:0≤r∧r≤n - 1) (hc:0≤c∧c≤n - 1) :
  Calls Tryz.prog 67 #[.int .i64 n,.int .i64 r,.int .i64 c] w fun e w'=>e=.returned (.int .u8 ((stdB n r c).toNat:Int))∧w=w':=by
 have HV:Hid (((stdB n r c).toNat:Int)=stdC n r c):=Lh (stdB_val n r c)
 unfold stdC at HV
 have hx:=near hn hr
 have hy:=near hn hc
 have ha:=mnI_rng hx hy
 have hb:=mxI_rng hx hy
 obtain ⟨hn0,hn1⟩:=hn
 obtain ⟨hr0,hr1⟩:=hr
 obtain ⟨hc0,hc1⟩:=hc
 go_enter Tryz.func67,Tryz.ntmps67
 go_upto_region 2 with fail
 rw [mnI_min,mnI_min]
 generalize mnI r (n - 1 - r)=x at *
 generalize mnI c (n - 1 - c)=y at *
 go_upto_region 3 with fail
 rw [mnI_min,mxI_max]
 generalize mnI x y=a at *
 generalize mxI x y=b at *
 obtain ⟨ha0,ha1⟩:=ha
 obtain ⟨hb0,hb1⟩:=hb
 clear hx hy
 by_cases h1:a=0
 ·by_cases h2:b=0
  ·go_wp2
   all_goals
    go_ret
    exact ⟨ret_int (by rw [HV.out];unfold stdA;(try simp only [beq_iff_eq,beq_eq_false_iff_ne,ne_eq] at *);(repeat' split)<;>omega),rfl⟩
  ·by_cases h3:b=(n - 1) / 2
   ·go_wp2
    all_goals
     go_ret
     exact ⟨ret_int (by rw [HV.out];unfold stdA;(try simp only [beq_iff_eq,beq_eq_false_iff_ne,ne_eq] at *);(repeat' split)<;>omega),rfl⟩
   ·go_wp2
    all_goals
     go_ret
     exact ⟨ret_int (by rw [HV.out];unfold stdA;(try simp only [beq_iff_eq,beq_eq_false_iff_ne,ne_eq] at *);(repeat' split)<;>omega),rfl⟩
 ·go_wp2
  all_goals
   go_ret
   exact ⟨ret_int (by rw [HV.out];unfold stdA;(try simp only [beq_iff_eq,beq_eq_false_iff_ne,ne_eq] at *);(repeat' split)<;>omega),rfl⟩
end Go.Proofs.YtgphkffbbmmmmaaGreatDoor
