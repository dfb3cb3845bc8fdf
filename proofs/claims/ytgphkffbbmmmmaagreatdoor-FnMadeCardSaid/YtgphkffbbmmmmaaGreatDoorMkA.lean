/- Plain: the premiums of a standard board; the shuffling of a bag. No condition. · Contracts: a standard board: the reference and the program. For every size. -/
import Derived.Test.YtgphkffbbmmmmaaGreatDoorGam
import Derived.Test.YtgphkffbbmmmmaaGreatDoorMkU
import Derived.Test.YtgphkffbbmmmmaaGreatDoorBrI
namespace Go.Proofs.YtgphkffbbmmmmaaGreatDoor
open Go.ChangeShapes Go.WideShapes Go.ChangeAt Go.RowKit Go.Sort

def mnI (a b:Int):Int:=if a < b then a else b
def mxI (a b:Int):Int:=if a > b then a else b
theorem mnI_min (a b:Int):min a b=mnI a b:=by unfold mnI;split<;>omega
theorem mxI_max (a b:Int):max a b=mxI a b:=by unfold mxI;split<;>omega
theorem mnI_rng {a b l h:Int} (ha:l≤a∧a≤h) (hb:l≤b∧b≤h):l≤mnI a b∧mnI a b≤h:=by unfold mnI;split<;>omega
theorem mxI_rng {a b l h:Int} (ha:l≤a∧a≤h) (hb:l≤b∧b≤h):l≤mxI a b∧mxI a b≤h:=by unfold mxI;split<;>omega
/-- the premium of a square that lies a and b from the edges; h: half of the last row's number -/
def stdA (a b h:Int):Int:=if a=0∧(b=0∨b=h) then 116 else if a=b then 100 else if (a+b) % 6=4 then 51 else if (a+b) % 4=3 then 50 else 46
def stdC (n r c:Int):Int:=stdA (mnI (mnI r (n - 1 - r)) (mnI c (n - 1 - c))) (mxI (mnI r (n - 1 - r)) (mnI c (n - 1 - c))) ((n - 1) / 2)
def stdB (n r c:Int):UInt8:=UInt8.ofNat (stdC n r c).toNat
theorem stdB_val (n r c:Int):((stdB n r c).toNat:Int)=stdC n r c:=by
 unfold stdB stdC stdA
 split
 ·rfl
 ·split
  ·rfl
  ·split
   ·rfl
   ·split<;>rfl
def stdL (n:Nat):List UInt8:=(List.range (n * n)).map (fun k=>stdB n ((k / n:Nat):Int) ((k % n:Nat):Int))
theorem stdL_len (n:Nat):(stdL n).length=n * n:=by simp [stdL]
theorem stdL_take {n r c m:Nat} (hr:r < n) (hc:c < n) (hm:m=r * n+c):(stdL n).take (m+1)=(stdL n).take m++[stdB n r c]:=by
 have h1:r * n+c < n * n:=row_ltn hr hc
 have hlt:m < (stdL n).length:=by rw [stdL_len,hm];exact h1
 rw [List.take_succ_eq_append_getElem hlt]
 congr 1
 have e1:m / n=r:=by rw [hm,Nat.mul_comm,Nat.mul_add_div (by omega),Nat.div_eq_of_lt hc,Nat.add_zero]
 have e2:m % n=c:=by rw [hm,Nat.mul_comm,Nat.mul_add_mod,Nat.mod_eq_of_lt hc]
 simp only [stdL,List.getElem_map,List.getElem_range,e1,e2]
/-- a standard board, and a code -/
def stdBoard (z:Int):Brd × Int:=if withinB z 5 15=true then (⟨z,mkB (stdL z.toNat),mkB (List.replicate (z.toNat * z.toNat) 46)⟩,0) else (⟨0,⟨#[]⟩,⟨#[]⟩⟩,2)
end Go.Proofs.YtgphkffbbmmmmaaGreatDoor
set_option maxHeartbeats 4000000
namespace Go.Proofs.YtgphkffbbmmmmaaGreatDoor
open Go.ChangeShapes Go.WideShapes Go.ChangeAt Go.RowKit Go.Sort

/-- the square's distances from the edges are small -/
theorem near {n r:Int} (hn:5≤n∧n≤15) (hr:0≤r∧r≤n - 1):0≤mnI r (n - 1 - r)∧mnI r (n - 1 - r)≤14:=by unfold mnI;split<;>omega
theorem standardPremium_any (n r c:Int) (w:World) (hn:5≤n∧n≤15) (hr:0≤r∧r≤n - 1) (hc:0≤c∧c≤n - 1) :
  Calls Tryz.prog 67 #[.int .i64 n,.int .i64 r,.int .i64 c] w fun e w'=>e=.returned (.int .u8 ((stdB n r c).toNat:Int))∧w=w':=by
 have HV:Hid (((stdB n r c).toNat:Int)=stdC n r c):=Lh (stdB_val n r c)
 unfold stdC at HV
 have hx:=near hn hr
 have hy:=near hn hc
 have ha:=mnI_rng hx hy
 have hb:=mxI_rng hx hy
 obtain ⟨hn0,hn1⟩:=hn
 obtain ⟨hr0,hr1⟩:=hr
 obtain ⟨hc0,hc1⟩:=hc
 go_enter Tryz.func67,Tryz.ntmps67
 go_upto_region 2 with fail
 rw [mnI_min,mnI_min]
 generalize mnI r (n - 1 - r)=x at *
 generalize mnI c (n - 1 - c)=y at *
 go_upto_region 3 with fail
 rw [mnI_min,mxI_max]
 generalize mnI x y=a at *
 generalize mxI x y=b at *
 obtain ⟨ha0,ha1⟩:=ha
 obtain ⟨hb0,hb1⟩:=hb
 clear hx hy
 by_cases h1:a=0
 ·by_cases h2:b=0
  ·go_wp2
   all_goals
    go_ret
    exact ⟨ret_int (by rw [HV.out];unfold stdA;(try simp only [beq_iff_eq,beq_eq_false_iff_ne,ne_eq] at *);(repeat' split)<;>omega),rfl⟩
  ·by_cases h3:b=(n - 1) / 2
   ·go_wp2
    all_goals
     go_ret
     exact ⟨ret_int (by rw [HV.out];unfold stdA;(try simp only [beq_iff_eq,beq_eq_false_iff_ne,ne_eq] at *);(repeat' split)<;>omega),rfl⟩
   ·go_wp2
    all_goals
     go_ret
     exact ⟨ret_int (by rw [HV.out];unfold stdA;(try simp only [beq_iff_eq,beq_eq_false_iff_ne,ne_eq] at *);(repeat' split)<;>omega),rfl⟩
 ·go_wp2
  all_goals
   go_ret
   exact ⟨ret_int (by rw [HV.out];unfold stdA;(try simp only [beq_iff_eq,beq_eq_false_iff_ne,ne_eq] at *);(repeat' split)<;>omega),rfl⟩
end Go.Proofs.YtgphkffbbmmmmaaGreatDoor
