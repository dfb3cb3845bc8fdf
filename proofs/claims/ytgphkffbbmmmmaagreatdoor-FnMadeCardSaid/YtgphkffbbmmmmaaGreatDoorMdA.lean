/- Contracts: a bag is shuffled: the reference's loop; the program's mixer. · Contracts: how FnMade reads its code: a2Long, a2At. The code's bytes lie there and are byt -/
import Derived.Test.YtgphkffbbmmmmaaGreatDoorMkU
import Derived.Test.YtgphkffbbmmmmaaGreatDoorFrame
import Derived.Test.YtgphkffbbmmmmaaGreatDoorVar
import Derived.Handy
import Derived.OwnWalk
import Derived.BigRegion
import Derived.BigQuiet
import Derived.Deep.DeepMust
namespace Go.Proofs.YtgphkffbbmmmmaaGreatDoor
open Go.ChangeShapes Go.WideShapes Go.ChangeAt Go.RowKit Go.Sort

theorem lcg_tmod {x:Nat} (_h:x < 2147483648):Int.tmod ((x:Int) * 1103515245+12345) 2147483648=(lcg x:Int):=by
 unfold lcg
 rw [Int.tmod_eq_emod_of_nonneg (by omega)]
 omega
theorem lcg_div (y:Nat):Int.tdiv (y:Int) 65536=((y / 65536:Nat):Int):=by
 rw [Int.tdiv_eq_ediv_of_nonneg (by omega)]
 omega
theorem lcg_mod (z i:Nat):Int.tmod (z:Int) ((i:Int)+1)=((z % (i+1):Nat):Int):=by
 rw [Int.tmod_eq_emod_of_nonneg (by omega)]
 push_cast
 rfl
/-- a step's numbers -/
theorem shuf_step (i x:Nat) (l:List UInt8) (h0:0 < i) (hx:x < 2147483648):∃ y z k:Nat,y < 2147483648∧z < 2147483648∧k < i+1∧Int.tmod ((x:Int) * 1103515245+12345) 2147483648=(y:Int)∧Int.tdiv (y:Int) 65536=(z:Int)∧Int.tmod (z:Int) ((i:Int)+1)=(k:Int)∧Hid (shufL i x l=shufL (i - 1) y (swapL l i k)):=by
 have hz:lcg x / 65536 < 2147483648:=Nat.lt_of_le_of_lt (Nat.div_le_self _ _) (lcg_lt x)
 exact ⟨lcg x,lcg x / 65536,lcg x / 65536 % (i+1),lcg_lt x,hz,Nat.mod_lt _ (by omega),lcg_tmod hx,lcg_div _,lcg_mod _ _,Lh (shufL_pos x l h0)⟩
theorem mixer_any (x:Nat) (w:World):Calls Tryz.prog 70 #[.int .i64 x] w fun e w'=>e=.returned (.func (.func 112) #[] #[.pointer (some ⟨w.heap.size,0,none⟩)])∧VarAt w' w.heap.size 2 [.int .i64 x]∧Below w.heap.size w w':=by
 have hb:Below w.heap.size w (w.alloc (.cells #[.int .i64 x] 2)):=(Below.refl _ _).alloc (Nat.le_refl _) _
 have hV:=VarAt.new w 2 [.int .i64 x]
 have hmf:∀ (fn:Fn) (first cap:Array Value) (w:World),(Instr.makeFunc fn first cap).run Tryz.prog w=.ok (.func fn first cap) w:=fun _ _ _ _=>rfl
 go_enter Tryz.func70,Tryz.ntmps70
 go_wp2
 go_ret
 exact ⟨rfl,hV,hb⟩
theorem mixed_any (x y z B:Nat) (w:World) (hx:x < 2147483648) (e1:Int.tmod ((x:Int) * 1103515245+12345) 2147483648=(y:Int)) (e2:Int.tdiv (y:Int) 65536=(z:Int)) (hz:z < 2147483648) (hV:VarAt w B 2 [.int .i64 x]) :
  Calls Tryz.prog 112 #[.pointer (some ⟨B,0,none⟩)] w fun e w'=>e=.returned (.int .i64 (z:Nat))∧VarAt w' B 2 [.int .i64 y]∧w.grownBy w' (some B):=by
 have wr4:IntKind.i64.wrap (z:Int)=(z:Int):=IntWalk.i64_in _ (by omega)
 have wr1:IntKind.i64.wrap ((x:Int) * 1103515245)=(x:Int) * 1103515245:=IntWalk.i64_in _ (by omega)
 have wr2:IntKind.i64.wrap ((x:Int) * 1103515245+12345)=(x:Int) * 1103515245+12345:=IntWalk.i64_in _ (by omega)
 have c0:=hV.cell (i:=0) rfl
 have f0:=hV.free 0
 obtain ⟨o1,g1⟩:=hV.set 0 (.int .i64 y)
 clear hV
 go_enter Tryz.func112,Tryz.ntmps112
 go_wp2
 go_ret
 exact ⟨rfl,o1,g1⟩
end Go.Proofs.YtgphkffbbmmmmaaGreatDoor
set_option maxRecDepth 100000
set_option maxHeartbeats 2000000
namespace Go.Proofs.YtgphkffbbmmmmaaGreatDoor
open Go.ChangeShapes Go.WideShapes Go.ChangeAt Go.RowKit Go.Sort

def B8.enc (x:Int):List Value:=[.int .u8 x]
theorem b8_cell {w:World} {a:Option Addr} {xs:List Int} (h:SliceAt w 1 B8.enc a xs) {k:Nat} (hk:k < xs.length):∃ b o,a=some ⟨b,o,none⟩∧w.cell? ⟨b,o+k,none⟩=some (.int .u8 (xs.getD k 0)):=by
 obtain ⟨b,o,rfl,hc⟩:=h.open hk
 have:=hc.at0 hk (v:=.int .u8 xs[k]) rfl
 rw [Nat.mul_one] at this
 refine ⟨b,o,rfl,?_⟩
 rw [this,List.getD_eq_getElem?_getD,List.getElem?_eq_getElem hk]
 rfl
theorem a2Long_any (n ccap:Nat) (ca:Option Addr) (w:World) :
  Calls Tryz.prog 16 #[.slice ca n ccap,.slice none 0 0] w fun e w'=>e=.returned (.bool (decide (3000 < n)))∧w=w':=by
 by_cases h:3000 < n
 ·have h1:decide ((3000:Int) < (n:Int))=true:=by rw [decide_eq_true_eq];omega
  have h2:decide (3000 < n)=true:=by rw [decide_eq_true_eq];omega
  have h3:(3000:Int) < (n:Int):=by omega
  go_enter Tryz.func16,Tryz.ntmps16
  go_wp2
  go_ret
  exact ⟨by first | rfl | (rw [h2];done) | (rw [h2];rfl),rfl⟩
 ·have h1:decide ((3000:Int) < (n:Int))=false:=by rw [decide_eq_false_iff_not];omega
  have h2:decide (3000 < n)=false:=by rw [decide_eq_false_iff_not];omega
  have h3:¬ (3000:Int) < (n:Int):=by omega
  go_enter Tryz.func16,Tryz.ntmps16
  go_wp2
  go_ret
  exact ⟨by first | rfl | (rw [h2];done) | (rw [h2];rfl),rfl⟩
theorem a2At_any (ca:Option Addr) (ccap:Nat) (bs:List Int) (i m:Nat) (w:World) (hs:SliceAt w 1 B8.enc ca bs) (hbd:∀ x∈bs,0≤x∧x≤255) (hm:m≤1000) :
  Calls Tryz.prog 17 #[.slice ca bs.length ccap,.int .i64 (i:Int),.int .i64 ((m:Int)+1)] w fun e w'=>∃ r:Nat,e=.returned (.int .i64 (r:Int))∧r≤m∧w=w':=by
 by_cases h:bs.length≤i
 ·have h1:(bs.length:Int)≤(i:Int):=by omega
  have h2:¬ (i:Int) < (bs.length:Int):=by omega
  have h3:decide ((bs.length:Int)≤(i:Int))=true:=by rw [decide_eq_true_eq];omega
  clear hs hbd
  go_enter Tryz.func17,Tryz.ntmps17
  go_wp2
  go_ret
  exact ⟨0,rfl,by omega,rfl⟩
 ·have hk:i < bs.length:=by omega
  obtain ⟨cb,co,rfl,hc⟩:=b8_cell hs hk
  have hx:=hbd (bs.getD i 0) (by rw [List.getD_eq_getElem?_getD,List.getElem?_eq_getElem hk];exact List.getElem_mem hk)
  obtain ⟨x,hx2⟩:∃ x:Nat,bs.getD i 0=x:=⟨(bs.getD i 0).toNat,by omega⟩
  rw [hx2] at hc hx
  have h1:¬ (bs.length:Int)≤(i:Int):=by omega
  have h2:(i:Int) < (bs.length:Int):=by omega
  have h3:decide ((bs.length:Int)≤(i:Int))=false:=by rw [decide_eq_false_iff_not];omega
  have h4:¬ ((m:Int)+1) < 1:=by omega
  have h5:decide (((m:Int)+1) < 1)=false:=by rw [decide_eq_false_iff_not];omega
  have h6:¬ ((m:Int)+1)=0:=by omega
  have h7:IntKind.i64.wrap ((m:Int)+1)=(m:Int)+1:=IntWalk.i64_in _ (by omega)
  have h8:IntKind.i64.wrap (x:Int)=(x:Int):=IntWalk.i64_in _ (by omega)
  have h9:=lcg_mod x m
  have h10:IntKind.i64.wrap ((x % (m+1):Nat):Int)=((x % (m+1):Nat):Int):=IntWalk.i64_in _ (by have:=Nat.mod_lt x (show 0 < m+1 by omega);omega)
  have hr:x % (m+1)≤m:=by have:=Nat.mod_lt x (show 0 < m+1 by omega);omega
  clear hs hbd hx2
  generalize bs.length=n at *
  go_enter Tryz.func17,Tryz.ntmps17
  go_wp2
  go_ret
  exact ⟨x % (m+1),rfl,hr,rfl⟩
end Go.Proofs.YtgphkffbbmmmmaaGreatDoor
