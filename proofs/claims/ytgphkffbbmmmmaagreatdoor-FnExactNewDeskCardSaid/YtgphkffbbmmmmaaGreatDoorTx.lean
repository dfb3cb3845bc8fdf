/- Plain definitions: texts and numbers in rows, one cell each. No condition. · The statements' own functions on []string (sz, to, eq, mark, held): what they compute. No condition but bounds on sizes. · The statements' own functions on []int64 (sz, to, eq, mark, held): what they compute. No condition but bounds on sizes. · Contracts: the statements' own size, copy and comparison of a grid and of a lexicon. No condition but that a length fits an int. · The Board type's own functions in the statements (sz, to, eq): what they compute. No condition but bounds on sizes. · The Play type's own functions in the statements (sz, to, eq): what they compute. No condition but bounds on sizes. -/
import Derived.Test.YtgphkffbbmmmmaaGreatDoorBase
set_option maxHeartbeats 2000000
namespace Go.Proofs.YtgphkffbbmmmmaaGreatDoor
open Go.ChangeShapes Go.WideShapes Go.ChangeAt Go.RowKit Go.Sort

def Tx.enc (s:ByteArray):List Value:=[.string s]
theorem Tx.enc_len (s:ByteArray):(Tx.enc s).length=1:=rfl
def I64.enc (x:Int):List Value:=[.int .i64 x]
theorem I64.enc_len (x:Int):(I64.enc x).length=1:=rfl
theorem tx_one (s:ByteArray):∀ u∈Tx.enc s,u.oneCell'=true:=by
 intro u hu
 simp only [Tx.enc,List.mem_cons,List.not_mem_nil,or_false] at hu
 subst hu
 rfl
theorem i64_one (x:Int):∀ u∈I64.enc x,u.oneCell'=true:=by
 intro u hu
 simp only [I64.enc,List.mem_cons,List.not_mem_nil,or_false] at hu
 subst hu
 rfl
theorem new_tx (w:World) (x:ByteArray) (e:TypeId):∀ j u,(Tx.enc x)[j]?=some u→(w.alloc (.cells #[.string x] e)).cell? ((⟨w.heap.size,0,none⟩:Addr).add j)=some u:=by
 intro j u hu
 rw [Go.Addr.add_lit,Nat.zero_add]
 match j,hu with
 | 0,hu =>
  simp only [Tx.enc,List.getElem?_cons_zero,Option.some.injEq] at hu
  subst hu
  exact cell_new0 w _ e rfl
 | j+1,hu=>simp [Tx.enc] at hu
theorem new_i64 (w:World) (x:Int) (e:TypeId):∀ j u,(I64.enc x)[j]?=some u→(w.alloc (.cells #[.int .i64 x] e)).cell? ((⟨w.heap.size,0,none⟩:Addr).add j)=some u:=by
 intro j u hu
 rw [Go.Addr.add_lit,Nat.zero_add]
 match j,hu with
 | 0,hu =>
  simp only [I64.enc,List.getElem?_cons_zero,Option.some.injEq] at hu
  subst hu
  exact cell_new0 w _ e rfl
 | j+1,hu=>simp [I64.enc] at hu
theorem infoTx:(Tryz.prog.info? 9).map (fun i=>(i.zero,i.size,i.bytes))=some (some (.string ⟨#[]⟩),1,16):=by kernel_rfl
theorem infoI64:(Tryz.prog.info? 2).map (fun i=>(i.zero,i.size,i.bytes))=some (some (.int .i64 0),1,8):=by kernel_rfl
/-- texts in a row of the call's own -/
def TextsPost (w:World) (xs:List ByteArray) (e:Ending) (w':World):Prop :=
 ∃ g cap,e=.returned (.slice (some ⟨g,0,none⟩) xs.length cap)∧w'.ownsRow w.heap.size 9 1 (.slice (some ⟨g,0,none⟩) xs.length cap) xs.length (xs.flatMap Tx.enc)∧Below w.heap.size w w'
end Go.Proofs.YtgphkffbbmmmmaaGreatDoor

namespace Go.Proofs.YtgphkffbbmmmmaaGreatDoor
open Go.ChangeShapes Go.WideShapes Go.ChangeAt Go.RowKit Go.Sort

theorem eqStringS_any (ms:List ByteArray) (a b:Option Addr) (capa capb:Nat) (w:World) (ha:SliceAt w 1 Tx.enc a ms) (hb:SliceAt w 1 Tx.enc b ms) (hl:ms.length≤9223372036854775807) :
  Calls Tryz.prog 36 #[.slice a ms.length capa,.slice b ms.length capb] w fun e w'=>e=.returned (.bool true)∧Below w.heap.size w w':=by
 have HA:=Lh ha;clear ha
 have HB:=Lh hb;clear hb
 go_enter Tryz.func36,Tryz.ntmps36
 go_wp2
 go_loopw [5] (fun i wr=>∃ k:Nat,k≤ms.length∧i=.int .i64 k∧Below w.heap.size w wr) (fun i _=>ms.length - (intOf i).toNat)
 case atStart=>exact ⟨0,Nat.zero_le _,rfl,Below.refl _ _⟩
 case round =>
  obtain ⟨k,hk,rfl,hb⟩:=hrel
  by_cases hlt:k < ms.length
  ·obtain ⟨xb,xo,rfl,hc⟩:=(HA.out.kept hb).open hlt
   obtain ⟨yb,yo,rfl,hd⟩:=(HB.out.kept hb).open hlt
   have c0:=hc.at0 hlt (v:=.string ms[k]) rfl
   have d0:=hd.at0 hlt (v:=.string ms[k]) rfl
   clear hc hd
   rw [Nat.mul_one] at c0 d0
   generalize ms[k]=m at *
   go_wp2_with fail
   go_quiet (fail)
   go_wp2
   go_roundw
   case rel=>exact ⟨k+1,by omega,by go_num,by first | exact hb | exact hb.trans (Drew.below ⟨_,rfl⟩ _)⟩
   case measure=>simp [intOf];omega
  ·go_wp2
   go_ret
   exact ⟨rfl,hb⟩

/-- elements that bear the marks from c on; n of them -/
def Tx.marks (c:Int) (n:Nat):List ByteArray:=(List.range n).map fun (i:Nat)=>mtext (c+i).toNat
theorem Tx.marks_len (c:Int) (n:Nat):(Tx.marks c n).length=n:=by simp [Tx.marks]
theorem Tx.marks_get (c:Int) (n:Nat) {k:Nat} (h:k < (Tx.marks c n).length):(Tx.marks c n)[k]=mtext (c+k).toNat:=by simp [Tx.marks]

theorem markStringS_any (ms:List ByteArray) (a:Option Addr) (cap:Nat) (base:Nat) (c0:Int) (w:World) (hm:w.ownsRow base 9 1 (.slice a ms.length cap) ms.length (ms.flatMap Tx.enc)) (hl:ms.length≤9223372036854775807) (h0:0≤c0) (h1:c0+ms.length≤1099511627776) :
  Calls Tryz.prog 40 #[.slice a ms.length cap,.int .i64 c0] w (MarkPost w base 9 1 (.slice a ms.length cap) ms.length ((Tx.marks c0 ms.length).flatMap Tx.enc) (c0+ms.length)):=by
 have hml:=Tx.marks_len c0 ms.length
 have hmf:(ms.flatMap Tx.enc).length=(Tx.marks c0 ms.length).length * 1:=by rw [hml,flatMap_len Tx.enc_len]
 have HML:=Lh hml;clear hml
 have HZ:=Lh hmf;clear hmf
 by_cases hz:ms.length=0
 ·obtain rfl:ms=[]:=List.length_eq_zero_iff.1 hz
  have HM:=Lh hm;clear hm HML HZ hz
  go_enter Tryz.func40,Tryz.ntmps40
  go_wp2
  refine wp_loop_rounds 1 ?_
  rw [rounds_succ]
  go_wp2
  go_ret
  refine ⟨by simp,?_,⟨rfl,rfl,rfl,Nat.le_refl _,fun _ _ _=>rfl⟩⟩
  simpa [Tx.marks] using HM.out
 ·obtain ⟨g,rfl⟩:∃ g,a=some ⟨g,0,none⟩:=by
   rcases hm.2 with ⟨_,h⟩ | ⟨g,_,_,h,_⟩
   ·exact absurd h hz
   ·simp only [Value.slice.injEq] at h
    exact ⟨g,h.1⟩
  have HO:Hid (w.ownsRow base 9 1 (.slice (some ⟨g,0,none⟩) ms.length cap) ms.length ((Tx.marks c0 ms.length).take 0 |>.flatMap Tx.enc |> (·++(ms.flatMap Tx.enc).drop (0 * 1)))):=by simpa [Hid] using hm
  clear hm hz
  go_enter Tryz.func40,Tryz.ntmps40
  go_wp2
  go_loopw [1,5] (fun s i wr=>∃ (k:Nat) (c:Int),k≤ms.length∧i=.int .i64 k∧s=.int .i64 c∧Hid (c=c0+k)∧0≤c∧Hid (wr.ownsRow base 9 1 (.slice (some ⟨g,0,none⟩) ms.length cap) ms.length (((Tx.marks c0 ms.length).take k).flatMap Tx.enc++(ms.flatMap Tx.enc).drop (k * 1)))∧Hid (w.grownBy wr (some g))) (fun _ i _=>ms.length - (intOf i).toNat)
  case atStart=>exact ⟨0,c0,Nat.zero_le _,rfl,rfl,by simp [Hid],h0,HO,⟨rfl,rfl,rfl,Nat.le_refl _,fun _ _ _=>rfl⟩⟩
  case round =>
   obtain ⟨k,c,hk,rfl,rfl,HC,hc0,ho,HG⟩:=hrel
   by_cases hlt:k < ms.length
   ·have hcb:c+1≤1099511627776:=by have:=HC.out;omega
    go_wp2_with fail
    refine (markText_int _ _ (by omega) (by omega)).mono ?_
    rintro e w2 ⟨rfl,hb2⟩
    have ho0:=own_below (ho.out) hb2
    have HG0:=Lh (grownBy_trans HG.out (grown_of_below (row:=some g) hb2))
    obtain ⟨v0,hv0⟩:=own_has (j:=k) ho0 (by omega)
    have f0:=ho0.frozenAt k
    obtain ⟨hs1,hg1⟩:=own_stores [Value.string (mtext (c).toNat)] (k * 1) ho0
    have hget:(Tx.marks c0 ms.length)[k]'(by rw [HML.out];exact hlt)=mtext c.toNat:=by rw [Tx.marks_get,HC.out]
    have hstep:=row_step Tx.enc_len (Tx.marks c0 ms.length) (ms.flatMap Tx.enc) HZ.out (k:=k) (by rw [HML.out];exact hlt)
    rw [hget] at hstep
    have HO3:Hid ((w2.setCell ⟨g,k,none⟩ (.string (mtext (c).toNat))).ownsRow base 9 1 (.slice (some ⟨g,0,none⟩) ms.length cap) ms.length (((Tx.marks c0 ms.length).take (k+1)).flatMap Tx.enc++(ms.flatMap Tx.enc).drop ((k+1) * 1))):=Lh (by
     have h:=own_as hs1 hstep;rw [Nat.mul_one k] at h;exact h)
    have HG3:Hid (w.grownBy (w2.setCell ⟨g,k,none⟩ (.string (mtext (c).toNat))) (some g)):=Lh (by
     have h:=grownBy_trans HG0.out hg1;rw [Nat.mul_one k] at h;exact h)
    clear hs1 hg1 hget hstep ho0
    go_wp2
    go_roundw
    case rel=>exact ⟨k+1,c+1,by omega,by go_num,rfl,by have:=HC.out;unfold Hid;omega,by omega,HO3,HG3⟩
    case measure=>simp [intOf];omega
   ·have ho2:=ho.out
    rw [row_end _ _ HZ.out (by rw [HML.out];exact hlt)] at ho2
    have HO2:=Lh ho2
    clear ho2
    go_wp2
    go_ret
    refine ⟨?_,HO2.out,HG.out⟩
    have:=HC.out
    have e:k=ms.length:=by omega
    rw [e] at this
    rw [← this]
    rfl

theorem heldStringS_any (len:Nat) (a:Option Addr) (cap:Nat) (c0:Int) (w:World) (hm:SliceAt w 1 Tx.enc a (Tx.marks c0 len)) (_hl:len≤9223372036854775807) (h0:0≤c0) (h1:c0+len≤1099511627776) :
  Calls Tryz.prog 43 #[.slice a len cap,.int .i64 c0] w fun e w'=>e=.returned (.int .i64 (c0+len))∧Below w.heap.size w w':=by
 have HM:=Lh hm;clear hm
 have HML:=Lh (Tx.marks_len c0 len)
 go_enter Tryz.func43,Tryz.ntmps43
 go_wp2
 go_loopw [1,5] (fun s i wr=>∃ (k:Nat) (c:Int),k≤len∧i=.int .i64 k∧s=.int .i64 c∧Hid (c=c0+k)∧0≤c∧Below w.heap.size w wr) (fun _ i _=>len - (intOf i).toNat)
 case atStart=>exact ⟨0,c0,Nat.zero_le _,rfl,rfl,by simp [Hid],h0,Below.refl _ _⟩
 case round =>
  obtain ⟨k,c,hk,rfl,rfl,HC,hc0,hb⟩:=hrel
  by_cases hlt:k < len
  ·have hcb:c+1≤1099511627776:=by have:=HC.out;omega
   have hkl:k < (Tx.marks c0 len).length:=by rw [HML.out];exact hlt
   obtain ⟨mb,mo,rfl,hcs⟩:=(HM.out.kept hb).open hkl
   have hget:(Tx.marks c0 len)[k]=mtext c.toNat:=by rw [Tx.marks_get,HC.out]
   have hc0:=hcs.at0 hkl (v:=Value.string (mtext (c).toNat)) (by rw [hget];rfl)
   rw [Nat.mul_one] at hc0
   clear hcs hget hkl
   go_wp2_with fail
   have q0:=cell_regrown hc0
   refine wp_region_quiet_below (by kernel_rfl) (by kernel_rfl) ?_
   repeat (go_big_quiet_step ((go_at_call 81;exact Calls.regrown_of (markText_int _ _ (by omega) (by omega)))))
   refine wpQuiet_nil ?_
   intro w2 hw'
   have hb2:=below_of_ex hw'
   clear hw' q0
   go_wp2
   go_roundw
   case rel=>exact ⟨k+1,c+1,by omega,by go_num,rfl,by have:=HC.out;unfold Hid;omega,by omega,(hb.trans (hb2.mono hb.size))⟩
   case measure=>simp [intOf];omega
  ·go_wp2
   go_ret
   refine ⟨?_,hb⟩
   have:=HC.out
   have e:k=len:=by omega
   rw [e] at this
   rw [← this]
   rfl

end Go.Proofs.YtgphkffbbmmmmaaGreatDoor

namespace Go.Proofs.YtgphkffbbmmmmaaGreatDoor
open Go.ChangeShapes Go.WideShapes Go.ChangeAt Go.RowKit Go.Sort

theorem eqInt64S_any (ms:List Int) (a b:Option Addr) (capa capb:Nat) (w:World) (ha:SliceAt w 1 I64.enc a ms) (hb:SliceAt w 1 I64.enc b ms) (hl:ms.length≤9223372036854775807) :
  Calls Tryz.prog 37 #[.slice a ms.length capa,.slice b ms.length capb] w fun e w'=>e=.returned (.bool true)∧Below w.heap.size w w':=by
 have HA:=Lh ha;clear ha
 have HB:=Lh hb;clear hb
 go_enter Tryz.func37,Tryz.ntmps37
 go_wp2
 go_loopw [5] (fun i wr=>∃ k:Nat,k≤ms.length∧i=.int .i64 k∧Below w.heap.size w wr) (fun i _=>ms.length - (intOf i).toNat)
 case atStart=>exact ⟨0,Nat.zero_le _,rfl,Below.refl _ _⟩
 case round =>
  obtain ⟨k,hk,rfl,hb⟩:=hrel
  by_cases hlt:k < ms.length
  ·obtain ⟨xb,xo,rfl,hc⟩:=(HA.out.kept hb).open hlt
   obtain ⟨yb,yo,rfl,hd⟩:=(HB.out.kept hb).open hlt
   have c0:=hc.at0 hlt (v:=.int .i64 ms[k]) rfl
   have d0:=hd.at0 hlt (v:=.int .i64 ms[k]) rfl
   clear hc hd
   rw [Nat.mul_one] at c0 d0
   generalize ms[k]=m at *
   go_wp2_with fail
   go_quiet (fail)
   go_wp2
   go_roundw
   case rel=>exact ⟨k+1,by omega,by go_num,by first | exact hb | exact hb.trans (Drew.below ⟨_,rfl⟩ _)⟩
   case measure=>simp [intOf];omega
  ·go_wp2
   go_ret
   exact ⟨rfl,hb⟩

/-- elements that bear the marks from c on; n of them -/
def I64.marks (c:Int) (n:Nat):List Int:=(List.range n).map fun (i:Nat)=>c+i
theorem I64.marks_len (c:Int) (n:Nat):(I64.marks c n).length=n:=by simp [I64.marks]
theorem I64.marks_get (c:Int) (n:Nat) {k:Nat} (h:k < (I64.marks c n).length):(I64.marks c n)[k]=c+k:=by simp [I64.marks]

theorem markInt64S_any (ms:List Int) (a:Option Addr) (cap:Nat) (base:Nat) (c0:Int) (w:World) (hm:w.ownsRow base 2 1 (.slice a ms.length cap) ms.length (ms.flatMap I64.enc)) (hl:ms.length≤9223372036854775807) (h0:0≤c0) (h1:c0+ms.length≤1099511627776) :
  Calls Tryz.prog 41 #[.slice a ms.length cap,.int .i64 c0] w (MarkPost w base 2 1 (.slice a ms.length cap) ms.length ((I64.marks c0 ms.length).flatMap I64.enc) (c0+ms.length)):=by
 have hml:=I64.marks_len c0 ms.length
 have hmf:(ms.flatMap I64.enc).length=(I64.marks c0 ms.length).length * 1:=by rw [hml,flatMap_len I64.enc_len]
 have HML:=Lh hml;clear hml
 have HZ:=Lh hmf;clear hmf
 by_cases hz:ms.length=0
 ·obtain rfl:ms=[]:=List.length_eq_zero_iff.1 hz
  have HM:=Lh hm;clear hm HML HZ hz
  go_enter Tryz.func41,Tryz.ntmps41
  go_wp2
  refine wp_loop_rounds 1 ?_
  rw [rounds_succ]
  go_wp2
  go_ret
  refine ⟨by simp,?_,⟨rfl,rfl,rfl,Nat.le_refl _,fun _ _ _=>rfl⟩⟩
  simpa [I64.marks] using HM.out
 ·obtain ⟨g,rfl⟩:∃ g,a=some ⟨g,0,none⟩:=by
   rcases hm.2 with ⟨_,h⟩ | ⟨g,_,_,h,_⟩
   ·exact absurd h hz
   ·simp only [Value.slice.injEq] at h
    exact ⟨g,h.1⟩
  have HO:Hid (w.ownsRow base 2 1 (.slice (some ⟨g,0,none⟩) ms.length cap) ms.length ((I64.marks c0 ms.length).take 0 |>.flatMap I64.enc |> (·++(ms.flatMap I64.enc).drop (0 * 1)))):=by simpa [Hid] using hm
  clear hm hz
  go_enter Tryz.func41,Tryz.ntmps41
  go_wp2
  go_loopw [1,5] (fun s i wr=>∃ (k:Nat) (c:Int),k≤ms.length∧i=.int .i64 k∧s=.int .i64 c∧Hid (c=c0+k)∧0≤c∧Hid (wr.ownsRow base 2 1 (.slice (some ⟨g,0,none⟩) ms.length cap) ms.length (((I64.marks c0 ms.length).take k).flatMap I64.enc++(ms.flatMap I64.enc).drop (k * 1)))∧Hid (w.grownBy wr (some g))) (fun _ i _=>ms.length - (intOf i).toNat)
  case atStart=>exact ⟨0,c0,Nat.zero_le _,rfl,rfl,by simp [Hid],h0,HO,⟨rfl,rfl,rfl,Nat.le_refl _,fun _ _ _=>rfl⟩⟩
  case round =>
   obtain ⟨k,c,hk,rfl,rfl,HC,hc0,ho,HG⟩:=hrel
   by_cases hlt:k < ms.length
   ·have hcb:c+1≤1099511627776:=by have:=HC.out;omega
    have ho0:=ho.out
    have HG0:=HG
    obtain ⟨v0,hv0⟩:=own_has (j:=k) ho0 (by omega)
    have f0:=ho0.frozenAt k
    obtain ⟨hs1,hg1⟩:=own_stores [Value.int .i64 (c)] (k * 1) ho0
    have hget:(I64.marks c0 ms.length)[k]'(by rw [HML.out];exact hlt)=c:=by rw [I64.marks_get,HC.out]
    have hstep:=row_step I64.enc_len (I64.marks c0 ms.length) (ms.flatMap I64.enc) HZ.out (k:=k) (by rw [HML.out];exact hlt)
    rw [hget] at hstep
    have HO3:Hid ((wr.setCell ⟨g,k,none⟩ (.int .i64 (c))).ownsRow base 2 1 (.slice (some ⟨g,0,none⟩) ms.length cap) ms.length (((I64.marks c0 ms.length).take (k+1)).flatMap I64.enc++(ms.flatMap I64.enc).drop ((k+1) * 1))):=Lh (by
     have h:=own_as hs1 hstep;rw [Nat.mul_one k] at h;exact h)
    have HG3:Hid (w.grownBy (wr.setCell ⟨g,k,none⟩ (.int .i64 (c))) (some g)):=Lh (by
     have h:=grownBy_trans HG0.out hg1;rw [Nat.mul_one k] at h;exact h)
    clear hs1 hg1 hget hstep ho0
    go_wp2
    go_roundw
    case rel=>exact ⟨k+1,c+1,by omega,by go_num,rfl,by have:=HC.out;unfold Hid;omega,by omega,HO3,HG3⟩
    case measure=>simp [intOf];omega
   ·have ho2:=ho.out
    rw [row_end _ _ HZ.out (by rw [HML.out];exact hlt)] at ho2
    have HO2:=Lh ho2
    clear ho2
    go_wp2
    go_ret
    refine ⟨?_,HO2.out,HG.out⟩
    have:=HC.out
    have e:k=ms.length:=by omega
    rw [e] at this
    rw [← this]
    rfl

theorem heldInt64S_any (len:Nat) (a:Option Addr) (cap:Nat) (c0:Int) (w:World) (hm:SliceAt w 1 I64.enc a (I64.marks c0 len)) (_hl:len≤9223372036854775807) (h0:0≤c0) (h1:c0+len≤1099511627776) :
  Calls Tryz.prog 44 #[.slice a len cap,.int .i64 c0] w fun e w'=>e=.returned (.int .i64 (c0+len))∧Below w.heap.size w w':=by
 have HM:=Lh hm;clear hm
 have HML:=Lh (I64.marks_len c0 len)
 go_enter Tryz.func44,Tryz.ntmps44
 go_wp2
 go_loopw [1,5] (fun s i wr=>∃ (k:Nat) (c:Int),k≤len∧i=.int .i64 k∧s=.int .i64 c∧Hid (c=c0+k)∧0≤c∧Below w.heap.size w wr) (fun _ i _=>len - (intOf i).toNat)
 case atStart=>exact ⟨0,c0,Nat.zero_le _,rfl,rfl,by simp [Hid],h0,Below.refl _ _⟩
 case round =>
  obtain ⟨k,c,hk,rfl,rfl,HC,hc0,hb⟩:=hrel
  by_cases hlt:k < len
  ·have hcb:c+1≤1099511627776:=by have:=HC.out;omega
   have hkl:k < (I64.marks c0 len).length:=by rw [HML.out];exact hlt
   obtain ⟨mb,mo,rfl,hcs⟩:=(HM.out.kept hb).open hkl
   have hget:(I64.marks c0 len)[k]=c:=by rw [I64.marks_get,HC.out]
   have hc0:=hcs.at0 hkl (v:=Value.int .i64 (c)) (by rw [hget];rfl)
   rw [Nat.mul_one] at hc0
   clear hcs hget hkl
   go_wp2_with fail
   try (go_quiet (fail);go_wp2)
   go_roundw
   case rel=>exact ⟨k+1,c+1,by omega,by go_num,rfl,by have:=HC.out;unfold Hid;omega,by omega,by first | exact hb | exact hb.trans (Drew.below ⟨_,rfl⟩ _)⟩
   case measure=>simp [intOf];omega
  ·go_wp2
   go_ret
   refine ⟨?_,hb⟩
   have:=HC.out
   have e:k=len:=by omega
   rw [e] at this
   rw [← this]
   rfl

end Go.Proofs.YtgphkffbbmmmmaaGreatDoor

namespace Go.Proofs.YtgphkffbbmmmmaaGreatDoor
open Go.ChangeShapes Go.WideShapes Go.ChangeAt Go.RowKit Go.Sort

theorem eqLexicon_any (ms:List ByteArray) (a b:Option Addr) (capa capb:Nat) (w:World) (ha:SliceAt w 1 Tx.enc a ms) (hb:SliceAt w 1 Tx.enc b ms) (hl:ms.length≤9223372036854775807) :
  Calls Tryz.prog 77 #[.agg #[.slice a ms.length capa],.agg #[.slice b ms.length capb]] w fun e w'=>e=.returned (.bool true)∧Below w.heap.size w w':=by
 have HA:=Lh ha;clear ha
 have HB:=Lh hb;clear hb
 have hb0:Below w.heap.size w ((w.alloc (.cells #[.slice a ms.length capa] 27)).alloc (.cells #[.slice b ms.length capb] 27)):=((Below.refl _ _).alloc (Nat.le_refl _) _).alloc (by simp) _
 go_enter Tryz.func77,Tryz.ntmps77
 go_wp2_with fail
 refine (eqStringS_any ms a b capa capb _ (HA.out.kept hb0) (HB.out.kept hb0) hl).mono ?_
 rintro e w2 ⟨rfl,hb2⟩
 go_wp2
 go_ret
 exact ⟨rfl,hb0.trans (hb2.mono hb0.size)⟩
end Go.Proofs.YtgphkffbbmmmmaaGreatDoor

namespace Go.Proofs.YtgphkffbbmmmmaaGreatDoor
open Go.ChangeShapes Go.WideShapes Go.ChangeAt Go.RowKit Go.Sort

structure Brd where
 size:Int
 premium:ByteArray
 cells:ByteArray
def Brd.enc (m:Brd):List Value:=[.int .i64 m.size,.string m.premium,.string m.cells]
theorem Brd.enc_len (m:Brd):(Brd.enc m).length=3:=rfl
/-- What memory bounds: no string is longer than a string can be. -/
def Brd.fit (m:Brd):Prop:=m.premium.size≤9223372036854775807∧m.cells.size≤9223372036854775807
def Brd.sz (m:Brd):Nat:=m.premium.size+m.cells.size

theorem eqBoard_any (m:Brd) (w:World) :
  Calls Tryz.prog 35 #[.agg #[.int .i64 m.size,.string m.premium,.string m.cells],.agg #[.int .i64 m.size,.string m.premium,.string m.cells]] w fun e w'=>e=.returned (.bool true)∧Below w.heap.size w w':=by
 go_enter Tryz.func35,Tryz.ntmps35
 go_wp2
 go_ret
 exact ⟨rfl,by go_grown⟩

end Go.Proofs.YtgphkffbbmmmmaaGreatDoor

namespace Go.Proofs.YtgphkffbbmmmmaaGreatDoor
open Go.ChangeShapes Go.WideShapes Go.ChangeAt Go.RowKit Go.Sort

structure Ply where
 row:Int
 col:Int
 down:Bool
 word:ByteArray
def Ply.enc (m:Ply):List Value:=[.int .i64 m.row,.int .i64 m.col,.bool m.down,.string m.word]
theorem Ply.enc_len (m:Ply):(Ply.enc m).length=4:=rfl
/-- What memory bounds: no string is longer than a string can be. -/
def Ply.fit (m:Ply):Prop:=m.word.size≤9223372036854775807
def Ply.sz (m:Ply):Nat:=m.word.size

theorem eqPlay_any (m:Ply) (w:World) :
  Calls Tryz.prog 78 #[.agg #[.int .i64 m.row,.int .i64 m.col,.bool m.down,.string m.word],.agg #[.int .i64 m.row,.int .i64 m.col,.bool m.down,.string m.word]] w fun e w'=>e=.returned (.bool true)∧Below w.heap.size w w':=by
 go_enter Tryz.func78,Tryz.ntmps78
 go_wp2
 go_ret
 exact ⟨rfl,by go_grown⟩

end Go.Proofs.YtgphkffbbmmmmaaGreatDoor
