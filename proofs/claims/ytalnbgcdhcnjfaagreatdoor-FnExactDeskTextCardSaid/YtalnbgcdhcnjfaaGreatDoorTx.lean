/- Plain definitions: texts and numbers in rows, one cell each. No condition. · The statements' own functions on []string (sz, to, eq, mark, held): what they compute. No condition but bounds on sizes. · The statements' own functions on []int64 (sz, to, eq, mark, held): what they compute. No condition but bounds on sizes. · Contracts: the statements' own size, copy and comparison of a grid and of a lexicon. No condition but that a length fits an int. · The Board type's own functions in the statements (sz, to, eq): what they compute. No condition but bounds on sizes. · The Play type's own functions in the statements (sz, to, eq): what they compute. No condition but bounds on sizes. -/
import Derived.Test.YtalnbgcdhcnjfaaGreatDoorBase
set_option maxHeartbeats 1000000
namespace Go.Proofs.YtalnbgcdhcnjfaaGreatDoor
open Go.ChangeShapes Go.WideShapes Go.ChangeAt Go.RowKit Go.Sort

def Tx.enc (s:ByteArray):List Value:=[.string s]
theorem Tx.enc_len (s:ByteArray):(Tx.enc s).length=1:=rfl
def I64.enc (x:Int):List Value:=[.int .i64 x]
theorem I64.enc_len (x:Int):(I64.enc x).length=1:=rfl
theorem tx_one (s:ByteArray):∀ u∈Tx.enc s,u.oneCell'=true:=by
 intro u hu
 simp only [Tx.enc,List.mem_cons,List.not_mem_nil,or_false] at hu
 subst hu
 rfl
theorem i64_one (x:Int):∀ u∈I64.enc x,u.oneCell'=true:=by
 intro u hu
 simp only [I64.enc,List.mem_cons,List.not_mem_nil,or_false] at hu
 subst hu
 rfl
theorem new_tx (w:World) (x:ByteArray) (e:TypeId):∀ j u,(Tx.enc x)[j]?=some u→(w.alloc (.cells #[.string x] e)).cell? ((⟨w.heap.size,0,none⟩:Addr).add j)=some u:=by
 intro j u hu
 rw [Go.Addr.add_lit,Nat.zero_add]
 match j,hu with
 | 0,hu =>
  simp only [Tx.enc,List.getElem?_cons_zero,Option.some.injEq] at hu
  subst hu
  exact cell_new0 w _ e rfl
 | j+1,hu=>simp [Tx.enc] at hu
theorem new_i64 (w:World) (x:Int) (e:TypeId):∀ j u,(I64.enc x)[j]?=some u→(w.alloc (.cells #[.int .i64 x] e)).cell? ((⟨w.heap.size,0,none⟩:Addr).add j)=some u:=by
 intro j u hu
 rw [Go.Addr.add_lit,Nat.zero_add]
 match j,hu with
 | 0,hu =>
  simp only [I64.enc,List.getElem?_cons_zero,Option.some.injEq] at hu
  subst hu
  exact cell_new0 w _ e rfl
 | j+1,hu=>simp [I64.enc] at hu
theorem infoTx:(Tryz.prog.info? 9).map (fun i=>(i.zero,i.size,i.bytes))=some (some (.string ⟨#[]⟩),1,16):=by kernel_rfl
theorem infoI64:(Tryz.prog.info? 2).map (fun i=>(i.zero,i.size,i.bytes))=some (some (.int .i64 0),1,8):=by kernel_rfl
/-- texts in a row of the call's own -/
def TextsPost (w:World) (xs:List ByteArray) (e:Ending) (w':World):Prop :=
 ∃ g cap,e=.returned (.slice (some ⟨g,0,none⟩) xs.length cap)∧w'.ownsRow w.heap.size 9 1 (.slice (some ⟨g,0,none⟩) xs.length cap) xs.length (xs.flatMap Tx.enc)∧Below w.heap.size w w'
end Go.Proofs.YtalnbgcdhcnjfaaGreatDoor

namespace Go.Proofs.YtalnbgcdhcnjfaaGreatDoor
open Go.ChangeShapes Go.WideShapes Go.ChangeAt Go.RowKit Go.Sort

theorem szStringS_any (ms:List ByteArray) (a:Option Addr) (cap:Nat) (left:Int) (w:World) (hm:SliceAt w 1 Tx.enc a ms) (hl:ms.length≤9223372036854775807) (hf:∀ m∈ms,m.size≤9223372036854775807) (h0:0≤left) (h1:left≤1048576) :
  Calls Tryz.prog 21 #[.slice a ms.length cap,.int .i64 left] w (SzPost w left (ms.length+szAll ByteArray.size ms)):=by
 have HM:=Lh hm;clear hm
 have HF:=Lh hf;clear hf
 by_cases hlen:left - ms.length < 0
 ·go_enter Tryz.func21,Tryz.ntmps21
  go_wp2
  go_ret
  exact ⟨_,rfl,.inl rfl,Below.refl _ _⟩
 ·go_enter Tryz.func21,Tryz.ntmps21
  go_wp2
  go_loopw [1,5] (fun l i wr=>∃ (k:Nat) (r:Int),k≤ms.length∧i=.int .i64 k∧l=.int .i64 r∧0≤r∧r+ms.length+szAll ByteArray.size (ms.take k)=left∧Below w.heap.size w wr) (fun _ i _=>ms.length - (intOf i).toNat)
  case atStart=>exact ⟨0,left - ms.length,Nat.zero_le _,rfl,rfl,by omega,by simp [szAll],Below.refl _ _⟩
  case round =>
   obtain ⟨k,r,hk,rfl,rfl,hr0,hr,hb⟩:=hrel
   have hr1:r≤1048576:=by omega
   have HR:=Lh hr;clear hr
   by_cases hlt:k < ms.length
   ·obtain ⟨mb,mo,rfl,hc⟩:=(HM.out.kept hb).open hlt
    have hc0:=hc.at0 hlt rfl
    rw [Nat.mul_one] at hc0
    have hfk:=HF.out _ (List.getElem_mem hlt)
    have HK:=Lh (szAll_take (f:=ByteArray.size) hlt)
    generalize ms[k]=m at *
    clear hc
    by_cases hr2:r - m.size < 0
    ·go_wp2
     go_ret
     exact ⟨_,rfl,.inl rfl,hb⟩
    ·go_wp2
     go_roundw
     case rel=>exact ⟨k+1,r - m.size,by omega,by go_num,rfl,by omega,by rw [HK.out];have:=HR.out;omega,hb⟩
     case measure=>simp [intOf];omega
   ·go_wp2
    go_ret
    refine ⟨_,rfl,.inr ⟨hr0,?_⟩,hb⟩
    have:=HR.out
    rw [List.take_of_length_le (by omega)] at this
    omega

theorem toStringS_any (ms:List ByteArray) (a:Option Addr) (cap:Nat) (w:World) (hm:SliceAt w 1 Tx.enc a ms) (hl:ms.length≤1048576) :
  Calls Tryz.prog 36 #[.slice a ms.length cap] w (RowPost w 9 1 Tx.enc ms):=by
 have HM:=Lh hm;clear hm
 obtain ⟨i0,hi,hz0,hz1,hz2⟩:=info_parts infoTx
 go_enter Tryz.func36,Tryz.ntmps36
 go_wp2_with (refine wpList_make_full _ rfl _ _ 25 rfl w.heap.size 9 i0 _ 1 Tryz.underlying25 hi hz0 hz1 .i64 .i64 _ _ ms.length rfl rfl rfl rfl ?c1 ?c2 (Nat.le_refl _) ?_)
 case c1=>rw [hz2];omega
 case c2=>unfold maxLen;omega
 intro w1 hown hgr
 obtain ⟨Z,hZ,hown⟩:∃ Z:List Value,Z.length=ms.length * 1∧w1.ownsRow w.heap.size 9 1 (.slice (some ⟨w.heap.size,0,none⟩) ms.length ms.length) ms.length Z:=⟨_,by simp [size_madeCells],hown⟩
 have HZ:=Lh hZ;clear hZ
 have hbw:Below w.heap.size w w1:=⟨hgr.os,hgr.tape,hgr.output,hgr.size,fun k hk=>hgr.block k hk (by simp)⟩
 have HO:Hid (w1.ownsRow w.heap.size 9 1 (.slice (some ⟨w.heap.size,0,none⟩) ms.length ms.length) ms.length ((ms.take 0).flatMap Tx.enc++Z.drop (0 * 1))):=by simpa [Hid] using hown
 clear hown hgr
 go_wp2
 go_loopw [4] (fun i wr=>∃ k:Nat,k≤ms.length∧i=.int .i64 k∧Hid (wr.ownsRow w.heap.size 9 1 (.slice (some ⟨w.heap.size,0,none⟩) ms.length ms.length) ms.length ((ms.take k).flatMap Tx.enc++Z.drop (k * 1)))∧Below w.heap.size w wr) (fun i _=>ms.length - (intOf i).toNat)
 case atStart=>exact ⟨0,Nat.zero_le _,rfl,HO,hbw⟩
 case round =>
  obtain ⟨k,hk,rfl,ho,hb⟩:=hrel
  by_cases hlt:k < ms.length
  ·obtain ⟨mb,mo,rfl,hc⟩:=(HM.out.kept hb).open hlt
   have hc0:=hc.at0 hlt rfl
   clear hc
   rw [Nat.mul_one] at hc0
   obtain ⟨v0,hv0⟩:=own_has (j:=k) ho.out (by omega)
   have f0:=ho.out.frozenAt k
   obtain ⟨ho3,hg3⟩:=own_put (sz:=1) Tx.enc_len HZ.out hlt ho.out
   have ho3':(wr.setCell ⟨w.heap.size,k,none⟩ (.string ms[k])).ownsRow w.heap.size 9 1 (.slice (some ⟨w.heap.size,0,none⟩) ms.length ms.length) ms.length ((ms.take (k+1)).flatMap Tx.enc++Z.drop ((k+1) * 1)):=by
    have h:=ho3;rw [Nat.mul_one] at h;exact h
   have hg3':wr.grownBy (wr.setCell ⟨w.heap.size,k,none⟩ (.string ms[k])) (some w.heap.size):=by
    have h:=hg3;rw [Nat.mul_one] at h;exact h
   have HO3:=Lh ho3'
   have HG3:=Lh hg3'
   clear ho3 hg3 ho3' hg3'
   generalize ms[k]=m at *
   go_wp2
   go_roundw
   case rel=>exact ⟨k+1,by omega,by go_num,HO3,below_grown hb hb.size HG3.out (Nat.le_refl _)⟩
   case measure=>simp [intOf];omega
  ·have ho2:=ho.out
   rw [row_end ms Z HZ.out hlt] at ho2
   have HO2:=Lh ho2
   clear ho2
   go_wp2
   go_ret
   exact ⟨_,rfl,HO2.out,hb⟩

theorem eqStringS_any (ms:List ByteArray) (a b:Option Addr) (capa capb:Nat) (w:World) (ha:SliceAt w 1 Tx.enc a ms) (hb:SliceAt w 1 Tx.enc b ms) (hl:ms.length≤9223372036854775807) :
  Calls Tryz.prog 48 #[.slice a ms.length capa,.slice b ms.length capb] w fun e w'=>e=.returned (.bool true)∧Below w.heap.size w w':=by
 have HA:=Lh ha;clear ha
 have HB:=Lh hb;clear hb
 go_enter Tryz.func48,Tryz.ntmps48
 go_wp2
 go_loopw [5] (fun i wr=>∃ k:Nat,k≤ms.length∧i=.int .i64 k∧Below w.heap.size w wr) (fun i _=>ms.length - (intOf i).toNat)
 case atStart=>exact ⟨0,Nat.zero_le _,rfl,Below.refl _ _⟩
 case round =>
  obtain ⟨k,hk,rfl,hb⟩:=hrel
  by_cases hlt:k < ms.length
  ·obtain ⟨xb,xo,rfl,hc⟩:=(HA.out.kept hb).open hlt
   obtain ⟨yb,yo,rfl,hd⟩:=(HB.out.kept hb).open hlt
   have c0:=hc.at0 hlt (v:=.string ms[k]) rfl
   have d0:=hd.at0 hlt (v:=.string ms[k]) rfl
   clear hc hd
   rw [Nat.mul_one] at c0 d0
   generalize ms[k]=m at *
   go_wp2_with fail
   go_quiet (fail)
   go_wp2
   go_roundw
   case rel=>exact ⟨k+1,by omega,by go_num,by first | exact hb | exact hb.trans (Drew.below ⟨_,rfl⟩ _)⟩
   case measure=>simp [intOf];omega
  ·go_wp2
   go_ret
   exact ⟨rfl,hb⟩

/-- elements that bear the marks from c on; n of them -/
def Tx.marks (c:Int) (n:Nat):List ByteArray:=(List.range n).map fun (i:Nat)=>mtext (c+i).toNat
theorem Tx.marks_len (c:Int) (n:Nat):(Tx.marks c n).length=n:=by simp [Tx.marks]
theorem Tx.marks_get (c:Int) (n:Nat) {k:Nat} (h:k < (Tx.marks c n).length):(Tx.marks c n)[k]=mtext (c+k).toNat:=by simp [Tx.marks]

end Go.Proofs.YtalnbgcdhcnjfaaGreatDoor

namespace Go.Proofs.YtalnbgcdhcnjfaaGreatDoor
open Go.ChangeShapes Go.WideShapes Go.ChangeAt Go.RowKit Go.Sort

theorem szInt64S_any (ms:List Int) (a:Option Addr) (cap:Nat) (left:Int) (w:World) (hl:ms.length≤9223372036854775807) (h0:0≤left) (h1:left≤1048576) :
  Calls Tryz.prog 22 #[.slice a ms.length cap,.int .i64 left] w (SzPost w left ms.length):=by
 go_enter Tryz.func22,Tryz.ntmps22
 go_wp2
 all_goals
  go_ret
  first
   | exact ⟨_,rfl,.inl rfl,Below.refl _ _⟩
   | exact ⟨_,rfl,.inr ⟨by omega,by omega⟩,Below.refl _ _⟩

theorem toInt64S_any (ms:List Int) (a:Option Addr) (cap:Nat) (w:World) (hm:SliceAt w 1 I64.enc a ms) (hl:ms.length≤1048576) :
  Calls Tryz.prog 37 #[.slice a ms.length cap] w (RowPost w 2 1 I64.enc ms):=by
 have HM:=Lh hm;clear hm
 obtain ⟨i0,hi,hz0,hz1,hz2⟩:=info_parts infoI64
 go_enter Tryz.func37,Tryz.ntmps37
 go_wp2_with (refine wpList_make_full _ rfl _ _ 22 rfl w.heap.size 2 i0 _ 1 Tryz.underlying22 hi hz0 hz1 .i64 .i64 _ _ ms.length rfl rfl rfl rfl ?c1 ?c2 (Nat.le_refl _) ?_)
 case c1=>rw [hz2];omega
 case c2=>unfold maxLen;omega
 intro w1 hown hgr
 obtain ⟨Z,hZ,hown⟩:∃ Z:List Value,Z.length=ms.length * 1∧w1.ownsRow w.heap.size 2 1 (.slice (some ⟨w.heap.size,0,none⟩) ms.length ms.length) ms.length Z:=⟨_,by simp [size_madeCells],hown⟩
 have HZ:=Lh hZ;clear hZ
 have hbw:Below w.heap.size w w1:=⟨hgr.os,hgr.tape,hgr.output,hgr.size,fun k hk=>hgr.block k hk (by simp)⟩
 have HO:Hid (w1.ownsRow w.heap.size 2 1 (.slice (some ⟨w.heap.size,0,none⟩) ms.length ms.length) ms.length ((ms.take 0).flatMap I64.enc++Z.drop (0 * 1))):=by simpa [Hid] using hown
 clear hown hgr
 go_wp2
 go_loopw [4] (fun i wr=>∃ k:Nat,k≤ms.length∧i=.int .i64 k∧Hid (wr.ownsRow w.heap.size 2 1 (.slice (some ⟨w.heap.size,0,none⟩) ms.length ms.length) ms.length ((ms.take k).flatMap I64.enc++Z.drop (k * 1)))∧Below w.heap.size w wr) (fun i _=>ms.length - (intOf i).toNat)
 case atStart=>exact ⟨0,Nat.zero_le _,rfl,HO,hbw⟩
 case round =>
  obtain ⟨k,hk,rfl,ho,hb⟩:=hrel
  by_cases hlt:k < ms.length
  ·obtain ⟨mb,mo,rfl,hc⟩:=(HM.out.kept hb).open hlt
   have hc0:=hc.at0 hlt rfl
   clear hc
   rw [Nat.mul_one] at hc0
   obtain ⟨v0,hv0⟩:=own_has (j:=k) ho.out (by omega)
   have f0:=ho.out.frozenAt k
   obtain ⟨ho3,hg3⟩:=own_put (sz:=1) I64.enc_len HZ.out hlt ho.out
   have ho3':(wr.setCell ⟨w.heap.size,k,none⟩ (.int .i64 ms[k])).ownsRow w.heap.size 2 1 (.slice (some ⟨w.heap.size,0,none⟩) ms.length ms.length) ms.length ((ms.take (k+1)).flatMap I64.enc++Z.drop ((k+1) * 1)):=by
    have h:=ho3;rw [Nat.mul_one] at h;exact h
   have hg3':wr.grownBy (wr.setCell ⟨w.heap.size,k,none⟩ (.int .i64 ms[k])) (some w.heap.size):=by
    have h:=hg3;rw [Nat.mul_one] at h;exact h
   have HO3:=Lh ho3'
   have HG3:=Lh hg3'
   clear ho3 hg3 ho3' hg3'
   generalize ms[k]=m at *
   go_wp2
   go_roundw
   case rel=>exact ⟨k+1,by omega,by go_num,HO3,below_grown hb hb.size HG3.out (Nat.le_refl _)⟩
   case measure=>simp [intOf];omega
  ·have ho2:=ho.out
   rw [row_end ms Z HZ.out hlt] at ho2
   have HO2:=Lh ho2
   clear ho2
   go_wp2
   go_ret
   exact ⟨_,rfl,HO2.out,hb⟩

theorem eqInt64S_any (ms:List Int) (a b:Option Addr) (capa capb:Nat) (w:World) (ha:SliceAt w 1 I64.enc a ms) (hb:SliceAt w 1 I64.enc b ms) (hl:ms.length≤9223372036854775807) :
  Calls Tryz.prog 49 #[.slice a ms.length capa,.slice b ms.length capb] w fun e w'=>e=.returned (.bool true)∧Below w.heap.size w w':=by
 have HA:=Lh ha;clear ha
 have HB:=Lh hb;clear hb
 go_enter Tryz.func49,Tryz.ntmps49
 go_wp2
 go_loopw [5] (fun i wr=>∃ k:Nat,k≤ms.length∧i=.int .i64 k∧Below w.heap.size w wr) (fun i _=>ms.length - (intOf i).toNat)
 case atStart=>exact ⟨0,Nat.zero_le _,rfl,Below.refl _ _⟩
 case round =>
  obtain ⟨k,hk,rfl,hb⟩:=hrel
  by_cases hlt:k < ms.length
  ·obtain ⟨xb,xo,rfl,hc⟩:=(HA.out.kept hb).open hlt
   obtain ⟨yb,yo,rfl,hd⟩:=(HB.out.kept hb).open hlt
   have c0:=hc.at0 hlt (v:=.int .i64 ms[k]) rfl
   have d0:=hd.at0 hlt (v:=.int .i64 ms[k]) rfl
   clear hc hd
   rw [Nat.mul_one] at c0 d0
   generalize ms[k]=m at *
   go_wp2_with fail
   go_quiet (fail)
   go_wp2
   go_roundw
   case rel=>exact ⟨k+1,by omega,by go_num,by first | exact hb | exact hb.trans (Drew.below ⟨_,rfl⟩ _)⟩
   case measure=>simp [intOf];omega
  ·go_wp2
   go_ret
   exact ⟨rfl,hb⟩

/-- elements that bear the marks from c on; n of them -/
def I64.marks (c:Int) (n:Nat):List Int:=(List.range n).map fun (i:Nat)=>c+i
theorem I64.marks_len (c:Int) (n:Nat):(I64.marks c n).length=n:=by simp [I64.marks]
theorem I64.marks_get (c:Int) (n:Nat) {k:Nat} (h:k < (I64.marks c n).length):(I64.marks c n)[k]=c+k:=by simp [I64.marks]

end Go.Proofs.YtalnbgcdhcnjfaaGreatDoor

namespace Go.Proofs.YtalnbgcdhcnjfaaGreatDoor
open Go.ChangeShapes Go.WideShapes Go.ChangeAt Go.RowKit Go.Sort

theorem szLexicon_any (ms:List ByteArray) (a:Option Addr) (cap:Nat) (left:Int) (w:World) (hm:SliceAt w 1 Tx.enc a ms) (hl:ms.length≤9223372036854775807) (hf:∀ m∈ms,m.size≤9223372036854775807) (h0:0≤left) (h1:left≤1048576) :
  Calls Tryz.prog 54 #[.agg #[.slice a ms.length cap],.int .i64 left] w (SzPost w left (ms.length+szAll ByteArray.size ms)):=by
 have HM:=Lh hm;clear hm
 have hb0:Below w.heap.size w (w.alloc (.cells #[.slice a ms.length cap] 27)):=(Below.refl _ _).alloc (Nat.le_refl _) _
 go_enter Tryz.func54,Tryz.ntmps54
 go_wp2_with fail
 refine (szStringS_any ms a cap left _ (HM.out.kept hb0) hl hf h0 h1).mono ?_
 rintro e w2 ⟨r,rfl,h2,hb2⟩
 have hb3:=hb0.trans (hb2.mono hb0.size)
 rcases h2 with rfl | ⟨h20,h2⟩
 ·go_wp2
  go_ret
  exact ⟨_,rfl,.inl rfl,hb3⟩
 ·have h3:¬ r < 0:=by omega
  have H2:=Lh h2;clear h2
  go_wp2
  go_ret
  exact ⟨_,rfl,.inr ⟨h20,H2.out⟩,hb3⟩
/-- a lexicon in new memory -/
def LexPost (w:World) (ms:List ByteArray) (en:Ending) (w':World):Prop :=
 ∃ g,en=.returned (.agg #[.slice (some ⟨g,0,none⟩) ms.length ms.length])∧w'.ownsRow w.heap.size 9 1 (.slice (some ⟨g,0,none⟩) ms.length ms.length) ms.length (ms.flatMap Tx.enc)∧Below w.heap.size w w'
theorem toLexicon_any (ms:List ByteArray) (a:Option Addr) (cap:Nat) (w:World) (hm:SliceAt w 1 Tx.enc a ms) (hl:ms.length≤1048576) :
  Calls Tryz.prog 67 #[.agg #[.slice a ms.length cap]] w (LexPost w ms):=by
 have HM:=Lh hm;clear hm
 have hb0:Below w.heap.size w (((w.alloc (.cells #[.slice a ms.length cap] 27)).alloc (.cells #[.slice none 0 0] 43)).alloc (.cells #[.slice none 0 0] 43)):=(((Below.refl _ _).alloc (Nat.le_refl _) _).alloc (by simp) _).alloc (by simp;omega) _
 go_enter Tryz.func67,Tryz.ntmps67
 go_wp2_with fail
 refine (toStringS_any ms a cap _ (HM.out.kept hb0) hl).mono ?_
 rintro e w2 ⟨g,rfl,ho,hb2⟩
 have hg:=ho.lt g rfl
 simp only [World.size_alloc] at hg
 have c1:w2.cell? ⟨w.heap.size+1,0,none⟩=some (.slice none 0 0):=(hb2.cell (p:=⟨w.heap.size+1,0,none⟩) (by simp)).trans (by go_cell)
 have c2:w2.cell? ⟨w.heap.size+1+1,0,none⟩=some (.slice none 0 0):=(hb2.cell (p:=⟨w.heap.size+1+1,0,none⟩) (by simp)).trans (by go_cell)
 have f1:w2.frozen? ⟨w.heap.size+1,0,none⟩=false:=(hb2.frozen (p:=⟨w.heap.size+1,0,none⟩) (by simp)).trans (by simp [go_sem])
 have f2:w2.frozen? ⟨w.heap.size+1+1,0,none⟩=false:=(hb2.frozen (p:=⟨w.heap.size+1+1,0,none⟩) (by simp)).trans (by simp [go_sem])
 have c3:((w2.setCell ⟨w.heap.size+1+1,0,none⟩ (.slice (some ⟨g,0,none⟩) ms.length ms.length)).setCell ⟨w.heap.size+1,0,none⟩ (.slice (some ⟨g,0,none⟩) ms.length ms.length)).cell? ⟨w.heap.size+1,0,none⟩=some (.slice (some ⟨g,0,none⟩) ms.length ms.length):=by go_cell
 have HO:=Lh ho;clear ho
 go_wp2
 refine bodyPost_ret (v:=.agg #[.slice (some ⟨g,0,none⟩) ms.length ms.length]) (by simp [results,Tryz.results67,go_sem,c3]) rfl ?_
 refine ⟨g,rfl,?_,?_⟩
 ·exact own_mono (ownsRow_setCell_below (ownsRow_setCell_below HO.out (by simp) _) (by simp) _) (by simp;omega)
 ·exact ((hb0.trans (hb2.mono (by simp;omega))).setCell (by simp;omega) _).setCell (by simp) _
theorem eqLexicon_any (ms:List ByteArray) (a b:Option Addr) (capa capb:Nat) (w:World) (ha:SliceAt w 1 Tx.enc a ms) (hb:SliceAt w 1 Tx.enc b ms) (hl:ms.length≤9223372036854775807) :
  Calls Tryz.prog 84 #[.agg #[.slice a ms.length capa],.agg #[.slice b ms.length capb]] w fun e w'=>e=.returned (.bool true)∧Below w.heap.size w w':=by
 have HA:=Lh ha;clear ha
 have HB:=Lh hb;clear hb
 have hb0:Below w.heap.size w ((w.alloc (.cells #[.slice a ms.length capa] 43)).alloc (.cells #[.slice b ms.length capb] 43)):=((Below.refl _ _).alloc (Nat.le_refl _) _).alloc (by simp) _
 go_enter Tryz.func84,Tryz.ntmps84
 go_wp2_with fail
 refine (eqStringS_any ms a b capa capb _ (HA.out.kept hb0) (HB.out.kept hb0) hl).mono ?_
 rintro e w2 ⟨rfl,hb2⟩
 go_wp2
 go_ret
 exact ⟨rfl,hb0.trans (hb2.mono hb0.size)⟩
end Go.Proofs.YtalnbgcdhcnjfaaGreatDoor

namespace Go.Proofs.YtalnbgcdhcnjfaaGreatDoor
open Go.ChangeShapes Go.WideShapes Go.ChangeAt Go.RowKit Go.Sort

structure Brd where
 size:Int
 premium:ByteArray
 cells:ByteArray
def Brd.enc (m:Brd):List Value:=[.int .i64 m.size,.string m.premium,.string m.cells]
theorem Brd.enc_len (m:Brd):(Brd.enc m).length=3:=rfl
/-- What memory bounds: no string is longer than a string can be. -/
def Brd.fit (m:Brd):Prop:=m.premium.size≤9223372036854775807∧m.cells.size≤9223372036854775807
def Brd.sz (m:Brd):Nat:=m.premium.size+m.cells.size

theorem szBoard_any (m:Brd) (left:Int) (w:World) (h0:0≤left) (h1:left≤1048576) (hf:m.fit) :
  Calls Tryz.prog 20 #[.agg #[.int .i64 m.size,.string m.premium,.string m.cells],.int .i64 left] w (SzPost w left m.sz):=by
 obtain ⟨hf0,hf1⟩:=hf
 go_enter Tryz.func20,Tryz.ntmps20
 go_wp2
 all_goals
  go_ret
  first
   | exact ⟨_,rfl,.inl rfl,by go_grown⟩
   | exact ⟨_,rfl,.inr ⟨by omega,by simp only [Brd.sz];omega⟩,by go_grown⟩

theorem toBoard_any (m:Brd) (w:World) :
  Calls Tryz.prog 35 #[.agg #[.int .i64 m.size,.string m.premium,.string m.cells]] w fun e w'=>e=.returned (.agg #[.int .i64 m.size,.string m.premium,.string m.cells])∧Below w.heap.size w w':=by
 go_enter Tryz.func35,Tryz.ntmps35
 go_wp2
 go_returns
 exact ⟨rfl,by go_grown⟩

theorem eqBoard_any (m:Brd) (w:World) :
  Calls Tryz.prog 47 #[.agg #[.int .i64 m.size,.string m.premium,.string m.cells],.agg #[.int .i64 m.size,.string m.premium,.string m.cells]] w fun e w'=>e=.returned (.bool true)∧Below w.heap.size w w':=by
 go_enter Tryz.func47,Tryz.ntmps47
 go_wp2
 go_ret
 exact ⟨rfl,by go_grown⟩

end Go.Proofs.YtalnbgcdhcnjfaaGreatDoor

namespace Go.Proofs.YtalnbgcdhcnjfaaGreatDoor
open Go.ChangeShapes Go.WideShapes Go.ChangeAt Go.RowKit Go.Sort

structure Ply where
 row:Int
 col:Int
 down:Bool
 word:ByteArray
def Ply.enc (m:Ply):List Value:=[.int .i64 m.row,.int .i64 m.col,.bool m.down,.string m.word]
theorem Ply.enc_len (m:Ply):(Ply.enc m).length=4:=rfl
/-- What memory bounds: no string is longer than a string can be. -/
def Ply.fit (m:Ply):Prop:=m.word.size≤9223372036854775807
def Ply.sz (m:Ply):Nat:=m.word.size

theorem szPlay_any (m:Ply) (left:Int) (w:World) (h0:0≤left) (h1:left≤1048576) (hf:m.fit) :
  Calls Tryz.prog 55 #[.agg #[.int .i64 m.row,.int .i64 m.col,.bool m.down,.string m.word],.int .i64 left] w (SzPost w left m.sz):=by
 have hf0:m.word.size≤9223372036854775807:=hf
 go_enter Tryz.func55,Tryz.ntmps55
 go_wp2
 all_goals
  go_ret
  first
   | exact ⟨_,rfl,.inl rfl,by go_grown⟩
   | exact ⟨_,rfl,.inr ⟨by omega,by simp only [Ply.sz];omega⟩,by go_grown⟩

theorem toPlay_any (m:Ply) (w:World) :
  Calls Tryz.prog 68 #[.agg #[.int .i64 m.row,.int .i64 m.col,.bool m.down,.string m.word]] w fun e w'=>e=.returned (.agg #[.int .i64 m.row,.int .i64 m.col,.bool m.down,.string m.word])∧Below w.heap.size w w':=by
 go_enter Tryz.func68,Tryz.ntmps68
 go_wp2
 go_returns
 exact ⟨rfl,by go_grown⟩

theorem eqPlay_any (m:Ply) (w:World) :
  Calls Tryz.prog 85 #[.agg #[.int .i64 m.row,.int .i64 m.col,.bool m.down,.string m.word],.agg #[.int .i64 m.row,.int .i64 m.col,.bool m.down,.string m.word]] w fun e w'=>e=.returned (.bool true)∧Below w.heap.size w w':=by
 go_enter Tryz.func85,Tryz.ntmps85
 go_wp2
 go_ret
 exact ⟨rfl,by go_grown⟩

end Go.Proofs.YtalnbgcdhcnjfaaGreatDoor
