/- Contracts: the value of letters, the penalty for a clock: the program and the reference. No condition but that lengths are small. · Contracts: the changes of the scores at the end of a game: the program and the reference. Go's tables of unicode and unicode/utf8 hold what is laid (CEnv), internal/bytealg's MaxLen a number (EnvL); texts fit. · Contracts: the changes of the scores at the end of a game: the program's side, and both functions. Go's tables of unicode and unicode/utf8 hold what is laid (CEnv), internal/bytealg's MaxLen a number (EnvL); texts fit. · Contracts: the changes of the scores at the end of a game: the program and the reference. Go's tables of unicode and unicode/utf8 hold what is laid (CEnv), internal/bytealg's MaxLen a number (EnvL); texts fit. -/
import Derived.Test.YtkjhapbjdjcipaaGreatDoorGfP
import Derived.Test.YtkjhapbjdjcipaaGreatDoorGmW
set_option maxRecDepth 100000
set_option maxHeartbeats 8000000
namespace Go.Proofs.YtkjhapbjdjcipaaGreatDoor
open Go.ChangeShapes Go.WideShapes Go.ChangeAt Go.RowKit Go.Sort

theorem Tls.sumK_succ {x:Tls} {s:ByteArray} {k:Nat} (h:k < s.size):x.sumK s (k+1)=x.sumK s k+x.val s[k]:=by
 show x.sumK s k+x.val (s.data.toList.getD k 0)=_
 have hl:k < s.data.toList.length:=by simpa using h
 rw [List.getD_eq_getElem?_getD,List.getElem?_eq_getElem hl]
 rfl
theorem l02Sum_any (x:Tls) (q:TlA) (g:Nat) (s:ByteArray) (w:World) (ht:TAt w g x q) (hx:x.Good) (hs:s.size≤1048576) :
  Calls Tryz.prog 152 #[.pointer (some ⟨g,0,none⟩),.string s] w fun e w'=>e=.returned (.int .i64 (x.sum s))∧w=w':=by
 have HV:Hid (∀ c:UInt8,Calls Tryz.prog 180 #[.pointer (some ⟨g,0,none⟩),.int .u8 (c.toNat:Int)] w fun e w'=>e=.returned (.int .i64 (x.val c))∧w=w'):=Lh (fun c=>l02Value_any x q g c w ht hx)
 have HR:Hid (∀ k,0≤x.sumK s k∧x.sumK s k≤20 * k):=Lh (hx.sum_range s)
 have HRV:Hid (∀ c,0≤x.val c∧x.val c≤20):=Lh hx.val_range
 have HSU:Hid (∀ k (h:k < s.size),x.sumK s (k+1)=x.sumK s k+x.val s[k]):=Lh (fun k h=>Tls.sumK_succ h)
 have HS:Hid (x.sum s=x.sumK s s.size):=Lh rfl
 have HZ:Hid (x.sumK s 0=0):=Lh rfl
 clear ht hx
 go_enter Tryz.func152,Tryz.ntmps152
 go_wp2
 go_loopw [5,6] (fun sv iv wr=>∃ k:Nat,k≤s.size∧iv=.int .i64 k∧sv=.int .i64 (x.sumK s k)∧w=wr) (fun _ iv _=>s.size - (intOf iv).toNat)
 case atStart=>exact ⟨0,Nat.zero_le _,rfl,by rw [HZ.out],rfl⟩
 case round =>
  obtain ⟨k,hk,rfl,rfl,rfl⟩:=hrel
  by_cases hlt:k < s.size
  ·have h1:=HR.out k
   have h2:=HRV.out s[k]
   have HK:=Lh (HSU.out k hlt)
   go_wp2_with fail
   refine (HV.out _).mono ?_
   rintro e w' ⟨rfl,rfl⟩
   generalize x.val s[k]=v at *
   generalize x.sumK s k=t at *
   go_wp2
   go_roundw
   case rel=>exact ⟨k+1,hlt,by go_num,by rw [HK.out],trivial⟩
   case measure=>simp [intOf];omega
  ·obtain rfl:k=s.size:=by omega
   go_wp2
   go_ret
   exact ⟨by rw [HS.out];rfl,rfl⟩
theorem lettersValue_any (x:Tls) (q:TlA) (s:ByteArray) (w:World) (ha:x.At q w) (hx:x.Good) (hs:s.size≤1048576) :
  Calls Tryz.prog 123 #[.agg #[.string x.letters,.slice q.values.a x.values.length q.values.c,.slice q.counts.a x.counts.length q.counts.c,.int .i64 x.blanks],.string s] w fun e w'=>e=.returned (.int .i64 (x.sum s))∧Below w.heap.size w w':=by
 have HV:Hid (∀ (c:UInt8) W,x.At q W→Calls Tryz.prog 158 #[.agg #[.string x.letters,.slice q.values.a x.values.length q.values.c,.slice q.counts.a x.counts.length q.counts.c,.int .i64 x.blanks],.int .u8 (c.toNat:Int)] W fun e w'=>e=.returned (.int .i64 (x.val c))∧Below W.heap.size W w'):=Lh (fun c W h=>valueOf_any x q c W h hx)
 have HR:Hid (∀ k,0≤x.sumK s k∧x.sumK s k≤20 * k):=Lh (hx.sum_range s)
 have HRV:Hid (∀ c,0≤x.val c∧x.val c≤20):=Lh hx.val_range
 have HSU:Hid (∀ k (h:k < s.size),x.sumK s (k+1)=x.sumK s k+x.val s[k]):=Lh (fun k h=>Tls.sumK_succ h)
 have HS:Hid (x.sum s=x.sumK s s.size):=Lh rfl
 have HZ:Hid (x.sumK s 0=0):=Lh rfl
 have hb:Below w.heap.size w (w.alloc (.cells #[.string x.letters,.slice q.values.a x.values.length q.values.c,.slice q.counts.a x.counts.length q.counts.c,.int .i64 x.blanks] 39)):=(Below.refl _ _).alloc (Nat.le_refl _) _
 have HT:=Lh (TAt.new w x q 39 ha)
 clear ha hx
 go_enter Tryz.func123,Tryz.ntmps123
 go_upto_region 1 with fail
 generalize w.alloc (.cells #[.string x.letters,.slice q.values.a x.values.length q.values.c,.slice q.counts.a x.counts.length q.counts.c,.int .i64 x.blanks] 39)=w1 at *
 go_wp2
 go_loopw [5,6] (fun sv iv wr=>∃ k:Nat,k≤s.size∧iv=.int .i64 k∧sv=.int .i64 (x.sumK s k)∧Hid (TAt wr w.heap.size x q)∧Below w.heap.size w wr) (fun _ iv _=>s.size - (intOf iv).toNat)
 case atStart=>exact ⟨0,Nat.zero_le _,rfl,by rw [HZ.out],HT,hb⟩
 case round =>
  clear HT hb
  obtain ⟨k,hk,rfl,rfl,HT,hb⟩:=hrel
  by_cases hlt:k < s.size
  ·have h1:=HR.out k
   have h2:=HRV.out s[k]
   have HK:=Lh (HSU.out k hlt)
   have hk0:(0:Int)≤(k:Int):=by omega
   have hk3:(k:Int) < (s.size:Int):=by omega
   obtain ⟨c0,c1,c2,c3⟩:=HT.out.1
   have a0:=cell_regrown c0
   have a1:=cell_regrown c1
   have a2:=cell_regrown c2
   have a3:=cell_regrown c3
   clear c0 c1 c2 c3
   go_upto_region 5 with fail
   have hvv:Hid (x.val s[k]=x.val s[k]):=Lh rfl
   refine wp_region_quiet_below (by kernel_rfl) (by kernel_rfl) ?_
   repeat (go_big_quiet_step ((first | (go_at_call 158;exact Calls.regrown_of (HV.out _ _ (HT.out.2.kept (below_regrown _ _ _)))))))
   refine wpQuiet_nil ?_
   intro wx hw'
   obtain ⟨⟨dq,oq⟩,hw''⟩:=hw'
   have hd:=below_regrown wr dq oq
   rw [← hw''] at hd
   clear hw'' a0 a1 a2 a3
   replace hb:=hb.trans (hd.mono hb.size)
   replace HT:=Lh (HT.out.kept hd)
   clear hd
   generalize x.val s[k]=v at *
   generalize x.sumK s k=t at *
   go_wp2
   go_roundw
   case rel=>exact ⟨k+1,hlt,by go_num,by rw [HK.out],HT,hb⟩
   case measure=>simp [intOf];omega
  ·obtain rfl:k=s.size:=by omega
   go_wp2
   go_ret
   exact ⟨by rw [HS.out];rfl,hb⟩
theorem pen_zero {c:Int} (h:0≤c):pen c=0:=by unfold pen;rw [if_pos h]
theorem pen_neg {c:Int} (h:¬ 0≤c):pen c=10 * ((59 - c) / 60):=by unfold pen;rw [if_neg h]
theorem l18Penalty_any (c:Int) (w:World) (h:-36000≤c) (h1:c≤36000) :
  Calls Tryz.prog 153 #[.int .i64 c] w fun e w'=>e=.returned (.int .i64 (pen c))∧w=w':=by
 by_cases h0:0≤c
 ·rw [pen_zero h0]
  go_enter Tryz.func153,Tryz.ntmps153
  go_wp2
  go_ret
  exact ⟨rfl,rfl⟩
 ·rw [pen_neg h0]
  have e1:(59 - c).tdiv 60=(59 - c) / 60:=Int.tdiv_eq_ediv_of_nonneg (by omega)
  have e2:=IntWalk.i64_in (59 - c) (by omega)
  have e3:=IntWalk.i64_in ((59 - c) / 60) (by omega)
  have e4:=IntWalk.i64_in (10 * ((59 - c) / 60)) (by omega)
  go_enter Tryz.func153,Tryz.ntmps153
  go_wp2
  go_ret
  exact ⟨rfl,rfl⟩
theorem penalty_any (c:Int) (w:World) (h:-36000≤c) (h1:c≤36000) :
  Calls Tryz.prog 124 #[.int .i64 c] w fun e w'=>e=.returned (.int .i64 (pen c))∧w=w':=by
 by_cases h0:0≤c
 ·rw [pen_zero h0]
  go_enter Tryz.func124,Tryz.ntmps124
  go_wp2
  go_ret
  exact ⟨rfl,rfl⟩
 ·rw [pen_neg h0]
  have e0:=IntWalk.i64_in (-c) (by omega)
  have e1:(-c+59).tdiv 60=(59 - c) / 60:=by rw [show -c+59=59 - c by omega];exact Int.tdiv_eq_ediv_of_nonneg (by omega)
  have e2:=IntWalk.i64_in (-c+59) (by omega)
  have e3:=IntWalk.i64_in ((59 - c) / 60) (by omega)
  have e4:=IntWalk.i64_in (10 * ((59 - c) / 60)) (by omega)
  go_enter Tryz.func124,Tryz.ntmps124
  go_wp2
  go_ret
  exact ⟨rfl,rfl⟩
end Go.Proofs.YtkjhapbjdjcipaaGreatDoor

namespace Go.Proofs.YtkjhapbjdjcipaaGreatDoor
open Go.ChangeShapes Go.WideShapes Go.ChangeAt Go.RowKit Go.Sort

/-- what the changes at the end read of a game -/
structure Gam.Cf (x:Gam):Prop where
 tiles:x.setup.tiles.ok=true
 racks:x.racks.length=2
 clocks:x.clocks.length=2
 rack:∀ k,k < 2→(x.rack k).size≤7
 clock:∀ k,k < 2→-36000≤x.clocks.getD k 0∧x.clocks.getD k 0≤36000
theorem Gam.Fine.cf {x:Gam} (h:x.Fine):x.Cf:=⟨h.tiles,h.racks,h.clocks,fun k hk=>by have h2:=rackOk_len (h.rack k hk);simpa using h2,h.clock⟩
theorem Gam.change_len (x:Gam):x.change.length=2:=rfl
theorem Gam.change_take1 (x:Gam):(x.change.take 1).flatMap I64.enc=(x.change.take 0).flatMap I64.enc++I64.enc (x.chg 0):=rfl
theorem Gam.change_take2 (x:Gam):(x.change.take 2).flatMap I64.enc=(x.change.take 1).flatMap I64.enc++I64.enc (x.chg 1):=rfl
theorem chg_empty {x:Gam} {k:Nat} (h:(x.rack k).size=0):x.chg k=- x.setup.tiles.sum (x.rack k) - pen (x.clocks.getD k 0)+x.setup.tiles.sum (x.rack (1 - k)):=by unfold Gam.chg;rw [if_pos h]
theorem chg_full {x:Gam} {k:Nat} (h:¬ (x.rack k).size=0):x.chg k=- x.setup.tiles.sum (x.rack k) - pen (x.clocks.getD k 0):=by unfold Gam.chg;rw [if_neg h];omega
theorem l18Change_any (x:Gam) (p:GaA) (g:Nat) (w:World) (hg:GAt w g x p) (hk:x.Cf) :
  Calls Tryz.prog 118 #[.pointer (some ⟨g,0,none⟩)] w (NumsPost w x.change):=by
 obtain ⟨i0,hi0,hi1,hi2,hi3⟩:=info_parts infoI64
 have HF:=Lh hk
 have hxg:=Tls.good HF.out.tiles
 have L0:(x.rack 0).size≤7:=HF.out.rack 0 (by omega)
 have L1:(x.rack 1).size≤7:=HF.out.rack 1 (by omega)
 have hs0:0≤x.setup.tiles.sum (x.rack 0)∧x.setup.tiles.sum (x.rack 0)≤140:=by have h2:=hxg.sum_range (x.rack 0) (x.rack 0).size;unfold Tls.sum;omega
 have hs1:0≤x.setup.tiles.sum (x.rack 1)∧x.setup.tiles.sum (x.rack 1)≤140:=by have h2:=hxg.sum_range (x.rack 1) (x.rack 1).size;unfold Tls.sum;omega
 have hp0:=pen_range (HF.out.clock 0 (by omega)).1
 have hp1:=pen_range (HF.out.clock 1 (by omega)).1
 have HE0:=Lh (fun h=>chg_empty (x:=x) (k:=0) h)
 have HE1:=Lh (fun h=>chg_empty (x:=x) (k:=1) h)
 have HN0:=Lh (fun h=>chg_full (x:=x) (k:=0) h)
 have HN1:=Lh (fun h=>chg_full (x:=x) (k:=1) h)
 have HT1:=Lh x.change_take1
 have HT2:=Lh x.change_take2
 have HGA:=Lh hg
 have HPE0:Hid (∀ W,Calls Tryz.prog 153 #[.int .i64 (x.clocks.getD 0 0)] W fun e w'=>e=.returned (.int .i64 (pen (x.clocks.getD 0 0)))∧W=w'):=Lh (fun W=>l18Penalty_any _ W (HF.out.clock 0 (by omega)).1 (HF.out.clock 0 (by omega)).2)
 have HPE1:Hid (∀ W,Calls Tryz.prog 153 #[.int .i64 (x.clocks.getD 1 0)] W fun e w'=>e=.returned (.int .i64 (pen (x.clocks.getD 1 0)))∧W=w'):=Lh (fun W=>l18Penalty_any _ W (HF.out.clock 1 (by omega)).1 (HF.out.clock 1 (by omega)).2)
 have HSM0:Hid (∀ W,TAt W g x.setup.tiles p.setup.tiles→Calls Tryz.prog 152 #[.pointer (some ⟨g,0,none⟩),.string (x.rack 0)] W fun e w'=>e=.returned (.int .i64 (x.setup.tiles.sum (x.rack 0)))∧W=w'):=Lh (fun W h=>l02Sum_any x.setup.tiles p.setup.tiles g _ W h hxg (by omega))
 have HSM1:Hid (∀ W,TAt W g x.setup.tiles p.setup.tiles→Calls Tryz.prog 152 #[.pointer (some ⟨g,0,none⟩),.string (x.rack 1)] W fun e w'=>e=.returned (.int .i64 (x.setup.tiles.sum (x.rack 1)))∧W=w'):=Lh (fun W h=>l02Sum_any x.setup.tiles p.setup.tiles g _ W h hxg (by omega))
 clear hg hk hxg L0 L1
 generalize x.setup.tiles.sum (x.rack 0)=s0 at *
 generalize x.setup.tiles.sum (x.rack 1)=s1 at *
 generalize pen (x.clocks.getD 0 0)=q0 at *
 generalize pen (x.clocks.getD 1 0)=q1 at *
 have hb:Below w.heap.size w (w.alloc (.cells #[] 2)):=(Below.refl _ _).alloc (Nat.le_refl _) _
 have HO:Hid ((w.alloc (.cells #[] 2)).ownsRow w.heap.size 2 1 (.slice (some ⟨w.heap.size,0,none⟩) 0 0) 0 ((x.change.take 0).flatMap I64.enc)):=Lh (World.ownsRow_made (base:=w.heap.size) (e:=2) (size:=1) w #[] 0 (Nat.le_refl _) (by unfold maxLen;omega) rfl)
 go_enter Tryz.func118,Tryz.ntmps118
 go_upto_region 2 with fail
 generalize w.alloc (.cells #[] 2)=w4 at *
 go_upto_region 3 with fail
 go_loopw [3,4,5,6] (fun ov iv _ _ wr=>∃ k g cp:Nat,k≤2∧iv=.int .i64 k∧ov=.slice (some ⟨g,0,none⟩) k cp∧Hid (wr.ownsRow w.heap.size 2 1 (.slice (some ⟨g,0,none⟩) k cp) k ((x.change.take k).flatMap I64.enc))∧Below w.heap.size w wr) (fun _ iv _ _ _=>2 - (intOf iv).toNat)
 case atStart=>exact ⟨0,w.heap.size,0,Nat.zero_le _,rfl,rfl,HO,hb⟩
 case round =>
  clear HO hb
  obtain ⟨k,g9,cp,hk2,rfl,rfl,HO,hb⟩:=hrel
  have hgB:w.heap.size≤g9:=(HO.out.lt g9 rfl).1
  obtain rfl | rfl | rfl:k=0∨k=1∨k=2:=by omega
  ·have HG:=Lh (HGA.out.kept hb)
   obtain ⟨rb,ro,hra,hrc⟩:=(HG.out.at_.2.1).open (show 0 < x.racks.length by have:=HF.out.racks;omega)
   have r0:wr.cell? ⟨rb,ro+0,none⟩=some (.string (x.rack 0)):=words_cell hrc (show 0 < x.racks.length by have:=HF.out.racks;omega)
   have r1:wr.cell? ⟨rb,ro+1,none⟩=some (.string (x.rack 1)):=words_cell hrc (show 1 < x.racks.length by have:=HF.out.racks;omega)
   rw [Nat.add_zero] at r0
   obtain ⟨kb,ko,hka,t0⟩:=num_cell (HG.out.at_.2.2.2) (show 0 < x.clocks.length by have:=HF.out.clocks;omega)
   obtain ⟨kb1,ko1,hkb,t1⟩:=num_cell (HG.out.at_.2.2.2) (show 1 < x.clocks.length by have:=HF.out.clocks;omega)
   rw [hka] at hkb
   cases hkb
   rw [Nat.add_zero] at t0
   have c14:=HG.out.cell (i:=14) rfl
   have c16:=HG.out.cell (i:=16) rfl
   rw [hra,HF.out.racks] at c14
   rw [hka,HF.out.clocks] at c16
   clear hrc hra hka
   go_upto_region 5 with fail
   go_quiet ((go_at_call 152;exact quiet_of_eq (HSM0.out _ (HG.out.tiles.kept ((Drew.drewN (Drew.refl _) _).below _)))))
   have hd:Below wr.heap.size wr (wr.drewN nq):=(Drew.drewN (Drew.refl _) nq).below _
   replace r0:=cell_kept r0 hd
   replace r1:=cell_kept r1 hd
   replace t0:=cell_kept t0 hd
   replace t1:=cell_kept t1 hd
   replace c14:=cell_kept c14 hd
   replace c16:=cell_kept c16 hd
   replace hb:=hb.trans (hd.mono hb.size)
   replace HO:=Lh (own_below HO.out hd)
   replace HG:=Lh (HG.out.kept hd)
   clear hd
   generalize wr.drewN nq=wa at *
   go_upto_region 6 with fail
   go_wp2_with fail
   refine (HPE0.out _).mono ?_
   rintro e w' ⟨rfl,rfl⟩
   go_upto_region 7 with fail
   by_cases hz:(x.rack 0).size=0
   ·have HCV:Hid (x.chg 0=-(s0) - q0+s1):=Lh (by rw [HE0.out hz])
    have e9:=text_nil hz
    clear hz
    go_upto_region 8 with fail
    go_quiet ((go_at_call 152;exact quiet_of_eq (HSM1.out _ (HG.out.tiles.kept ((Drew.drewN (Drew.refl _) _).below _)))))
    have hd:Below wa.heap.size wa (wa.drewN nq):=(Drew.drewN (Drew.refl _) nq).below _
    replace r0:=cell_kept r0 hd
    replace r1:=cell_kept r1 hd
    replace t0:=cell_kept t0 hd
    replace t1:=cell_kept t1 hd
    replace c14:=cell_kept c14 hd
    replace c16:=cell_kept c16 hd
    replace hb:=hb.trans (hd.mono hb.size)
    replace HO:=Lh (own_below HO.out hd)
    replace HG:=Lh (HG.out.kept hd)
    clear hd
    generalize wa.drewN nq=wb at *
    go_upto_region 9 with fail
    clear e9
    clear r0 r1 t0 t1 c14 c16 HG
    have hx:Below (wb).heap.size wb ((wb).alloc (.cells #[.int .i64 (-(s0) - q0+s1)] 2)):=(Below.refl _ _).alloc (Nat.le_refl _) _
    have KN:=Lh (new_i64 wb (-(s0) - q0+s1) 2)
    have hz3:=hb.size
    replace hb:=hb.trans (hx.mono hb.size)
    replace HO:=Lh (own_below HO.out hx)
    clear hx
    go_wp2_with (at_builtin;go_must (refine wpList_append_lies _ rfl (.tmp 58) (.tmp 60) 22 rfl w.heap.size 2 i0 _ 1 8 Tryz.underlying22 hi0 hi1 hi2 hi3 rfl (by decide) _ 0 ((x.change.take 0).flatMap I64.enc) (by rfl) HO.out ⟨(wb).heap.size,0,none⟩ 1 1 (I64.enc (-(s0) - q0+s1)) (by rfl) rfl KN.out (i64_one (-(s0) - q0+s1)) (by decide) ?c1 ?c2 ?c3 _ rfl ?_))
    case c1=>unfold maxLen;omega
    case c2=>omega
    case c3=>(first | omega | (simp only [World.size_alloc];omega))
    intro g7 cap7 w7 hown hgr hwh hlt7
    have hb7:=hb.grown hgr hb.size (fun q e=>by have:=(HO.out.lt q e).1;omega)
    have HO7:Hid (w7.ownsRow w.heap.size 2 1 (.slice (some ⟨g7,0,none⟩) (0+1) cap7) (0+1) ((x.change.take (0+1)).flatMap I64.enc)):=Lh (by rw [HT1.out,HCV.out];exact hown)
    clear hown hgr hwh KN HO hb
    go_wp2
    go_roundw
    case rel=>exact ⟨0+1,g7,cap7,by omega,by go_num,by go_num,HO7,hb7⟩
    case measure=>simp [intOf]
   ·have HCV:Hid (x.chg 0=-(s0) - q0):=Lh (by rw [HN0.out hz])
    obtain ⟨e9,f9⟩:=text_some hz
    clear hz
    go_upto_region 9 with fail
    clear e9 f9
    clear r0 r1 t0 t1 c14 c16 HG
    have hx:Below (wa).heap.size wa ((wa).alloc (.cells #[.int .i64 (-(s0) - q0)] 2)):=(Below.refl _ _).alloc (Nat.le_refl _) _
    have KN:=Lh (new_i64 wa (-(s0) - q0) 2)
    have hz3:=hb.size
    replace hb:=hb.trans (hx.mono hb.size)
    replace HO:=Lh (own_below HO.out hx)
    clear hx
    go_wp2_with (at_builtin;go_must (refine wpList_append_lies _ rfl (.tmp 58) (.tmp 60) 22 rfl w.heap.size 2 i0 _ 1 8 Tryz.underlying22 hi0 hi1 hi2 hi3 rfl (by decide) _ 0 ((x.change.take 0).flatMap I64.enc) (by rfl) HO.out ⟨(wa).heap.size,0,none⟩ 1 1 (I64.enc (-(s0) - q0)) (by rfl) rfl KN.out (i64_one (-(s0) - q0)) (by decide) ?c1 ?c2 ?c3 _ rfl ?_))
    case c1=>unfold maxLen;omega
    case c2=>omega
    case c3=>(first | omega | (simp only [World.size_alloc];omega))
    intro g7 cap7 w7 hown hgr hwh hlt7
    have hb7:=hb.grown hgr hb.size (fun q e=>by have:=(HO.out.lt q e).1;omega)
    have HO7:Hid (w7.ownsRow w.heap.size 2 1 (.slice (some ⟨g7,0,none⟩) (0+1) cap7) (0+1) ((x.change.take (0+1)).flatMap I64.enc)):=Lh (by rw [HT1.out,HCV.out];exact hown)
    clear hown hgr hwh KN HO hb
    go_wp2
    go_roundw
    case rel=>exact ⟨0+1,g7,cap7,by omega,by go_num,by go_num,HO7,hb7⟩
    case measure=>simp [intOf]
  ·have HG:=Lh (HGA.out.kept hb)
   obtain ⟨rb,ro,hra,hrc⟩:=(HG.out.at_.2.1).open (show 0 < x.racks.length by have:=HF.out.racks;omega)
   have r0:wr.cell? ⟨rb,ro+0,none⟩=some (.string (x.rack 0)):=words_cell hrc (show 0 < x.racks.length by have:=HF.out.racks;omega)
   have r1:wr.cell? ⟨rb,ro+1,none⟩=some (.string (x.rack 1)):=words_cell hrc (show 1 < x.racks.length by have:=HF.out.racks;omega)
   rw [Nat.add_zero] at r0
   obtain ⟨kb,ko,hka,t0⟩:=num_cell (HG.out.at_.2.2.2) (show 0 < x.clocks.length by have:=HF.out.clocks;omega)
   obtain ⟨kb1,ko1,hkb,t1⟩:=num_cell (HG.out.at_.2.2.2) (show 1 < x.clocks.length by have:=HF.out.clocks;omega)
   rw [hka] at hkb
   cases hkb
   rw [Nat.add_zero] at t0
   have c14:=HG.out.cell (i:=14) rfl
   have c16:=HG.out.cell (i:=16) rfl
   rw [hra,HF.out.racks] at c14
   rw [hka,HF.out.clocks] at c16
   clear hrc hra hka
   go_upto_region 5 with fail
   go_quiet ((go_at_call 152;exact quiet_of_eq (HSM1.out _ (HG.out.tiles.kept ((Drew.drewN (Drew.refl _) _).below _)))))
   have hd:Below wr.heap.size wr (wr.drewN nq):=(Drew.drewN (Drew.refl _) nq).below _
   replace r0:=cell_kept r0 hd
   replace r1:=cell_kept r1 hd
   replace t0:=cell_kept t0 hd
   replace t1:=cell_kept t1 hd
   replace c14:=cell_kept c14 hd
   replace c16:=cell_kept c16 hd
   replace hb:=hb.trans (hd.mono hb.size)
   replace HO:=Lh (own_below HO.out hd)
   replace HG:=Lh (HG.out.kept hd)
   clear hd
   generalize wr.drewN nq=wa at *
   go_upto_region 6 with fail
   go_wp2_with fail
   refine (HPE1.out _).mono ?_
   rintro e w' ⟨rfl,rfl⟩
   go_upto_region 7 with fail
   by_cases hz:(x.rack 1).size=0
   ·have HCV:Hid (x.chg 1=-(s1) - q1+s0):=Lh (by rw [HE1.out hz])
    have e9:=text_nil hz
    clear hz
    go_upto_region 8 with fail
    go_quiet ((go_at_call 152;exact quiet_of_eq (HSM0.out _ (HG.out.tiles.kept ((Drew.drewN (Drew.refl _) _).below _)))))
    have hd:Below wa.heap.size wa (wa.drewN nq):=(Drew.drewN (Drew.refl _) nq).below _
    replace r0:=cell_kept r0 hd
    replace r1:=cell_kept r1 hd
    replace t0:=cell_kept t0 hd
    replace t1:=cell_kept t1 hd
    replace c14:=cell_kept c14 hd
    replace c16:=cell_kept c16 hd
    replace hb:=hb.trans (hd.mono hb.size)
    replace HO:=Lh (own_below HO.out hd)
    replace HG:=Lh (HG.out.kept hd)
    clear hd
    generalize wa.drewN nq=wb at *
    go_upto_region 9 with fail
    clear e9
    clear r0 r1 t0 t1 c14 c16 HG
    have hx:Below (wb).heap.size wb ((wb).alloc (.cells #[.int .i64 (-(s1) - q1+s0)] 2)):=(Below.refl _ _).alloc (Nat.le_refl _) _
    have KN:=Lh (new_i64 wb (-(s1) - q1+s0) 2)
    have hz3:=hb.size
    replace hb:=hb.trans (hx.mono hb.size)
    replace HO:=Lh (own_below HO.out hx)
    clear hx
    go_wp2_with (at_builtin;go_must (refine wpList_append_lies _ rfl (.tmp 58) (.tmp 60) 22 rfl w.heap.size 2 i0 _ 1 8 Tryz.underlying22 hi0 hi1 hi2 hi3 rfl (by decide) _ 1 ((x.change.take 1).flatMap I64.enc) (by rfl) HO.out ⟨(wb).heap.size,0,none⟩ 1 1 (I64.enc (-(s1) - q1+s0)) (by rfl) rfl KN.out (i64_one (-(s1) - q1+s0)) (by decide) ?c1 ?c2 ?c3 _ rfl ?_))
    case c1=>unfold maxLen;omega
    case c2=>omega
    case c3=>(first | omega | (simp only [World.size_alloc];omega))
    intro g7 cap7 w7 hown hgr hwh hlt7
    have hb7:=hb.grown hgr hb.size (fun q e=>by have:=(HO.out.lt q e).1;omega)
    have HO7:Hid (w7.ownsRow w.heap.size 2 1 (.slice (some ⟨g7,0,none⟩) (1+1) cap7) (1+1) ((x.change.take (1+1)).flatMap I64.enc)):=Lh (by rw [HT2.out,HCV.out];exact hown)
    clear hown hgr hwh KN HO hb
    go_wp2
    go_roundw
    case rel=>exact ⟨1+1,g7,cap7,by omega,by go_num,by go_num,HO7,hb7⟩
    case measure=>simp [intOf]
   ·have HCV:Hid (x.chg 1=-(s1) - q1):=Lh (by rw [HN1.out hz])
    obtain ⟨e9,f9⟩:=text_some hz
    clear hz
    go_upto_region 9 with fail
    clear e9 f9
    clear r0 r1 t0 t1 c14 c16 HG
    have hx:Below (wa).heap.size wa ((wa).alloc (.cells #[.int .i64 (-(s1) - q1)] 2)):=(Below.refl _ _).alloc (Nat.le_refl _) _
    have KN:=Lh (new_i64 wa (-(s1) - q1) 2)
    have hz3:=hb.size
    replace hb:=hb.trans (hx.mono hb.size)
    replace HO:=Lh (own_below HO.out hx)
    clear hx
    go_wp2_with (at_builtin;go_must (refine wpList_append_lies _ rfl (.tmp 58) (.tmp 60) 22 rfl w.heap.size 2 i0 _ 1 8 Tryz.underlying22 hi0 hi1 hi2 hi3 rfl (by decide) _ 1 ((x.change.take 1).flatMap I64.enc) (by rfl) HO.out ⟨(wa).heap.size,0,none⟩ 1 1 (I64.enc (-(s1) - q1)) (by rfl) rfl KN.out (i64_one (-(s1) - q1)) (by decide) ?c1 ?c2 ?c3 _ rfl ?_))
    case c1=>unfold maxLen;omega
    case c2=>omega
    case c3=>(first | omega | (simp only [World.size_alloc];omega))
    intro g7 cap7 w7 hown hgr hwh hlt7
    have hb7:=hb.grown hgr hb.size (fun q e=>by have:=(HO.out.lt q e).1;omega)
    have HO7:Hid (w7.ownsRow w.heap.size 2 1 (.slice (some ⟨g7,0,none⟩) (1+1) cap7) (1+1) ((x.change.take (1+1)).flatMap I64.enc)):=Lh (by rw [HT2.out,HCV.out];exact hown)
    clear hown hgr hwh KN HO hb
    go_wp2
    go_roundw
    case rel=>exact ⟨1+1,g7,cap7,by omega,by go_num,by go_num,HO7,hb7⟩
    case measure=>simp [intOf]
  ·go_wp2
   go_ret
   exact ⟨g9,cp,rfl,HO.out,hb⟩
end Go.Proofs.YtkjhapbjdjcipaaGreatDoor

namespace Go.Proofs.YtkjhapbjdjcipaaGreatDoor
open Go.ChangeShapes Go.WideShapes Go.ChangeAt Go.RowKit Go.Sort

theorem finalChange_any (x:Gam) (p:GaA) (w:World) (ha:x.At p w) (hk:x.Cf) :
  Calls Tryz.prog 87 #[.agg (gcells x p).toArray] w (NumsPost w x.change):=by
 obtain ⟨i0,hi0,hi1,hi2,hi3⟩:=info_parts infoI64
 have HF:=Lh hk
 have hxg:=Tls.good HF.out.tiles
 have L0:(x.rack 0).size≤7:=HF.out.rack 0 (by omega)
 have L1:(x.rack 1).size≤7:=HF.out.rack 1 (by omega)
 have hs0:0≤x.setup.tiles.sum (x.rack 0)∧x.setup.tiles.sum (x.rack 0)≤140:=by have h2:=hxg.sum_range (x.rack 0) (x.rack 0).size;unfold Tls.sum;omega
 have hs1:0≤x.setup.tiles.sum (x.rack 1)∧x.setup.tiles.sum (x.rack 1)≤140:=by have h2:=hxg.sum_range (x.rack 1) (x.rack 1).size;unfold Tls.sum;omega
 have hp0:=pen_range (HF.out.clock 0 (by omega)).1
 have hp1:=pen_range (HF.out.clock 1 (by omega)).1
 have HE0:=Lh (fun h=>chg_empty (x:=x) (k:=0) h)
 have HE1:=Lh (fun h=>chg_empty (x:=x) (k:=1) h)
 have HN0:=Lh (fun h=>chg_full (x:=x) (k:=0) h)
 have HN1:=Lh (fun h=>chg_full (x:=x) (k:=1) h)
 have HT1:=Lh x.change_take1
 have HT2:=Lh x.change_take2
 have HG0:=Lh (GAt.new w x p 48 ha)
 have hb0:Below w.heap.size w (w.alloc (.cells (gcells x p).toArray 48)):=(Below.refl _ _).alloc (Nat.le_refl _) _
 have HPE0:Hid (∀ W,Calls Tryz.prog 124 #[.int .i64 (x.clocks.getD 0 0)] W fun e w'=>e=.returned (.int .i64 (pen (x.clocks.getD 0 0)))∧Below W.heap.size W w'):=Lh (fun W=>(penalty_any _ W (HF.out.clock 0 (by omega)).1 (HF.out.clock 0 (by omega)).2).mono (by
  rintro e w' ⟨h,rfl⟩
  exact ⟨h,Below.refl _ _⟩))
 have HSM0:Hid (∀ W,x.setup.tiles.At p.setup.tiles W→Calls Tryz.prog 123 #[.agg #[.string x.setup.tiles.letters,.slice p.setup.tiles.values.a x.setup.tiles.values.length p.setup.tiles.values.c,.slice p.setup.tiles.counts.a x.setup.tiles.counts.length p.setup.tiles.counts.c,.int .i64 x.setup.tiles.blanks],.string (x.rack 0)] W fun e w'=>e=.returned (.int .i64 (x.setup.tiles.sum (x.rack 0)))∧Below W.heap.size W w'):=Lh (fun W h=>lettersValue_any x.setup.tiles p.setup.tiles _ W h hxg (by omega))
 have HPE1:Hid (∀ W,Calls Tryz.prog 124 #[.int .i64 (x.clocks.getD 1 0)] W fun e w'=>e=.returned (.int .i64 (pen (x.clocks.getD 1 0)))∧Below W.heap.size W w'):=Lh (fun W=>(penalty_any _ W (HF.out.clock 1 (by omega)).1 (HF.out.clock 1 (by omega)).2).mono (by
  rintro e w' ⟨h,rfl⟩
  exact ⟨h,Below.refl _ _⟩))
 have HSM1:Hid (∀ W,x.setup.tiles.At p.setup.tiles W→Calls Tryz.prog 123 #[.agg #[.string x.setup.tiles.letters,.slice p.setup.tiles.values.a x.setup.tiles.values.length p.setup.tiles.values.c,.slice p.setup.tiles.counts.a x.setup.tiles.counts.length p.setup.tiles.counts.c,.int .i64 x.setup.tiles.blanks],.string (x.rack 1)] W fun e w'=>e=.returned (.int .i64 (x.setup.tiles.sum (x.rack 1)))∧Below W.heap.size W w'):=Lh (fun W h=>lettersValue_any x.setup.tiles p.setup.tiles _ W h hxg (by omega))
 clear ha hk hxg L0 L1
 generalize x.setup.tiles.sum (x.rack 0)=s0 at *
 generalize x.setup.tiles.sum (x.rack 1)=s1 at *
 generalize pen (x.clocks.getD 0 0)=q0 at *
 generalize pen (x.clocks.getD 1 0)=q1 at *
 obtain ⟨cs,hcs⟩:∃ cs,cs=gcells x p:=⟨_,rfl⟩
 rw [← hcs]
 rw [← hcs] at HG0 hb0
 clear hcs
 go_enter Tryz.func87,Tryz.ntmps87
 go_upto_region 1 with fail
 generalize w.alloc (.cells cs.toArray 48)=w1 at *
 have hb1:Below w1.heap.size w1 (w1.alloc (.cells #[] 2)):=(Below.refl _ _).alloc (Nat.le_refl _) _
 have HO:Hid ((w1.alloc (.cells #[] 2)).ownsRow w1.heap.size 2 1 (.slice (some ⟨w1.heap.size,0,none⟩) 0 0) 0 ((x.change.take 0).flatMap I64.enc)):=Lh (World.ownsRow_made (base:=w1.heap.size) (e:=2) (size:=1) w1 #[] 0 (Nat.le_refl _) (by unfold maxLen;omega) rfl)
 have HB0:=Lh hb0
 have HGA:=HG0
 have hb:=hb1
 clear hb0 hb1 HG0
 go_upto_region 2 with fail
 generalize w1.alloc (.cells #[] 2)=w4 at *
 have HG:=Lh (HGA.out.kept hb)
 obtain ⟨rb,ro,hra,_⟩:=(HG.out.at_.2.1).open (show 0 < x.racks.length by have:=HF.out.racks;omega)
 have c14:=HG.out.cell (i:=14) rfl
 rw [hra,HF.out.racks] at c14
 have HRA:=Lh hra
 clear hra
 go_upto_region 3 with fail
 clear c14 HG
 go_loopw [3,4,5,6,11] (fun ov _ _ _ iv wr=>∃ k g cp:Nat,k≤2∧iv=.int .i64 k∧ov=.slice (some ⟨g,0,none⟩) k cp∧Hid (wr.ownsRow w1.heap.size 2 1 (.slice (some ⟨g,0,none⟩) k cp) k ((x.change.take k).flatMap I64.enc))∧Below w1.heap.size w1 wr) (fun _ _ _ _ iv _=>2 - (intOf iv).toNat)
 case atStart=>exact ⟨0,w1.heap.size,0,Nat.zero_le _,rfl,rfl,HO,hb⟩
 case round =>
  clear HO hb
  obtain ⟨k,g9,cp,hk2,rfl,rfl,HO,hb⟩:=hrel
  have hgB:w1.heap.size≤g9:=(HO.out.lt g9 rfl).1
  obtain rfl | rfl | rfl:k=0∨k=1∨k=2:=by omega
  ·have HG:=Lh (HGA.out.kept hb)
   obtain ⟨rb1,ro1,hra,hrc⟩:=(HG.out.at_.2.1).open (show 0 < x.racks.length by have:=HF.out.racks;omega)
   rw [HRA.out] at hra
   cases hra
   have hra2:=HRA.out
   have r0:wr.cell? ⟨rb,ro+0,none⟩=some (.string (x.rack 0)):=words_cell hrc (show 0 < x.racks.length by have:=HF.out.racks;omega)
   have r1:wr.cell? ⟨rb,ro+1,none⟩=some (.string (x.rack 1)):=words_cell hrc (show 1 < x.racks.length by have:=HF.out.racks;omega)
   rw [Nat.add_zero] at r0
   obtain ⟨kb,ko,hka,t0⟩:=num_cell (HG.out.at_.2.2.2) (show 0 < x.clocks.length by have:=HF.out.clocks;omega)
   obtain ⟨kb1,ko1,hkb,t1⟩:=num_cell (HG.out.at_.2.2.2) (show 1 < x.clocks.length by have:=HF.out.clocks;omega)
   rw [hka] at hkb
   cases hkb
   rw [Nat.add_zero] at t0
   have c14:=HG.out.cell (i:=14) rfl
   have c16:=HG.out.cell (i:=16) rfl
   rw [HRA.out,HF.out.racks] at c14
   rw [hka,HF.out.clocks] at c16
   clear hrc hka
   go_upto_region 5 with fail
   have b16:=cell_regrown c16
   have bt:=cell_regrown t0
   have b0:=cell_regrown (HG.out.cell (i:=0) rfl)
   have b1:=cell_regrown (HG.out.cell (i:=1) rfl)
   have b2:=cell_regrown (HG.out.cell (i:=2) rfl)
   have b3:=cell_regrown (HG.out.cell (i:=3) rfl)
   clear c14 c16
   refine wp_region_quiet_below (by kernel_rfl) (by kernel_rfl) ?_
   repeat (go_big_quiet_step ((first | (go_at_call 123;exact Calls.regrown_of (HSM0.out _ (HG.out.at_.1.1.kept (below_regrown _ _ _)))) | (go_at_call 124;exact Calls.regrown_of (HPE0.out _)))))
   refine wpQuiet_nil ?_
   intro wx hw'
   obtain ⟨⟨dq,oq⟩,hw''⟩:=hw'
   have hd:=below_regrown wr dq oq
   rw [← hw''] at hd
   clear hw''
   replace r0:=cell_kept r0 hd
   replace r1:=cell_kept r1 hd
   replace t0:=cell_kept t0 hd
   replace t1:=cell_kept t1 hd
   replace hb:=hb.trans (hd.mono hb.size)
   replace HO:=Lh (own_below HO.out hd)
   replace HG:=Lh (HG.out.kept hd)
   clear hd
   generalize wx=wa at *
   clear b16 bt b0 b1 b2 b3
   go_upto_region 6 with fail
   by_cases hz:(x.rack 0).size=0
   ·have HCV:Hid (x.chg 0=-(s0) - q0+s1):=Lh (by rw [HE0.out hz])
    have e9:=text_nil hz
    clear hz
    go_upto_region 7 with fail
    have c14:=HG.out.cell (i:=14) rfl
    rw [hra2,HF.out.racks] at c14
    have b14:=cell_regrown c14
    have bt:=cell_regrown r1
    have b0:=cell_regrown (HG.out.cell (i:=0) rfl)
    have b1:=cell_regrown (HG.out.cell (i:=1) rfl)
    have b2:=cell_regrown (HG.out.cell (i:=2) rfl)
    have b3:=cell_regrown (HG.out.cell (i:=3) rfl)
    clear c14
    refine wp_region_quiet_below (by kernel_rfl) (by kernel_rfl) ?_
    repeat (go_big_quiet_step ((first | (go_at_call 123;exact Calls.regrown_of (HSM1.out _ (HG.out.at_.1.1.kept (below_regrown _ _ _)))))))
    refine wpQuiet_nil ?_
    intro wx hw'
    obtain ⟨⟨dq,oq⟩,hw''⟩:=hw'
    have hd:=below_regrown wa dq oq
    rw [← hw''] at hd
    clear hw''
    replace r0:=cell_kept r0 hd
    replace r1:=cell_kept r1 hd
    replace t0:=cell_kept t0 hd
    replace t1:=cell_kept t1 hd
    replace hb:=hb.trans (hd.mono hb.size)
    replace HO:=Lh (own_below HO.out hd)
    replace HG:=Lh (HG.out.kept hd)
    clear hd
    generalize wx=wb at *
    clear b14 bt b0 b1 b2 b3
    go_upto_region 8 with fail
    clear e9 hra2
    clear r0 r1 t0 t1 HG
    have hx:Below (wb).heap.size wb ((wb).alloc (.cells #[.int .i64 (-(s0) - q0+s1)] 2)):=(Below.refl _ _).alloc (Nat.le_refl _) _
    have KN:=Lh (new_i64 wb (-(s0) - q0+s1) 2)
    have hz3:=hb.size
    replace hb:=hb.trans (hx.mono hb.size)
    replace HO:=Lh (own_below HO.out hx)
    clear hx
    go_wp2_with (at_builtin;go_must (refine wpList_append_lies _ rfl (.tmp 43) (.tmp 45) 22 rfl w1.heap.size 2 i0 _ 1 8 Tryz.underlying22 hi0 hi1 hi2 hi3 rfl (by decide) _ 0 ((x.change.take 0).flatMap I64.enc) (by rfl) HO.out ⟨(wb).heap.size,0,none⟩ 1 1 (I64.enc (-(s0) - q0+s1)) (by rfl) rfl KN.out (i64_one (-(s0) - q0+s1)) (by decide) ?c1 ?c2 ?c3 _ rfl ?_))
    case c1=>unfold maxLen;omega
    case c2=>omega
    case c3=>(first | omega | (simp only [World.size_alloc];omega))
    intro g7 cap7 w7 hown hgr hwh hlt7
    have hb7:=hb.grown hgr hb.size (fun q e=>by have:=(HO.out.lt q e).1;omega)
    have HO7:Hid (w7.ownsRow w1.heap.size 2 1 (.slice (some ⟨g7,0,none⟩) (0+1) cap7) (0+1) ((x.change.take (0+1)).flatMap I64.enc)):=Lh (by rw [HT1.out,HCV.out];exact hown)
    clear hown hgr hwh KN HO hb
    go_wp2
    go_roundw
    case rel=>exact ⟨0+1,g7,cap7,by omega,by go_num,by go_num,HO7,hb7⟩
    case measure=>simp [intOf]
   ·have HCV:Hid (x.chg 0=-(s0) - q0):=Lh (by rw [HN0.out hz])
    obtain ⟨e9,f9⟩:=text_some hz
    clear hz
    go_upto_region 8 with fail
    clear e9 f9 hra2
    clear r0 r1 t0 t1 HG
    have hx:Below (wa).heap.size wa ((wa).alloc (.cells #[.int .i64 (-(s0) - q0)] 2)):=(Below.refl _ _).alloc (Nat.le_refl _) _
    have KN:=Lh (new_i64 wa (-(s0) - q0) 2)
    have hz3:=hb.size
    replace hb:=hb.trans (hx.mono hb.size)
    replace HO:=Lh (own_below HO.out hx)
    clear hx
    go_wp2_with (at_builtin;go_must (refine wpList_append_lies _ rfl (.tmp 43) (.tmp 45) 22 rfl w1.heap.size 2 i0 _ 1 8 Tryz.underlying22 hi0 hi1 hi2 hi3 rfl (by decide) _ 0 ((x.change.take 0).flatMap I64.enc) (by rfl) HO.out ⟨(wa).heap.size,0,none⟩ 1 1 (I64.enc (-(s0) - q0)) (by rfl) rfl KN.out (i64_one (-(s0) - q0)) (by decide) ?c1 ?c2 ?c3 _ rfl ?_))
    case c1=>unfold maxLen;omega
    case c2=>omega
    case c3=>(first | omega | (simp only [World.size_alloc];omega))
    intro g7 cap7 w7 hown hgr hwh hlt7
    have hb7:=hb.grown hgr hb.size (fun q e=>by have:=(HO.out.lt q e).1;omega)
    have HO7:Hid (w7.ownsRow w1.heap.size 2 1 (.slice (some ⟨g7,0,none⟩) (0+1) cap7) (0+1) ((x.change.take (0+1)).flatMap I64.enc)):=Lh (by rw [HT1.out,HCV.out];exact hown)
    clear hown hgr hwh KN HO hb
    go_wp2
    go_roundw
    case rel=>exact ⟨0+1,g7,cap7,by omega,by go_num,by go_num,HO7,hb7⟩
    case measure=>simp [intOf]
  ·have HG:=Lh (HGA.out.kept hb)
   obtain ⟨rb1,ro1,hra,hrc⟩:=(HG.out.at_.2.1).open (show 0 < x.racks.length by have:=HF.out.racks;omega)
   rw [HRA.out] at hra
   cases hra
   have hra2:=HRA.out
   have r0:wr.cell? ⟨rb,ro+0,none⟩=some (.string (x.rack 0)):=words_cell hrc (show 0 < x.racks.length by have:=HF.out.racks;omega)
   have r1:wr.cell? ⟨rb,ro+1,none⟩=some (.string (x.rack 1)):=words_cell hrc (show 1 < x.racks.length by have:=HF.out.racks;omega)
   rw [Nat.add_zero] at r0
   obtain ⟨kb,ko,hka,t0⟩:=num_cell (HG.out.at_.2.2.2) (show 0 < x.clocks.length by have:=HF.out.clocks;omega)
   obtain ⟨kb1,ko1,hkb,t1⟩:=num_cell (HG.out.at_.2.2.2) (show 1 < x.clocks.length by have:=HF.out.clocks;omega)
   rw [hka] at hkb
   cases hkb
   rw [Nat.add_zero] at t0
   have c14:=HG.out.cell (i:=14) rfl
   have c16:=HG.out.cell (i:=16) rfl
   rw [HRA.out,HF.out.racks] at c14
   rw [hka,HF.out.clocks] at c16
   clear hrc hka
   go_upto_region 5 with fail
   have b16:=cell_regrown c16
   have bt:=cell_regrown t1
   have b0:=cell_regrown (HG.out.cell (i:=0) rfl)
   have b1:=cell_regrown (HG.out.cell (i:=1) rfl)
   have b2:=cell_regrown (HG.out.cell (i:=2) rfl)
   have b3:=cell_regrown (HG.out.cell (i:=3) rfl)
   clear c14 c16
   refine wp_region_quiet_below (by kernel_rfl) (by kernel_rfl) ?_
   repeat (go_big_quiet_step ((first | (go_at_call 123;exact Calls.regrown_of (HSM1.out _ (HG.out.at_.1.1.kept (below_regrown _ _ _)))) | (go_at_call 124;exact Calls.regrown_of (HPE1.out _)))))
   refine wpQuiet_nil ?_
   intro wx hw'
   obtain ⟨⟨dq,oq⟩,hw''⟩:=hw'
   have hd:=below_regrown wr dq oq
   rw [← hw''] at hd
   clear hw''
   replace r0:=cell_kept r0 hd
   replace r1:=cell_kept r1 hd
   replace t0:=cell_kept t0 hd
   replace t1:=cell_kept t1 hd
   replace hb:=hb.trans (hd.mono hb.size)
   replace HO:=Lh (own_below HO.out hd)
   replace HG:=Lh (HG.out.kept hd)
   clear hd
   generalize wx=wa at *
   clear b16 bt b0 b1 b2 b3
   go_upto_region 6 with fail
   by_cases hz:(x.rack 1).size=0
   ·have HCV:Hid (x.chg 1=-(s1) - q1+s0):=Lh (by rw [HE1.out hz])
    have e9:=text_nil hz
    clear hz
    go_upto_region 7 with fail
    have c14:=HG.out.cell (i:=14) rfl
    rw [hra2,HF.out.racks] at c14
    have b14:=cell_regrown c14
    have bt:=cell_regrown r0
    have b0:=cell_regrown (HG.out.cell (i:=0) rfl)
    have b1:=cell_regrown (HG.out.cell (i:=1) rfl)
    have b2:=cell_regrown (HG.out.cell (i:=2) rfl)
    have b3:=cell_regrown (HG.out.cell (i:=3) rfl)
    clear c14
    refine wp_region_quiet_below (by kernel_rfl) (by kernel_rfl) ?_
    repeat (go_big_quiet_step ((first | (go_at_call 123;exact Calls.regrown_of (HSM0.out _ (HG.out.at_.1.1.kept (below_regrown _ _ _)))))))
    refine wpQuiet_nil ?_
    intro wx hw'
    obtain ⟨⟨dq,oq⟩,hw''⟩:=hw'
    have hd:=below_regrown wa dq oq
    rw [← hw''] at hd
    clear hw''
    replace r0:=cell_kept r0 hd
    replace r1:=cell_kept r1 hd
    replace t0:=cell_kept t0 hd
    replace t1:=cell_kept t1 hd
    replace hb:=hb.trans (hd.mono hb.size)
    replace HO:=Lh (own_below HO.out hd)
    replace HG:=Lh (HG.out.kept hd)
    clear hd
    generalize wx=wb at *
    clear b14 bt b0 b1 b2 b3
    go_upto_region 8 with fail
    clear e9 hra2
    clear r0 r1 t0 t1 HG
    have hx:Below (wb).heap.size wb ((wb).alloc (.cells #[.int .i64 (-(s1) - q1+s0)] 2)):=(Below.refl _ _).alloc (Nat.le_refl _) _
    have KN:=Lh (new_i64 wb (-(s1) - q1+s0) 2)
    have hz3:=hb.size
    replace hb:=hb.trans (hx.mono hb.size)
    replace HO:=Lh (own_below HO.out hx)
    clear hx
    go_wp2_with (at_builtin;go_must (refine wpList_append_lies _ rfl (.tmp 43) (.tmp 45) 22 rfl w1.heap.size 2 i0 _ 1 8 Tryz.underlying22 hi0 hi1 hi2 hi3 rfl (by decide) _ 1 ((x.change.take 1).flatMap I64.enc) (by rfl) HO.out ⟨(wb).heap.size,0,none⟩ 1 1 (I64.enc (-(s1) - q1+s0)) (by rfl) rfl KN.out (i64_one (-(s1) - q1+s0)) (by decide) ?c1 ?c2 ?c3 _ rfl ?_))
    case c1=>unfold maxLen;omega
    case c2=>omega
    case c3=>(first | omega | (simp only [World.size_alloc];omega))
    intro g7 cap7 w7 hown hgr hwh hlt7
    have hb7:=hb.grown hgr hb.size (fun q e=>by have:=(HO.out.lt q e).1;omega)
    have HO7:Hid (w7.ownsRow w1.heap.size 2 1 (.slice (some ⟨g7,0,none⟩) (1+1) cap7) (1+1) ((x.change.take (1+1)).flatMap I64.enc)):=Lh (by rw [HT2.out,HCV.out];exact hown)
    clear hown hgr hwh KN HO hb
    go_wp2
    go_roundw
    case rel=>exact ⟨1+1,g7,cap7,by omega,by go_num,by go_num,HO7,hb7⟩
    case measure=>simp [intOf]
   ·have HCV:Hid (x.chg 1=-(s1) - q1):=Lh (by rw [HN1.out hz])
    obtain ⟨e9,f9⟩:=text_some hz
    clear hz
    go_upto_region 8 with fail
    clear e9 f9 hra2
    clear r0 r1 t0 t1 HG
    have hx:Below (wa).heap.size wa ((wa).alloc (.cells #[.int .i64 (-(s1) - q1)] 2)):=(Below.refl _ _).alloc (Nat.le_refl _) _
    have KN:=Lh (new_i64 wa (-(s1) - q1) 2)
    have hz3:=hb.size
    replace hb:=hb.trans (hx.mono hb.size)
    replace HO:=Lh (own_below HO.out hx)
    clear hx
    go_wp2_with (at_builtin;go_must (refine wpList_append_lies _ rfl (.tmp 43) (.tmp 45) 22 rfl w1.heap.size 2 i0 _ 1 8 Tryz.underlying22 hi0 hi1 hi2 hi3 rfl (by decide) _ 1 ((x.change.take 1).flatMap I64.enc) (by rfl) HO.out ⟨(wa).heap.size,0,none⟩ 1 1 (I64.enc (-(s1) - q1)) (by rfl) rfl KN.out (i64_one (-(s1) - q1)) (by decide) ?c1 ?c2 ?c3 _ rfl ?_))
    case c1=>unfold maxLen;omega
    case c2=>omega
    case c3=>(first | omega | (simp only [World.size_alloc];omega))
    intro g7 cap7 w7 hown hgr hwh hlt7
    have hb7:=hb.grown hgr hb.size (fun q e=>by have:=(HO.out.lt q e).1;omega)
    have HO7:Hid (w7.ownsRow w1.heap.size 2 1 (.slice (some ⟨g7,0,none⟩) (1+1) cap7) (1+1) ((x.change.take (1+1)).flatMap I64.enc)):=Lh (by rw [HT2.out,HCV.out];exact hown)
    clear hown hgr hwh KN HO hb
    go_wp2
    go_roundw
    case rel=>exact ⟨1+1,g7,cap7,by omega,by go_num,by go_num,HO7,hb7⟩
    case measure=>simp [intOf]
  ·go_wp2
   go_ret
   exact ⟨g9,cp,rfl,own_mono HO.out HB0.out.size,HB0.out.trans (hb.mono HB0.out.size)⟩
end Go.Proofs.YtkjhapbjdjcipaaGreatDoor

namespace Go.Proofs.YtkjhapbjdjcipaaGreatDoor
open Go.ChangeShapes Go.WideShapes Go.ChangeAt Go.RowKit Go.Sort

end Go.Proofs.YtkjhapbjdjcipaaGreatDoor
