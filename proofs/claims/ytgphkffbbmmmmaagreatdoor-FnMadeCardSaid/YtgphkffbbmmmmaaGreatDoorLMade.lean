/- The law of FnMade. Go's tables hold what is laid (Env, CEnv). Printed by bin/gen_lmade.py -/
import Derived.Test.YtgphkffbbmmmmaaGreatDoorMdA
import Derived.Test.YtgphkffbbmmmmaaGreatDoorMdP
import Derived.Test.YtgphkffbbmmmmaaGreatDoorGlC
import Derived.Test.YtgphkffbbmmmmaaGreatDoorGmK
import Derived.Test.YtgphkffbbmmmmaaGreatDoorSamHz
import Derived.Test.YtgphkffbbmmmmaaGreatDoorMkN
set_option maxRecDepth 100000
set_option maxHeartbeats 2000000
namespace Go.Proofs.YtgphkffbbmmmmaaGreatDoor
open Go.ChangeShapes Go.WideShapes Go.ChangeAt Go.RowKit Go.Sort

/-- what is known of MakeGame where the numbers are good -/
def MakesG (w:World) (x:Gam) (z sd rl:Int):Prop :=
 ∀ W,Below w.heap.size w W→Calls Tryz.prog 7 #[.string ⟨#[115,109,97,108,108]⟩,.int .i64 z,.int .i64 sd,.int .i64 rl] W fun e w'=>∃ q:GaA,e=.returned (.tuple #[.agg (gcells x q).toArray,.int .i64 0])∧x.Z q W.heap.size w'∧Below W.heap.size W w'
theorem makes_start {z s r:Int} (w:World) (he:Env w) (hz:5≤z∧z≤15) (hs:0≤s∧s≤2147483647) (hr:0≤r∧r≤3):∃ x,MadeG x z∧MakesG w x z s r:=by
 obtain ⟨x,h1,h2⟩:=made_start hz hs hr
 refine ⟨x,h2,fun W hb=>?_⟩
 refine (implMakeGame_any smallN z s r W (by decide) (he.kept hb)).mono ?_
 rw [h1]
 rintro e w' ⟨q,h3,h4,_,h5⟩
 exact ⟨q,h3,h4,h5⟩
theorem lawMade_any (ca:Option Addr) (ccap:Nat) (bs:List Int) (w:World) (hs:SliceAt w 1 B8.enc ca bs) (hbd:∀ x∈bs,0≤x∧x≤255) (he:Env w) (hc:CEnv w) :
  Calls Tryz.prog 5 #[.slice ca bs.length ccap] w fun e w'=>e=.returned (.bool true)∧Below w.heap.size w w':=by
 have HLG:=Lh (fun W=>a2Long_any bs.length ccap ca W)
 have hb:Below w.heap.size w w:=Below.refl _ _
 by_cases hbig:3000 < bs.length
 ·have hd:decide (3000 < bs.length)=true:=decide_eq_true hbig
  rw [hd] at HLG
  clear hs hbd he hc hd hbig
  generalize bs.length=n at *
  go_enter Tryz.func5,Tryz.ntmps5
  go_wp2_with fail
  refine (HLG.out _).mono ?_
  rintro e w' ⟨rfl,rfl⟩
  clear HLG
  go_wp2
  go_ret
  exact ⟨rfl,hb⟩
 have hd:decide (3000 < bs.length)=false:=decide_eq_false hbig
 rw [hd] at HLG
 have HA0:Hid (Calls Tryz.prog 17 #[.slice ca bs.length ccap,.int .i64 0,.int .i64 256] w fun e w'=>∃ r:Nat,e=.returned (.int .i64 (r:Int))∧r≤255∧w=w'):=Lh (a2At_any ca ccap bs 0 255 w hs hbd (by omega))
 have HA1:Hid (Calls Tryz.prog 17 #[.slice ca bs.length ccap,.int .i64 1,.int .i64 11] w fun e w'=>∃ r:Nat,e=.returned (.int .i64 (r:Int))∧r≤10∧w=w'):=Lh (a2At_any ca ccap bs 1 10 w hs hbd (by omega))
 have HA2:Hid (Calls Tryz.prog 17 #[.slice ca bs.length ccap,.int .i64 2,.int .i64 4] w fun e w'=>∃ r:Nat,e=.returned (.int .i64 (r:Int))∧r≤3∧w=w'):=Lh (a2At_any ca ccap bs 2 3 w hs hbd (by omega))
 have HE:=Lh he
 have HC:=Lh hc
 have HM:Hid (∀ z s r:Int,5≤z∧z≤15→0≤s∧s≤2147483647→0≤r∧r≤3→∃ x,MadeG x z∧MakesG w x z s r):=Lh (fun z s r h1 h2 h3=>makes_start w he h1 h2 h3)
 clear hs hbd he hc hd hbig
 generalize bs.length=n at *
 go_enter Tryz.func5,Tryz.ntmps5
 go_wp2_with fail
 refine (HLG.out _).mono ?_
 rintro e w' ⟨rfl,rfl⟩
 clear HLG
 go_wp2_with fail
 refine HA0.out.mono ?_
 rintro e w' ⟨r0,rfl,hr0,rfl⟩
 clear HA0
 have hw0:IntKind.i64.wrap (977 * (r0:Int))=977 * (r0:Int):=IntWalk.i64_in _ (by omega)
 go_wp2_with fail
 refine HA1.out.mono ?_
 rintro e w' ⟨r1,rfl,hr1,rfl⟩
 clear HA1 hw0
 have hw1:IntKind.i64.wrap (5+(r1:Int))=5+(r1:Int):=IntWalk.i64_in _ (by omega)
 go_wp2_with fail
 refine HA2.out.mono ?_
 rintro e w' ⟨r2,rfl,hr2,rfl⟩
 clear HA2 hw1
 obtain ⟨x,hmx,hmk⟩:=HM.out (5+(r1:Int)) (977 * (r0:Int)) (r2:Int) (by omega) (by omega) (by omega)
 have HMK:=Lh hmk
 have HMX:=Lh hmx
 unfold MakesG at HMK
 have hz:5≤5+(r1:Int)∧5+(r1:Int)≤15:=by omega
 clear hmx hmk HM hr0 hr2
 go_upto_region 6 with fail
 generalize (977 * (r0:Int))=sd at *
 generalize (r2:Int)=rl at *
 obtain ⟨z,hz2⟩:∃ z:Int,z=5+(r1:Int):=⟨_,rfl⟩
 rw [← hz2] at hz HMK HMX ⊢
 clear hz2 hr1
 have HSR:Hid (∀ q,(Tryz.prog.info? 37).map (·.size)=some (gcells x q).length):=Lh (size_game x)
 have HRL:Hid (∀ q,(gcells x q).length=30):=Lh (fun _=>rfl)
 have HR1:Hid (∀ q,∀ v∈gcells x q,v.oneCell'=true):=Lh (gcells_all1 x)
 have HVG:Hid (∀ q W,x.At q W→Calls Tryz.prog 19 #[.agg (gcells x q).toArray] W fun e w'=>e=.returned (.bool true)∧Below W.heap.size W w'):=Lh (fun q W h=>by
  have:=specValidGame_any x q W h HMX.out.fit
  rw [HMX.out.ok] at this
  exact this)
 have HSG:Hid (∀ q r W,x.At q W→x.At r W→Calls Tryz.prog 20 #[.agg (gcells x q).toArray,.agg (gcells x r).toArray] W fun e w'=>e=.returned (.bool true)∧Below W.heap.size W w'):=Lh (fun q r W h h2=>by
  have:=specSameGame_any x x q r W h h2 HMX.out.fit HMX.out.fit
  rw [same_self] at this
  exact this)
 have HSC:Hid (∀ q W,Below w.heap.size w W→x.At q W→Calls Tryz.prog 21 #[.agg (gcells x q).toArray] W fun e w'=>e=.returned (.string ⟨#[48,32,48,32,48,32,49,32,48]⟩)∧Below W.heap.size W w'):=Lh (fun q W hb h=>by
  have:=implScoreLine_any x q W h HMX.out.fit HMX.out.letters HMX.out.word (HC.out.kept hb) (HE.out.kept hb).2.1 (HE.out.kept hb).1
  unfold StrPost at this
  rw [HMX.out.score] at this
  exact this)
 have HGL:Hid (∀ q W,Below w.heap.size w W→x.At q W→Calls Tryz.prog 18 #[.agg (gcells x q).toArray] W fun e w'=>∃ (B O N C:Nat),e=.returned (.tuple #[.slice (some ⟨B,O,none⟩) N C,.int .i64 0])∧(N:Int)=z+3∧w'.cell? ⟨B,O+(z+2).toNat,none⟩=some (.string ⟨#[48,32,48,32,48,32,49,32,48]⟩)∧Below W.heap.size W w'):=Lh (fun q W hb h=>by
  refine (implGameLines_any x q W h HMX.out.fit HMX.out.small HMX.out.letters HMX.out.word (HC.out.kept hb) (HE.out.kept hb).2.1 (HE.out.kept hb).1).mono ?_
  rintro e w' ⟨q2,h1,h2,_,h3⟩
  have hlen:=HMX.out.len
  have hlast:=HMX.out.last
  have hk:z.toNat+2 < x.lines.1.length:=by omega
  obtain ⟨B,O,ha,hcl⟩:=h2.at.open hk
  refine ⟨B,O,x.lines.1.length,q2.c,by rw [h1,HMX.out.code,ha],hlen,?_,h3⟩
  have:=words_cell hcl hk
  rw [List.getD_eq_getElem?_getD,hlast] at this
  rw [show (z+2).toNat=z.toNat+2 by omega]
  exact this)
 obtain ⟨rc,hrc⟩:∃ f,f=gcells x:=⟨_,rfl⟩
 rw [← hrc] at HMK HSR HRL HR1 HVG HSG HSC HGL
 clear hrc HMX HE HC
 go_wp2_with fail
 refine (HMK.out _ hb).mono ?_
 rintro e w2 ⟨q1,rfl,hz0,hd⟩
 have A1:=Lh hz0.at
 replace hb:=hb.trans (hd.mono hb.size)
 clear hd hz0
 have V6:=VarAt.new w2 37 gnone
 obtain ⟨o6,k6⟩:=V6.put (rc q1) (by rw [HRL.out];rfl)
 have tR:=V6.there (n:=(rc q1).length) (by rw [HRL.out];rfl)
 have hd:Below w2.heap.size w2 ((w2.alloc (.cells gnone.toArray 37)).setCells w2.heap.size 0 (rc q1)):=((Below.refl _ _).alloc (Nat.le_refl _) _).grown k6 (by simp) (fun q h=>by cases h;exact Nat.le_refl _)
 have V1:=Lh o6
 clear V6 o6 k6
 go_upto_region 7 with (refine wpList_store_mid rfl 37 _ _ rfl w2.heap.size 0 (rc q1).toArray rfl rfl tR (HSR.out q1) (all_oneCell_toArray (HR1.out q1)) ?_)
 clear tR
 change Code.wp _ _ _ _ ((w2.alloc (.cells gnone.toArray 37)).setCells w2.heap.size 0 (rc q1))
 replace A1:=Lh (Gam.At.kept A1.out hd)
 replace hb:=hb.trans (hd.mono hb.size)
 clear hd
 generalize (w2.alloc (.cells gnone.toArray 37)).setCells w2.heap.size 0 (rc q1)=wb at *
 generalize w2.heap.size=x1 at *
 go_wp2_with fail
 refine (HMK.out _ hb).mono ?_
 rintro e w2 ⟨q2,rfl,hz0,hd⟩
 have A2:=Lh hz0.at
 replace hb:=hb.trans (hd.mono hb.size)
 replace V1:=Lh (V1.out.kept hd)
 replace A1:=Lh (Gam.At.kept A1.out hd)
 clear hd hz0
 have V6:=VarAt.new w2 37 gnone
 obtain ⟨o6,k6⟩:=V6.put (rc q2) (by rw [HRL.out];rfl)
 have tR:=V6.there (n:=(rc q2).length) (by rw [HRL.out];rfl)
 have hd:Below w2.heap.size w2 ((w2.alloc (.cells gnone.toArray 37)).setCells w2.heap.size 0 (rc q2)):=((Below.refl _ _).alloc (Nat.le_refl _) _).grown k6 (by simp) (fun q h=>by cases h;exact Nat.le_refl _)
 have V2:=Lh o6
 clear V6 o6 k6
 go_upto_region 8 with (refine wpList_store_mid rfl 37 _ _ rfl w2.heap.size 0 (rc q2).toArray rfl rfl tR (HSR.out q2) (all_oneCell_toArray (HR1.out q2)) ?_)
 clear tR
 change Code.wp _ _ _ _ ((w2.alloc (.cells gnone.toArray 37)).setCells w2.heap.size 0 (rc q2))
 replace A2:=Lh (Gam.At.kept A2.out hd)
 replace hb:=hb.trans (hd.mono hb.size)
 replace V1:=Lh (V1.out.kept hd)
 replace A1:=Lh (Gam.At.kept A1.out hd)
 clear hd
 generalize (w2.alloc (.cells gnone.toArray 37)).setCells w2.heap.size 0 (rc q2)=wc at *
 generalize w2.heap.size=x2 at *
 clear HMK
 refine wp_region_list ?_
 refine wpList_load_mid rfl 37 _ rfl x1 0 rfl (rc q1) _ V1.out.range Tryz.underlying37 rfl (HSR.out q1) ?_
 go_wp2_with fail
 refine (HGL.out _ _ hb A1.out).mono ?_
 rintro e w4 ⟨B,O,N,C,rfl,hN,hcl,hd⟩
 have CL:=Lh hcl
 replace hb:=hb.trans (hd.mono hb.size)
 replace V1:=Lh (V1.out.kept hd)
 replace V2:=Lh (V2.out.kept hd)
 replace A1:=Lh (Gam.At.kept A1.out hd)
 replace A2:=Lh (Gam.At.kept A2.out hd)
 clear hd hcl HGL
 have hw2:IntKind.i64.wrap (z+2)=z+2:=IntWalk.i64_in _ (by omega)
 have hw3:IntKind.i64.wrap (z+3)=z+3:=IntWalk.i64_in _ (by omega)
 have hn0:¬ (z+2 < 0):=by omega
 have hn1:z+2 < (N:Int):=by omega
 have hn2:((N:Int) == z+3)=true:=by rw [beq_iff_eq];exact hN
 have hn3:(z+2).toNat < N:=by omega
 have hn4:0≤z+2:=by omega
 go_upto_region 9 with fail
 have hdw:=(Below.refl w4.heap.size w4).drew
 replace hb:=hb.trans (hdw.mono hb.size)
 replace V1:=Lh (V1.out.kept hdw)
 replace V2:=Lh (V2.out.kept hdw)
 replace A1:=Lh (Gam.At.kept A1.out hdw)
 replace A2:=Lh (Gam.At.kept A2.out hdw)
 replace CL:=Lh (cell_kept CL.out hdw)
 clear hdw
 generalize hkk:(z+2).toNat=kk at *
 refine wp_region_held_drew (S:=fun W=>W.rangeAt x1 0 (rc q1)∧W.rangeAt x2 0 (rc q2)∧W.cell? ⟨B,O+kk,none⟩=some (.string ⟨#[48,32,48,32,48,32,49,32,48]⟩)) (by kernel_rfl) ⟨V1.out.range,V2.out.range,CL.out⟩ (fun hHeld=>?_)
 generalize w4.drew=W4 at *
 refine slotA 0 41 (.int .i64 0) ?_
 simp only [S3]
 refine slotA 1 42 (.bool true) ?_
 simp only [S3]
 refine slotA 2 43 (.bool true) ?_
 simp only [S3]
 refine slotA 3 44 (.int .i64 0) ?_
 simp only [S3]
 refine slotA 4 45 (.bool true) ?_
 simp only [S3]
 refine slotA 5 46 (.bool true) ?_
 simp only [S3]
 refine slotA 6 47 (.bool true) ?_
 simp only [S3]
 refine slotA 7 48 (.agg (rc q1).toArray) ?_ (hy:=yieldsIf_load_mid (by rfl) 37 _ rfl x1 0 rfl (rc q1) _ (fun w' hS=>hS.1) Tryz.underlying37 rfl (HSR.out q1))
 simp only [S3]
 refine wpAnyH_ready (rs:=[8]) (by kernel_rfl) (by simp) ?_
 refine AllReadyH.cons (o:=_) rfl (fun K hK=>?_) AllReadyH.nil
 go_simp
 refine (HVG.out _ _ A1.out).mono ?_
 rintro e w9 ⟨rfl,hd⟩
 replace hb:=hb.trans (hd.mono hb.size)
 replace V1:=Lh (V1.out.kept hd)
 replace V2:=Lh (V2.out.kept hd)
 replace A1:=Lh (Gam.At.kept A1.out hd)
 replace A2:=Lh (Gam.At.kept A2.out hd)
 replace CL:=Lh (cell_kept CL.out hd)
 clear hd hHeld
 go_wp2_with fail
 refine hK.out _ _ ⟨V1.out.range,V2.out.range,CL.out⟩ (fun hHeld=>?_)
 clear hK K
 generalize w9=W5 at *
 refine slotA 9 50 (.bool true) ?_
 simp only [S3]
 refine slotA 10 51 (.bool true) ?_
 simp only [S3]
 refine slotA 11 52 (.agg (rc q1).toArray) ?_ (hy:=yieldsIf_load_mid (by rfl) 37 _ rfl x1 0 rfl (rc q1) _ (fun w' hS=>hS.1) Tryz.underlying37 rfl (HSR.out q1))
 simp only [S3]
 refine slotA 12 53 (.agg (rc q2).toArray) ?_ (hy:=yieldsIf_load_mid (by rfl) 37 _ rfl x2 0 rfl (rc q2) _ (fun w' hS=>hS.2.1) Tryz.underlying37 rfl (HSR.out q2))
 simp only [S3]
 refine wpAnyH_ready (rs:=[13]) (by kernel_rfl) (by simp) ?_
 refine AllReadyH.cons (o:=_) rfl (fun K hK=>?_) AllReadyH.nil
 go_simp
 refine (HSG.out _ _ _ A1.out A2.out).mono ?_
 rintro e w9 ⟨rfl,hd⟩
 replace hb:=hb.trans (hd.mono hb.size)
 replace V1:=Lh (V1.out.kept hd)
 replace V2:=Lh (V2.out.kept hd)
 replace A1:=Lh (Gam.At.kept A1.out hd)
 replace A2:=Lh (Gam.At.kept A2.out hd)
 replace CL:=Lh (cell_kept CL.out hd)
 clear hd hHeld
 go_wp2_with fail
 refine hK.out _ _ ⟨V1.out.range,V2.out.range,CL.out⟩ (fun hHeld=>?_)
 clear hK K
 generalize w9=W6 at *
 refine slotA 14 55 (.bool true) ?_
 simp only [S3]
 refine slotA 15 56 (.bool true) ?_
 simp only [S3]
 refine slotA 16 57 (.int .i64 0) ?_
 simp only [S3]
 refine slotA 17 58 (.bool true) ?_
 simp only [S3]
 refine slotA 18 59 (.bool true) ?_
 simp only [S3]
 refine slotA 19 60 (.bool true) ?_
 simp only [S3]
 refine slotA 20 61 (.slice (some ⟨B,O,none⟩) N C) ?_
 simp only [S3]
 refine slotA 21 62 (.int .i64 (N:Int)) ?_
 simp only [S3]
 refine slotA 22 63 (.int .i64 z) ?_
 simp only [S3]
 refine slotA 23 64 (.int .i64 (z+3)) ?_
 simp only [S3]
 refine slotA 24 65 (.bool true) ?_
 simp only [S3]
 refine slotA 25 66 (.bool true) ?_
 simp only [S3]
 refine slotA 26 67 (.bool true) ?_
 simp only [S3]
 refine slotA 27 68 (.slice (some ⟨B,O,none⟩) N C) ?_
 simp only [S3]
 refine slotA 28 69 (.int .i64 z) ?_
 simp only [S3]
 refine slotA 29 70 (.int .i64 (z+2)) ?_
 simp only [S3]
 refine slotA 30 71 (.pointer (some ⟨B,O+kk,none⟩)) ?_
 simp only [S3]
 refine slotA 31 72 (.string ⟨#[48,32,48,32,48,32,49,32,48]⟩) ?_ (hy:=Or.inl ⟨by rfl,fun w' hS=>by have c9:=hS.2.2;go_simp⟩)
 simp only [S3]
 refine slotA 32 73 (.bool true) ?_
 simp only [S3]
 refine slotA 33 74 (.bool true) ?_
 simp only [S3]
 refine slotA 34 75 (.bool true) ?_
 simp only [S3]
 refine slotA 35 76 (.agg (rc q1).toArray) ?_ (hy:=yieldsIf_load_mid (by rfl) 37 _ rfl x1 0 rfl (rc q1) _ (fun w' hS=>hS.1) Tryz.underlying37 rfl (HSR.out q1))
 simp only [S3]
 refine slotA 37 78 (.slice (some ⟨B,O,none⟩) N C) ?_
 simp only [S3]
 refine slotA 38 79 (.int .i64 z) ?_
 simp only [S3]
 refine slotA 39 80 (.int .i64 (z+2)) ?_
 simp only [S3]
 refine slotA 40 81 (.pointer (some ⟨B,O+kk,none⟩)) ?_
 simp only [S3]
 refine slotA 41 82 (.string ⟨#[48,32,48,32,48,32,49,32,48]⟩) ?_ (hy:=Or.inl ⟨by rfl,fun w' hS=>by have c9:=hS.2.2;go_simp⟩)
 simp only [S3]
 refine wpAnyH_ready (rs:=[36]) (by kernel_rfl) (by simp) ?_
 refine AllReadyH.cons (o:=_) rfl (fun K hK=>?_) AllReadyH.nil
 go_simp
 refine (HSC.out _ _ hb A1.out).mono ?_
 rintro e w9 ⟨rfl,hd⟩
 replace hb:=hb.trans (hd.mono hb.size)
 replace V1:=Lh (V1.out.kept hd)
 replace V2:=Lh (V2.out.kept hd)
 replace A1:=Lh (Gam.At.kept A1.out hd)
 replace A2:=Lh (Gam.At.kept A2.out hd)
 replace CL:=Lh (cell_kept CL.out hd)
 clear hd hHeld
 go_wp2_with fail
 refine hK.out _ _ ⟨V1.out.range,V2.out.range,CL.out⟩ (fun hHeld=>?_)
 clear hK K
 generalize w9=W7 at *
 refine slotA 42 83 (.bool true) ?_
 simp only [S3]
 refine slotA 43 84 (.bool true) ?_
 simp only [S3]
 refine slotA 44 2 (.bool true) ?_
 simp only [S3]
 refine wpAnyH_done (by kernel_rfl) ?_ _
 clear hHeld
 go_wp2
 go_ret
 exact ⟨rfl,hb⟩
end Go.Proofs.YtgphkffbbmmmmaaGreatDoor
