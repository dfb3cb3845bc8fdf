/- The statement FnExactDeskText: the line of scores of a desk. Go's tables hold what is laid (CEnv, Tab), internal/bytealg's MaxLen a number (EnvL). -/
import Derived.Test.YtalnbgcdhcnjfaaGreatDoorDkC
set_option maxRecDepth 100000
set_option maxHeartbeats 16000000
namespace Go.Proofs.YtalnbgcdhcnjfaaGreatDoor
open Go.ChangeShapes Go.WideShapes Go.ChangeAt Go.RowKit Go.Sort

theorem lawDeskText_any (x:Gam) (p:GaA) (w:World) (ha:x.At p w) (hf:x.fit) (hE:CEnv w) (hEL:EnvL w) (ht:Tab w) :
  Calls Tryz.prog 4 #[.agg (gcells x p).toArray] w fun e w'=>e=.returned (.bool true)∧Below w.heap.size w w':=by
 have hb:Below w.heap.size w (w.alloc (.cells (gcells x p).toArray 39)):=(Below.refl _ _).alloc (Nat.le_refl _) _
 have VL:=Lh (VarAt.new w 39 (gcells x p))
 have HA:Hid (x.At p (w.alloc (.cells (gcells x p).toArray 39))):=Lh (Gam.At.kept ha hb)
 have HE0:=Lh hE
 have HEL0:=Lh hEL
 have HTB0:=Lh ht
 have HSL:Hid (∀ q,(Tryz.prog.info? 39).map (·.size)=some (gcells x q).length):=Lh (size_ldesk x)
 have HSZ:Hid (∀ q,(Tryz.prog.info? 53).map (·.size)=some (gcells x q).length):=Lh (size_desk x)
 have HGL:Hid (∀ q,(gcells x q).length=30):=Lh (fun _=>rfl)
 have HG1:Hid (∀ q,∀ v∈gcells x q,v.oneCell'=true):=Lh (gcells_one x)
 have HSG:Hid (∀ W,x.At p W→Calls Tryz.prog 5 #[.agg (gcells x p).toArray,.int .i64 1048576] W (SzPost W 1048576 x.sz)):=Lh (fun W h=>szDesk_any x p 1048576 W h (by omega) (by omega) hf)
 have HTO:Hid (x.small→∀ W,x.At p W→Calls Tryz.prog 7 #[.agg (gcells x p).toArray] W fun e w'=>∃ q:GaA,e=.returned (.agg (gcells x q).toArray)∧x.Own q W.heap.size w'∧Below W.heap.size W w'):=Lh (fun hs W h=>toDesk_any x p W h hs)
 have HEQ:Hid (∀ q r W,x.At q W→x.At r W→Calls Tryz.prog 9 #[.agg (gcells x q).toArray,.agg (gcells x r).toArray] W fun e w'=>e=.returned (.bool true)∧Below W.heap.size W w'):=Lh (fun q r W h h2=>eqDesk_any x q r W h h2 hf)
 have HSP:Hid (∀ q W,x.At q W→Calls Tryz.prog 10 #[.agg (gcells x q).toArray] W fun e w'=>e=.returned (.string (mkB x.scoreL))∧Below W.heap.size W w'):=Lh (fun q W h=>specDeskText_any x q W h hf)
 have HIM:Hid (x.setup.tiles.letters.size≤1048576→x.last.play.word.size≤1048576→∀ q W,x.At q W→CEnv W→EnvL W→Tab W→Calls Tryz.prog 11 #[.agg (gcells x q).toArray] W fun e w'=>e=.returned (.string (mkB x.scoreL))∧Below W.heap.size W w'):=Lh (fun h1 h2 q W h h3 h4 h5=>implDeskText_any x q W h hf h1 h2 h3 h4 h5)
 clear ha hE hEL hf ht
 generalize mkB x.scoreL=r1 at *
 generalize gcells x=gc at *
 go_enter Tryz.func4,Tryz.ntmps4
 go_upto_region 2 with fail
 generalize w.alloc (.cells (gc p).toArray 39)=w1 at *
 refine wp_region_list ?_
 refine wpList_load_mid rfl 39 _ rfl w.heap.size 0 rfl (gc p) _ VL.out.range Tryz.underlying39 rfl (HSL.out p) ?_
 go_wp2_with fail
 refine (HSG.out _ HA.out).mono ?_
 rintro e w2 ⟨l1,rfl,z1,hd⟩
 replace HA:=Lh (Gam.At.kept HA.out hd)
 replace hb:=hb.trans (hd.mono hb.size)
 replace VL:=Lh (VL.out.kept hd)
 clear hd
 rcases z1 with rfl | ⟨y1,z1⟩
 ·go_wp2
  go_ret
  exact ⟨rfl,hb⟩
 have n1:¬ l1 < 0:=by omega
 have hsm:x.small:=by
  unfold Gam.sz Stp.sz Tls.sz at z1
  refine ⟨⟨⟨?_,?_⟩,?_⟩,?_,?_,?_⟩<;>omega
 have hlz:x.setup.tiles.letters.size≤1048576:=by
  unfold Gam.sz Stp.sz Tls.sz at z1
  omega
 have hwz:x.last.play.word.size≤1048576:=by
  unfold Gam.sz Lst.sz Ply.sz at z1
  omega
 replace HTO:=Lh (HTO.out hsm)
 replace HIM:=Lh (HIM.out hlz hwz)
 clear z1 y1 hsm hlz hwz HSG
 go_upto_region 5 with fail
 refine wp_region_list ?_
 refine wpList_load_mid rfl 39 _ rfl w.heap.size 0 rfl (gc p) _ VL.out.range Tryz.underlying39 rfl (HSL.out p) ?_
 go_wp2_with fail
 refine (HTO.out _ HA.out).mono ?_
 rintro e w3 ⟨q1,rfl,ho,hd⟩
 have S9:=Lh (Gam.Own.at ho)
 clear ho
 replace HA:=Lh (Gam.At.kept HA.out hd)
 replace hb:=hb.trans (hd.mono hb.size)
 replace VL:=Lh (VL.out.kept hd)
 clear hd
 go_wp2_with fail
 refine (HSP.out _ _ S9.out).mono ?_
 rintro e w4 ⟨rfl,hd⟩
 replace HA:=Lh (Gam.At.kept HA.out hd)
 replace hb:=hb.trans (hd.mono hb.size)
 replace VL:=Lh (VL.out.kept hd)
 clear hd
 clear S9 HSP
 go_upto_region 6 with fail
 refine wp_region_list ?_
 refine wpList_load_mid rfl 39 _ rfl w.heap.size 0 rfl (gc p) _ VL.out.range Tryz.underlying39 rfl (HSL.out p) ?_
 go_wp2_with fail
 refine (HTO.out _ HA.out).mono ?_
 rintro e w5 ⟨q2,rfl,ho,hd⟩
 have S9:=Lh (Gam.Own.at ho)
 clear ho
 replace HA:=Lh (Gam.At.kept HA.out hd)
 replace hb:=hb.trans (hd.mono hb.size)
 replace VL:=Lh (VL.out.kept hd)
 clear hd
 have V6:=VarAt.new w5 53 gzero
 obtain ⟨o6,k6⟩:=V6.put (gc q2) (by rw [HGL.out];rfl)
 have tR:=V6.there (n:=(gc q2).length) (by rw [HGL.out];rfl)
 have hd:Below w5.heap.size w5 ((w5.alloc (.cells gzero.toArray 53)).setCells w5.heap.size 0 (gc q2)):=((Below.refl _ _).alloc (Nat.le_refl _) _).grown k6 (by simp) (fun q h=>by cases h;exact Nat.le_refl _)
 have VX:=Lh o6
 clear V6 o6 k6
 go_upto_region 7 with (refine wpList_store_mid rfl 53 _ _ rfl w5.heap.size 0 (gc q2).toArray rfl rfl tR (HSZ.out q2) (all_oneCell_toArray (HG1.out q2)) ?_)
 clear tR
 change Code.wp _ _ _ _ ((w5.alloc (.cells gzero.toArray 53)).setCells w5.heap.size 0 (gc q2))
 generalize (w5.alloc (.cells gzero.toArray 53)).setCells w5.heap.size 0 (gc q2)=w6 at *
 replace S9:=Lh (Gam.At.kept S9.out hd)
 replace HA:=Lh (Gam.At.kept HA.out hd)
 replace hb:=hb.trans (hd.mono hb.size)
 replace VL:=Lh (VL.out.kept hd)
 clear hd
 generalize w5.heap.size=x1 at *
 refine wp_region_list ?_
 refine wpList_load_mid rfl 53 _ rfl x1 0 rfl (gc q2) _ VX.out.range Tryz.underlying53 rfl (HSZ.out q2) ?_
 go_wp2_with fail
 refine (HIM.out _ _ S9.out (HE0.out.kept hb) (HEL0.out.kept hb) (HTB0.out.kept hb)).mono ?_
 rintro e w7 ⟨rfl,hd⟩
 replace S9:=Lh (Gam.At.kept S9.out hd)
 replace HA:=Lh (Gam.At.kept HA.out hd)
 replace hb:=hb.trans (hd.mono hb.size)
 replace VL:=Lh (VL.out.kept hd)
 replace VX:=Lh (VX.out.kept hd)
 clear hd
 clear HIM HE0 HEL0 HTB0
 have k1:(r1.toList == r1.toList)=true:=by simp
 go_upto_region 10 with fail
 have hd:Below w7.heap.size w7 w7.drew:=(Below.refl _ _).drew
 replace S9:=Lh (Gam.At.kept S9.out hd)
 replace HA:=Lh (Gam.At.kept HA.out hd)
 replace hb:=hb.trans (hd.mono hb.size)
 replace VL:=Lh (VL.out.kept hd)
 replace VX:=Lh (VX.out.kept hd)
 clear hd
 refine wp_region_held_drew (S:=fun w'=>w'.rangeAt x1 0 (gc q2)∧w'.rangeAt w.heap.size 0 (gc p)) (by kernel_rfl) ⟨VX.out.range,VL.out.range⟩ (fun hHeld=>?_)
 refine wpAnyH_take (i:=0) (oi:=_) (v:=_) rfl (by kernel_rfl) (by kernel_rfl) (by kernel_rfl) (fun _ _ _ h=>h) (yieldsIf_load_mid (by rfl) 53 _ rfl x1 0 rfl (gc q2) _ (fun _ h=>h.1) Tryz.underlying53 rfl (HSZ.out q2)) (by assumption) ?_
 simp only [Act.put,List.setIfInBounds_toArray]
 refine wpAnyH_take (i:=1) (oi:=_) (v:=_) rfl (by kernel_rfl) (by kernel_rfl) (by kernel_rfl) (fun _ _ _ h=>h) (yieldsIf_load_mid (by rfl) 39 _ rfl w.heap.size 0 rfl (gc p) _ (fun _ h=>h.2) Tryz.underlying39 rfl (HSL.out p)) (by assumption) ?_
 simp only [Act.put]
 refine wpAnyH_ready (rs:=[2]) (by kernel_rfl) (by simp) ?_
 refine AllReadyH.cons (o:=_) rfl (fun K hK=>?_) AllReadyH.nil
 go_simp
 refine (HTO.out _ HA.out).mono ?_
 rintro e w8 ⟨q3,rfl,hoq,hd⟩
 have S3:=Lh (Gam.Own.at hoq)
 clear hoq
 replace S9:=Lh (Gam.At.kept S9.out hd)
 replace hb:=hb.trans (hd.mono hb.size)
 replace VL:=Lh (VL.out.kept hd)
 replace VX:=Lh (VX.out.kept hd)
 clear hd
 clear HA HTO
 go_wp2_with fail
 refine hK.out _ _ ⟨VX.out.range,VL.out.range⟩ (fun hHeld2=>?_)
 clear hK K hHeld
 refine wpAnyH_ready (rs:=[3]) (by kernel_rfl) (by simp) ?_
 refine AllReadyH.cons (o:=_) rfl (fun K hK=>?_) AllReadyH.nil
 go_simp
 refine (HEQ.out _ _ _ S9.out S3.out).mono ?_
 rintro e wq ⟨rfl,hd⟩
 replace hb:=hb.trans (hd.mono hb.size)
 replace VL:=Lh (VL.out.kept hd)
 replace VX:=Lh (VX.out.kept hd)
 clear hd
 clear HEQ S9 S3
 go_wp2_with fail
 refine hK.out _ _ ⟨VX.out.range,VL.out.range⟩ (fun hHeld=>?_)
 clear hK K hHeld2
 refine wpAnyH_ready (rs:=[4]) (by kernel_rfl) (by simp) ?_
 refine AllReadyH.cons (o:=_) rfl (fun K hK=>?_) AllReadyH.nil
 go_simp
 refine hK.out _ _ ⟨VX.out.range,VL.out.range⟩ (fun hHeld2=>?_)
 clear hK K hHeld
 refine wpAnyH_done (by kernel_rfl) ?_ _
 clear hHeld2
 generalize wq=w9 at *
 clear VL VX
 go_wp2
 go_ret
 exact ⟨rfl,hb⟩
end Go.Proofs.YtalnbgcdhcnjfaaGreatDoor
