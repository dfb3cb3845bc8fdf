/- The statement FnExactMakeGame: games made by name. Leans on Go's tables and on strconv's t · Contracts: the statements' own functions of a desk (a game in one field), as the program a · Contracts: NewDesk, of the reference and of the program (Env: the tables). Printed by bin/ · The statement FnExactNewDesk: a new desk. Leans on Go's tables and on strconv's two errors -/
import Derived.Test.YtgphkffbbmmmmaaGreatDoorMkN
import Derived.Test.YtgphkffbbmmmmaaGreatDoorGmW
import Derived.Test.YtgphkffbbmmmmaaGreatDoorGpI
set_option maxRecDepth 100000
set_option maxHeartbeats 16000000
namespace Go.Proofs.YtgphkffbbmmmmaaGreatDoor
open Go.ChangeShapes Go.WideShapes Go.ChangeAt Go.RowKit Go.Sort

theorem noGam_fine:noGam.fit∧noGam.small:=by
 refine ⟨⟨⟨⟨by decide,by decide,by decide⟩,⟨by decide,fun m h=>by cases h⟩,⟨by decide,by decide⟩⟩,⟨by decide,by decide⟩,by decide,⟨by decide,fun m h=>by cases h⟩,by decide,by decide,⟨by show (⟨#[]⟩:ByteArray).size≤_;decide,by decide,by decide⟩⟩,⟨⟨⟨by decide,by decide⟩,by decide⟩,by decide,by decide,by decide⟩⟩
theorem startG_fine {s:Stp} {bag:List UInt8} (hf:s.fit) (hs:s.small) (hb:BagFor s.tiles bag):(startG s bag).fit∧(startG s bag).small:=by
 have hh:=hb.high
 have h0:(srtL (bag.take 7)).length≤120:=by rw [srt_len (all_tk hb.tiles 7),List.length_take];omega
 have h1:(srtL ((bag.take 14).drop 7)).length≤120:=by rw [srt_len (all_dp (all_tk hb.tiles 14) 7),List.length_drop,List.length_take];omega
 refine ⟨⟨hf,hf.2.2,?_,⟨by show 2≤9223372036854775807;omega,?_⟩,by show 2≤9223372036854775807;omega,by show 2≤9223372036854775807;omega,⟨by show (⟨#[]⟩:ByteArray).size≤_;decide,by show (⟨#[]⟩:ByteArray).size≤_;decide,by show (⟨#[]⟩:ByteArray).size≤_;decide⟩⟩,⟨hs,by show 2≤1048576;omega,by show 2≤1048576;omega,by show 2≤1048576;omega⟩⟩
 ·show (mkB (bag.drop 14)).size≤_
  rw [mkB_size,List.length_drop]
  omega
 ·intro m hm
  have hm2:m∈[mkB (srtL (bag.take 7)),mkB (srtL ((bag.take 14).drop 7))]:=hm
  simp only [List.mem_cons,List.not_mem_nil,or_false] at hm2
  rcases hm2 with rfl | rfl
  ·rw [mkB_size];omega
  ·rw [mkB_size];omega
theorem make_fine (n:ByteArray) (z s r:Int):(makeG n z s r).1.fit∧(makeG n z s r).1.small:=by
 cases h:tileName n with
 | none=>rw [make_none h];exact noGam_fine
 | some t =>
  have ht:=tileName_std h
  cases h2:(withinB z 5 15 && (withinB r 0 3 && withinB s 0 2147483647)) with
  | false=>rw [make_bad h h2];exact noGam_fine
  | true =>
   rw [make_good h h2]
   rw [Bool.and_eq_true] at h2
   exact startG_fine (made_fit ht h2.1) (made_small ht z r) (shuf_bag ht _)
theorem lawMakeGame_any (name:ByteArray) (z sd rl:Int) (w:World) (hst:name.size≤9223372036854775807) (he:Env w) :
  Calls Tryz.prog 3 #[.string name,.int .i64 z,.int .i64 sd,.int .i64 rl] w fun e w'=>e=.returned (.bool true)∧Below w.heap.size w w':=by
 by_cases hss:name.size≤1048576
 case neg =>
  have hgt:(1048576:Int) < (name.size:Int):=by omega
  have hb:Below w.heap.size w w:=Below.refl _ _
  clear he
  go_enter Tryz.func3,Tryz.ntmps3
  go_wp2
  go_ret
  exact ⟨rfl,hb⟩
 have hgt:¬ (1048576:Int) < (name.size:Int):=by omega
 have hb:Below w.heap.size w w:=Below.refl _ _
 have HE:=Lh he
 obtain ⟨hfit,hsml⟩:=make_fine name z sd rl
 have HSP:=Lh (fun W=>specMakeGame_any name z sd rl W)
 have HIM:=Lh (fun W (h:Env W)=>implMakeGame_any name z sd rl W hss h)
 unfold MadePost at HSP HIM
 obtain ⟨rv,hrv⟩:∃ r,r=(makeG name z sd rl).1:=⟨_,rfl⟩
 obtain ⟨kc,hkc⟩:∃ c,c=(makeG name z sd rl).2:=⟨_,rfl⟩
 rw [← hrv] at hfit hsml
 rw [← hrv,← hkc] at HSP HIM
 clear hrv hkc he
 have HRQ:=Lh (fun q r W h h2=>eqGame_any rv q r W h h2 hfit)
 have HRM:=Lh (fun q base W h h2 h3=>markGameZ_any rv q base W h h2 h3 hsml)
 have HRH:=Lh (fun q W h=>heldGameG_any rv q W h hsml)
 have HSR:Hid (∀ q,(Tryz.prog.info? 37).map (·.size)=some (gcells rv q).length):=Lh (size_game rv)
 have HRL:Hid (∀ q,(gcells rv q).length=30):=Lh (fun _=>rfl)
 have HR1:Hid (∀ q,∀ v∈gcells rv q,v.oneCell'=true):=Lh (gcells_all1 rv)
 obtain ⟨n,hn⟩:∃ c:Nat,c=rv.cnt:=⟨_,rfl⟩
 obtain ⟨rc,hrc⟩:∃ f,f=gcells rv:=⟨_,rfl⟩
 replace HSP:Hid (∀ W,Calls Tryz.prog 6 #[.string name,.int .i64 z,.int .i64 sd,.int .i64 rl] W fun e w'=>∃ q:GaA,e=.returned (.tuple #[.agg (rc q).toArray,.int .i64 kc])∧rv.Z q W.heap.size w'∧rv.Off q∧Below W.heap.size W w'):=by rw [hrc];exact HSP
 replace HIM:Hid (∀ W,Env W→Calls Tryz.prog 7 #[.string name,.int .i64 z,.int .i64 sd,.int .i64 rl] W fun e w'=>∃ q:GaA,e=.returned (.tuple #[.agg (rc q).toArray,.int .i64 kc])∧rv.Z q W.heap.size w'∧rv.Off q∧Below W.heap.size W w'):=by rw [hrc];exact HIM
 replace HRQ:Hid (∀ q r W,rv.At q W→rv.At r W→Calls Tryz.prog 8 #[.agg (rc q).toArray,.agg (rc r).toArray] W fun e w'=>e=.returned (.bool true)∧Below W.heap.size W w'):=by rw [hrc];exact HRQ
 replace HRM:Hid (∀ q base W,rv.Z q base W→rv.Off q→base≤W.heap.size→Calls Tryz.prog 9 #[.agg (rc q).toArray,.int .i64 1] W fun e w'=>e=.returned (.int .i64 (1+(n:Nat)))∧(rv.marked 1).Z q base w'∧Wrote base (rv.effs q) W w'):=by rw [hrc,hn];exact HRM
 replace HRH:Hid (∀ q W,(rv.marked 1).At q W→Calls Tryz.prog 10 #[.agg (rc q).toArray,.int .i64 1] W fun e w'=>e=.returned (.int .i64 (1+(n:Nat)))∧Below W.heap.size W w'):=by rw [hrc,hn];exact HRH
 rw [← hrc] at HSR HRL HR1
 clear hrc hn hfit hsml
 go_enter Tryz.func3,Tryz.ntmps3
 go_wp2_with fail
 refine (HSP.out _).mono ?_
 rintro e w4 ⟨q0,rfl,hz0,_,hd⟩
 have S1:=Lh hz0.at
 replace hb:=hb.trans (hd.mono hb.size)
 clear hd hz0 HSP
 have V6:=VarAt.new w4 37 gnone
 obtain ⟨o6,k6⟩:=V6.put (rc q0) (by rw [HRL.out];rfl)
 have tR:=V6.there (n:=(rc q0).length) (by rw [HRL.out];rfl)
 have hd:Below w4.heap.size w4 ((w4.alloc (.cells gnone.toArray 37)).setCells w4.heap.size 0 (rc q0)):=((Below.refl _ _).alloc (Nat.le_refl _) _).grown k6 (by simp) (fun q h=>by cases h;exact Nat.le_refl _)
 have VW:=Lh o6
 clear V6 o6 k6
 go_upto_region 4 with (refine wpList_store_mid rfl 37 _ _ rfl w4.heap.size 0 (rc q0).toArray rfl rfl tR (HSR.out q0) (all_oneCell_toArray (HR1.out q0)) ?_)
 clear tR
 change Code.wp _ _ _ _ ((w4.alloc (.cells gnone.toArray 37)).setCells w4.heap.size 0 (rc q0))
 replace S1:=Lh (Gam.At.kept S1.out hd)
 replace hb:=hb.trans (hd.mono hb.size)
 clear hd
 generalize (w4.alloc (.cells gnone.toArray 37)).setCells w4.heap.size 0 (rc q0)=w5 at *
 generalize w4.heap.size=x4 at *
 have S1A:=S1
 have HEA:=Lh (HE.out.kept hb)
 have hbA:=hb
 replace hb:Below w5.heap.size w5 w5:=Below.refl _ _
 clear S1 HE
 go_wp2_with fail
 refine (HIM.out _ (HEA.out.kept hb)).mono ?_
 rintro e w8 ⟨q5,rfl,hz5,hof5,hd⟩
 have Z5:=Lh hz5
 have HO5:=Lh hof5
 have hs7:=hd.size
 replace hb:=hb.trans (hd.mono hb.size)
 clear hz5 hof5 hd
 have V6:=VarAt.new w8 37 gnone
 obtain ⟨o6,k6⟩:=V6.put (rc q5) (by rw [HRL.out];rfl)
 have tR:=V6.there (n:=(rc q5).length) (by rw [HRL.out];rfl)
 have hd:Below w8.heap.size w8 ((w8.alloc (.cells gnone.toArray 37)).setCells w8.heap.size 0 (rc q5)):=((Below.refl _ _).alloc (Nat.le_refl _) _).grown k6 (by simp) (fun q h=>by cases h;exact Nat.le_refl _)
 have VG:=Lh o6
 have HX8:Hid (∀ s∈rv.effs q5,offA s (some ⟨w8.heap.size,0,none⟩)):=Lh (fun s hs=>off_of_lt (fun g h=>(Z5.out.lt s hs g h).2) (fun g h=>by cases h;exact Nat.le_refl _))
 clear V6 o6 k6
 go_upto_region 5 with (refine wpList_store_mid rfl 37 _ _ rfl w8.heap.size 0 (rc q5).toArray rfl rfl tR (HSR.out q5) (all_oneCell_toArray (HR1.out q5)) ?_)
 clear tR
 change Code.wp _ _ _ _ ((w8.alloc (.cells gnone.toArray 37)).setCells w8.heap.size 0 (rc q5))
 replace Z5:=Lh (Z5.out.kept hd)
 replace hs7:=Nat.le_trans hs7 hd.size
 replace hb:=hb.trans (hd.mono hb.size)
 clear hd
 generalize (w8.alloc (.cells gnone.toArray 37)).setCells w8.heap.size 0 (rc q5)=w9 at *
 generalize w8.heap.size=x8 at *
 have S1:=Lh (Gam.At.kept S1A.out hb)
 have VW9:=Lh (VW.out.kept hb)
 have hkk:(kc != kc)=false:=by simp
 refine wp_region_list ?_
 refine wpList_load_mid rfl 37 _ rfl x8 0 rfl (rc q5) _ VG.out.range Tryz.underlying37 rfl (HSR.out q5) ?_
 refine wpList_load_mid rfl 37 _ rfl x4 0 rfl (rc q0) _ VW9.out.range Tryz.underlying37 rfl (HSR.out q0) ?_
 go_wp2_with fail
 refine (HRQ.out _ _ _ Z5.out.at S1.out).mono ?_
 rintro e wa ⟨rfl,hd⟩
 replace Z5:=Lh (Z5.out.kept hd)
 replace VG:=Lh (VG.out.kept hd)
 replace hs7:=Nat.le_trans hs7 hd.size
 replace hb:=hb.trans (hd.mono hb.size)
 clear S1 VW9 hd
 go_upto_region 8 with fail
 refine wp_region_list ?_
 refine wpList_load_mid rfl 37 _ rfl x8 0 rfl (rc q5) _ VG.out.range Tryz.underlying37 rfl (HSR.out q5) ?_
 go_wp2_with fail
 refine (HRM.out _ _ _ Z5.out HO5.out hs7).mono ?_
 rintro e wg ⟨rfl,hz6,hw⟩
 have M5:=Lh hz6
 replace hb:=hb.trans (hw.below.mono (Nat.le_refl _))
 replace VG:=Lh (VG.out.wrote hw HX8.out)
 clear hw Z5 HO5 hs7 hz6
 have hq2:¬ ((1:Int)+(n:Int)) < 0:=by omega
 have hq3:((1:Int)+(n:Int) != 1+(n:Int))=false:=by simp
 go_upto_region 10 with fail
 refine wp_region_list ?_
 refine wpList_load_mid rfl 37 _ rfl x8 0 rfl (rc q5) _ VG.out.range Tryz.underlying37 rfl (HSR.out q5) ?_
 go_wp2_with fail
 refine (HRH.out _ _ M5.out.at).mono ?_
 rintro e wh ⟨rfl,hd⟩
 replace M5:=Lh (M5.out.kept hd)
 replace VG:=Lh (VG.out.kept hd)
 replace hb:=hb.trans (hd.mono hb.size)
 clear hd
 go_upto_region 15 with fail
 go_wp2_with fail
 refine (HIM.out _ (HEA.out.kept hb)).mono ?_
 rintro e wj ⟨q7,rfl,hz7,_,hd⟩
 have Z7:=Lh hz7
 replace M5:=Lh (M5.out.kept hd)
 replace VG:=Lh (VG.out.kept hd)
 replace hb:=hb.trans (hd.mono hb.size)
 clear hz7 hd
 have V6:=VarAt.new wj 37 gnone
 obtain ⟨o6,k6⟩:=V6.put (rc q7) (by rw [HRL.out];rfl)
 have tR:=V6.there (n:=(rc q7).length) (by rw [HRL.out];rfl)
 have hd:Below wj.heap.size wj ((wj.alloc (.cells gnone.toArray 37)).setCells wj.heap.size 0 (rc q7)):=((Below.refl _ _).alloc (Nat.le_refl _) _).grown k6 (by simp) (fun q h=>by cases h;exact Nat.le_refl _)
 have VH:=Lh o6
 clear V6 o6 k6
 go_upto_region 16 with (refine wpList_store_mid rfl 37 _ _ rfl wj.heap.size 0 (rc q7).toArray rfl rfl tR (HSR.out q7) (all_oneCell_toArray (HR1.out q7)) ?_)
 clear tR
 change Code.wp _ _ _ _ ((wj.alloc (.cells gnone.toArray 37)).setCells wj.heap.size 0 (rc q7))
 replace M5:=Lh (M5.out.kept hd)
 replace Z7:=Lh (Z7.out.kept hd)
 replace VG:=Lh (VG.out.kept hd)
 replace hb:=hb.trans (hd.mono hb.size)
 clear hd
 generalize (wj.alloc (.cells gnone.toArray 37)).setCells wj.heap.size 0 (rc q7)=wk at *
 generalize wj.heap.size=x9 at *
 have S1:=Lh (Gam.At.kept S1A.out hb)
 have VW9:=Lh (VW.out.kept hb)
 refine wp_region_list ?_
 refine wpList_load_mid rfl 37 _ rfl x9 0 rfl (rc q7) _ VH.out.range Tryz.underlying37 rfl (HSR.out q7) ?_
 refine wpList_load_mid rfl 37 _ rfl x4 0 rfl (rc q0) _ VW9.out.range Tryz.underlying37 rfl (HSR.out q0) ?_
 go_wp2_with fail
 refine (HRQ.out _ _ _ Z7.out.at S1.out).mono ?_
 rintro e wl ⟨rfl,hd⟩
 replace M5:=Lh (M5.out.kept hd)
 replace VG:=Lh (VG.out.kept hd)
 replace hb:=hb.trans (hd.mono hb.size)
 clear S1 Z7 VW9 VH hd
 go_upto_region 19 with fail
 refine wp_region_list ?_
 refine wpList_load_mid rfl 37 _ rfl x8 0 rfl (rc q5) _ VG.out.range Tryz.underlying37 rfl (HSR.out q5) ?_
 go_wp2_with fail
 refine (HRH.out _ _ M5.out.at).mono ?_
 rintro e wm ⟨rfl,hd⟩
 replace hb:=hb.trans (hd.mono hb.size)
 clear hd
 go_wp2
 go_ret
 exact ⟨rfl,hbA.trans (hb.mono hbA.size)⟩
end Go.Proofs.YtgphkffbbmmmmaaGreatDoor
set_option maxRecDepth 100000
set_option maxHeartbeats 4000000
namespace Go.Proofs.YtgphkffbbmmmmaaGreatDoor
open Go.ChangeShapes Go.WideShapes Go.ChangeAt Go.RowKit Go.Sort

theorem size_desk (x:Gam) (p:GaA):(Tryz.prog.info? 44).map (·.size)=some (gcells x p).length:=by kernel_rfl
theorem gcells_one (x:Gam) (p:GaA):∀ v∈gcells x p,v.oneCell'=true:=gcells_all1 x p
theorem eqDesk_any (x:Gam) (p q:GaA) (w:World) (ha:x.At p w) (hc:x.At q w) (hf:x.fit) :
  Calls Tryz.prog 13 #[.agg (gcells x p).toArray,.agg (gcells x q).toArray] w fun e w'=>e=.returned (.bool true)∧Below w.heap.size w w':=by
 obtain ⟨w2,hw2⟩:∃ w2,w2=(w.alloc (.cells (gcells x p).toArray 44)).alloc (.cells (gcells x q).toArray 44):=⟨_,rfl⟩
 have hb:Below w.heap.size w w2:=by rw [hw2];exact ((Below.refl _ _).alloc (Nat.le_refl _) _).alloc (by simp) _
 have VA:Hid (VarAt w2 w.heap.size 44 (gcells x p)):=by
  rw [hw2]
  exact Lh ((VarAt.new w 44 (gcells x p)).kept ((Below.refl _ _).alloc (Nat.le_refl _) _))
 have VB:Hid (VarAt w2 (w.heap.size+1) 44 (gcells x q)):=by
  rw [hw2]
  have:=VarAt.new (w.alloc (.cells (gcells x p).toArray 44)) 44 (gcells x q)
  simp only [World.size_alloc] at this
  exact Lh this
 have HQ:=Lh (eqGame_any x p q w2 (Gam.At.kept ha hb) (Gam.At.kept hc hb) hf)
 change Hid (Calls Tryz.prog 8 #[.agg (gcells x p).toArray,.agg (gcells x q).toArray] _ _) at HQ
 have HW2:=Lh hw2
 have HSZ:Hid (∀ q,(Tryz.prog.info? 37).map (·.size)=some (gcells x q).length):=Lh (size_game x)
 clear hw2 ha hc hf
 generalize gcells x=gc at *
 go_enter Tryz.func13,Tryz.ntmps13
 go_upto_region 1 with fail
 rw [← HW2.out]
 clear HW2
 have RA:=VA.out.range
 have RB:=VB.out.range
 go_wp2_with (first | refine wpList_load_mid rfl 37 _ rfl w.heap.size 0 rfl (gc p) _ RA Tryz.underlying37 rfl (HSZ.out p) ?_ | refine wpList_load_mid rfl 37 _ rfl (w.heap.size+1) 0 rfl (gc q) _ RB Tryz.underlying37 rfl (HSZ.out q) ?_)
 clear RA RB
 refine HQ.out.mono ?_
 rintro e w3 ⟨rfl,hd⟩
 replace hb:=hb.trans (hd.mono hb.size)
 clear hd VA VB HQ HSZ
 go_wp2
 go_ret
 exact ⟨rfl,hb⟩
theorem markDesk_any (x:Gam) (q:GaA) (base:Nat) (w:World) (hz:x.Z q base w) (ho:x.Off q) (hlo:base≤w.heap.size) (hsm:x.small) :
  Calls Tryz.prog 14 #[.agg (gcells x q).toArray,.int .i64 1] w fun e w'=>e=.returned (.int .i64 (1+(x.cnt:Nat)))∧(x.marked 1).Z q base w'∧Wrote base (x.effs q) w w':=by
 have hb:Below w.heap.size w (w.alloc (.cells (gcells x q).toArray 44)):=(Below.refl _ _).alloc (Nat.le_refl _) _
 have V:=Lh (VarAt.new w 44 (gcells x q))
 have HC:=Lh (markGameZ_any x q base _ (Gam.Z.kept hz hb) ho (Nat.le_trans hlo hb.size) hsm)
 have HSZ:=Lh (size_game x q)
 have HLO:=Lh hlo
 clear hz ho hlo hsm
 change Hid (Calls Tryz.prog 9 #[.agg (gcells x q).toArray,.int .i64 1] _ _) at HC
 generalize gcells x q=gc at *
 generalize x.cnt=n at *
 go_enter Tryz.func14,Tryz.ntmps14
 go_upto_region 1 with fail
 generalize w.alloc (.cells gc.toArray 44)=w1 at *
 have RG:=V.out.range
 go_wp2_with (refine wpList_load_mid rfl 37 _ rfl w.heap.size 0 rfl gc _ RG Tryz.underlying37 rfl HSZ.out ?_)
 clear RG
 refine HC.out.mono ?_
 rintro e w2 ⟨rfl,hz,hw⟩
 have HZ:=Lh hz
 have HW:=Lh ((Wrote.of_below (S:=[]) hb HLO.out).trans hw)
 clear hz hw V HC HSZ
 go_wp2
 go_ret
 exact ⟨rfl,HZ.out,HW.out⟩
theorem heldDesk_any (x:Gam) (q:GaA) (w:World) (ha:(x.marked 1).At q w) (hsm:x.small) :
  Calls Tryz.prog 15 #[.agg (gcells x q).toArray,.int .i64 1] w fun e w'=>e=.returned (.int .i64 (1+(x.cnt:Nat)))∧Below w.heap.size w w':=by
 have hb:Below w.heap.size w (w.alloc (.cells (gcells x q).toArray 44)):=(Below.refl _ _).alloc (Nat.le_refl _) _
 have V:=Lh (VarAt.new w 44 (gcells x q))
 have HC:=Lh (heldGameG_any x q _ (Gam.At.kept ha hb) hsm)
 have HSZ:=Lh (size_game x q)
 clear ha hsm
 change Hid (Calls Tryz.prog 10 #[.agg (gcells x q).toArray,.int .i64 1] _ _) at HC
 generalize gcells x q=gc at *
 generalize x.cnt=n at *
 go_enter Tryz.func15,Tryz.ntmps15
 go_upto_region 1 with fail
 generalize w.alloc (.cells gc.toArray 44)=w1 at *
 have RG:=V.out.range
 go_wp2_with (refine wpList_load_mid rfl 37 _ rfl w.heap.size 0 rfl gc _ RG Tryz.underlying37 rfl HSZ.out ?_)
 clear RG
 refine HC.out.mono ?_
 rintro e w2 ⟨rfl,hd⟩
 replace hb:=hb.trans (hd.mono hb.size)
 clear hd V HC HSZ
 have h1:¬ ((1:Int)+(n:Int)) < 0:=by omega
 go_wp2
 go_ret
 exact ⟨rfl,hb⟩
end Go.Proofs.YtgphkffbbmmmmaaGreatDoor
set_option maxRecDepth 100000
set_option maxHeartbeats 1600000
namespace Go.Proofs.YtgphkffbbmmmmaaGreatDoor
open Go.ChangeShapes Go.WideShapes Go.ChangeAt Go.RowKit Go.Sort

def smallName:ByteArray:=⟨#[115,109,97,108,108]⟩
/-- the game of a new desk -/
noncomputable def deskG:Gam:=(makeG smallName 7 1 0).1
theorem small_small:smallName.size≤1048576:=by decide
/-- a desk's one field is its game -/
theorem built_desk (x:Gam) (q:GaA):Tryz.prog.built 44 [(0,.agg (gcells x q).toArray)]=some (gcells x q).toArray:=by kernel_rfl
theorem wpList_built1 {P:Program} {ops:Array Oper} {rest:List Oper} {o:Oper} {a:Act} {w:World} {Q:Exit→Act→World→Prop} (hg:o.guard=none) (t:TypeId) (x:Operand) (ho:o.op=.build t #[(0,x)]) (v:Value) (hv:a.eval x=v) (cells:Array Value)
  (hc:P.built t [(0,v)]=some cells) (h:wpList P ops Q rest (a.put o.dst (.agg cells)) w):wpList P ops Q (o :: rest) a w:=by
 refine wpList_build hg t #[(0,x)] ho (by simp [hv,hc]) ?_
 simpa [hv,hc] using h
def DeskAt (rc:GaA→List Value) (x:Gam) (w:World) (e:Ending) (w':World):Prop :=
 ∃ q:GaA,e=.returned (.agg (rc q).toArray)∧x.Z q w.heap.size w'∧x.Off q∧Below w.heap.size w w'
def DeskPost (x:Gam) (w:World) (e:Ending) (w':World):Prop :=
 ∃ q:GaA,e=.returned (.agg (gcells x q).toArray)∧x.Z q w.heap.size w'∧x.Off q∧Below w.heap.size w w'
theorem l28New_of (rc:GaA→List Value) (HRL:Hid (∀ q,(rc q).length=30)) (HSG:Hid (∀ q,(Tryz.prog.info? 37).map (·.size)=some (rc q).length)) (HSD:Hid (∀ q,(Tryz.prog.info? 44).map (·.size)=some (rc q).length)) (HR1:Hid (∀ q,∀ v∈rc q,v.oneCell'=true)) (HBD:Hid (∀ q,Tryz.prog.built 44 [(0,.agg (rc q).toArray)]=some (rc q).toArray)) (x:Gam) (kc:Int) (w:World) (hM:∀ W,Calls Tryz.prog 6 #[.string ⟨#[115,109,97,108,108]⟩,.int .i64 7,.int .i64 1,.int .i64 0] W fun e w'=>∃ q:GaA,e=.returned (.tuple #[.agg (rc q).toArray,.int .i64 kc])∧x.Z q W.heap.size w'∧x.Off q∧Below W.heap.size W w') :
  Calls Tryz.prog 45 #[] w (DeskAt rc x w):=by
 have hb:Below w.heap.size w (w.alloc (.cells gnone.toArray 44)):=(Below.refl _ _).alloc (Nat.le_refl _) _
 have VO:=Lh (VarAt.new w 44 gnone)
 have hlo:w.heap.size < (w.alloc (.cells gnone.toArray 44)).heap.size:=by simp
 have HM:=Lh hM
 clear hM
 go_enter Tryz.func45,Tryz.ntmps45
 go_upto_region 1 with fail
 change Code.wp _ _ _ _ (w.alloc (.cells gnone.toArray 44))
 generalize w.alloc (.cells gnone.toArray 44)=w1 at *
 go_wp2_with fail
 refine (HM.out _).mono ?_
 rintro e w2 ⟨q0,rfl,hz0,ho0,hd0⟩
 have HZ0:=Lh hz0
 have HO:=Lh ho0
 replace hb:=hb.trans (hd0.mono hb.size)
 replace VO:=Lh (VO.out.kept hd0)
 have hlw:=hd0.size
 clear hz0 ho0 hd0 HM
 have V6:=VarAt.new w2 37 gnone
 obtain ⟨o6,k6⟩:=V6.put (rc q0) (by rw [HRL.out];rfl)
 have tR:=V6.there (n:=(rc q0).length) (by rw [HRL.out];rfl)
 have hd:Below w2.heap.size w2 ((w2.alloc (.cells gnone.toArray 37)).setCells w2.heap.size 0 (rc q0)):=((Below.refl _ _).alloc (Nat.le_refl _) _).grown k6 (by simp) (fun q h=>by cases h;exact Nat.le_refl _)
 have VB:=Lh o6
 clear V6 o6 k6
 go_upto_region 2 with (refine wpList_store_mid rfl 37 _ _ rfl w2.heap.size 0 (rc q0).toArray rfl rfl tR (HSG.out q0) (all_oneCell_toArray (HR1.out q0)) ?_)
 clear tR
 change Code.wp _ _ _ _ ((w2.alloc (.cells gnone.toArray 37)).setCells w2.heap.size 0 (rc q0))
 have HZ:=Lh (HZ0.out.kept hd)
 replace hb:=hb.trans (hd.mono hb.size)
 replace VO:=Lh (VO.out.kept hd)
 clear hd HZ0
 generalize (w2.alloc (.cells gnone.toArray 37)).setCells w2.heap.size 0 (rc q0)=w3 at *
 generalize w2.heap.size=n2 at *
 obtain ⟨o0,k0⟩:=VO.out.put (rc q0) (by rw [HRL.out];rfl)
 have tR:=VO.out.there (n:=(rc q0).length) (by rw [HRL.out];rfl)
 have hb6:=hb.grown k0 hb.size (fun k h=>by cases h;exact Nat.le_refl _)
 have HZ6:=Lh ((HZ.out.store k0 hlo).mono (Nat.le_of_lt hlo))
 have rZ:=o0.range
 clear o0 k0 hb VO
 refine wp_region_list ?_
 refine wpList_load_mid rfl 37 _ rfl n2 0 rfl (rc q0) _ VB.out.range Tryz.underlying37 rfl (HSG.out q0) ?_
 refine wpList_built1 rfl 44 (.tmp 7) rfl (.agg (rc q0).toArray) rfl (rc q0).toArray (HBD.out q0) ?_
 clear VB
 refine wpList_store_mid rfl 44 _ _ rfl w.heap.size 0 (rc q0).toArray rfl rfl tR (HSD.out q0) (all_oneCell_toArray (HR1.out q0)) ?_
 change wpList _ _ _ _ _ (w3.setCells w.heap.size 0 (rc q0))
 generalize w3.setCells w.heap.size 0 (rc q0)=wZ at *
 clear tR
 have HV:=Lh (run_loadVar_mid (P:=Tryz.prog) wZ w.heap.size 0 44 (rc q0) _ rZ Tryz.underlying44 rfl (HSD.out q0))
 clear rZ
 go_wp2
 refine bodyPost_ret (results_cell_var Tryz.results45 _ _ _ _ rfl HV.out) rfl ?_
 exact ⟨q0,rfl,HZ6.out,HO.out,hb6⟩
theorem implNewDesk_of (rc:GaA→List Value) (HRL:Hid (∀ q,(rc q).length=30)) (HSG:Hid (∀ q,(Tryz.prog.info? 37).map (·.size)=some (rc q).length)) (HSD:Hid (∀ q,(Tryz.prog.info? 44).map (·.size)=some (rc q).length)) (HR1:Hid (∀ q,∀ v∈rc q,v.oneCell'=true)) (HBD:Hid (∀ q,Tryz.prog.built 44 [(0,.agg (rc q).toArray)]=some (rc q).toArray)) (x:Gam) (kc:Int) (w:World) (he:Env w) (hM:∀ W,Env W→Calls Tryz.prog 7 #[.string ⟨#[115,109,97,108,108]⟩,.int .i64 7,.int .i64 1,.int .i64 0] W fun e w'=>∃ q:GaA,e=.returned (.tuple #[.agg (rc q).toArray,.int .i64 kc])∧x.Z q W.heap.size w'∧x.Off q∧Below W.heap.size W w') :
  Calls Tryz.prog 12 #[] w (DeskAt rc x w):=by
 have HE:=Lh (he.kept (show Below w.heap.size w (w.alloc (.cells gnone.toArray 44)) from (Below.refl _ _).alloc (Nat.le_refl _) _))
 clear he
 have hb:Below w.heap.size w (w.alloc (.cells gnone.toArray 44)):=(Below.refl _ _).alloc (Nat.le_refl _) _
 have VO:=Lh (VarAt.new w 44 gnone)
 have hlo:w.heap.size < (w.alloc (.cells gnone.toArray 44)).heap.size:=by simp
 have HM:=Lh hM
 clear hM
 go_enter Tryz.func12,Tryz.ntmps12
 go_upto_region 1 with fail
 change Code.wp _ _ _ _ (w.alloc (.cells gnone.toArray 44))
 generalize w.alloc (.cells gnone.toArray 44)=w1 at *
 go_wp2_with fail
 refine (HM.out _ HE.out).mono ?_
 rintro e w2 ⟨q0,rfl,hz0,ho0,hd0⟩
 have HZ0:=Lh hz0
 have HO:=Lh ho0
 replace hb:=hb.trans (hd0.mono hb.size)
 replace VO:=Lh (VO.out.kept hd0)
 have hlw:=hd0.size
 clear hz0 ho0 hd0 HM
 have V6:=VarAt.new w2 37 gnone
 obtain ⟨o6,k6⟩:=V6.put (rc q0) (by rw [HRL.out];rfl)
 have tR:=V6.there (n:=(rc q0).length) (by rw [HRL.out];rfl)
 have hd:Below w2.heap.size w2 ((w2.alloc (.cells gnone.toArray 37)).setCells w2.heap.size 0 (rc q0)):=((Below.refl _ _).alloc (Nat.le_refl _) _).grown k6 (by simp) (fun q h=>by cases h;exact Nat.le_refl _)
 have VB:=Lh o6
 clear V6 o6 k6
 go_upto_region 2 with (refine wpList_store_mid rfl 37 _ _ rfl w2.heap.size 0 (rc q0).toArray rfl rfl tR (HSG.out q0) (all_oneCell_toArray (HR1.out q0)) ?_)
 clear tR
 change Code.wp _ _ _ _ ((w2.alloc (.cells gnone.toArray 37)).setCells w2.heap.size 0 (rc q0))
 have HZ:=Lh (HZ0.out.kept hd)
 replace hb:=hb.trans (hd.mono hb.size)
 replace VO:=Lh (VO.out.kept hd)
 clear hd HZ0
 generalize (w2.alloc (.cells gnone.toArray 37)).setCells w2.heap.size 0 (rc q0)=w3 at *
 generalize w2.heap.size=n2 at *
 obtain ⟨o0,k0⟩:=VO.out.put (rc q0) (by rw [HRL.out];rfl)
 have tR:=VO.out.there (n:=(rc q0).length) (by rw [HRL.out];rfl)
 have hb6:=hb.grown k0 hb.size (fun k h=>by cases h;exact Nat.le_refl _)
 have HZ6:=Lh ((HZ.out.store k0 hlo).mono (Nat.le_of_lt hlo))
 have rZ:=o0.range
 clear o0 k0 hb VO
 refine wp_region_list ?_
 refine wpList_load_mid rfl 37 _ rfl n2 0 rfl (rc q0) _ VB.out.range Tryz.underlying37 rfl (HSG.out q0) ?_
 refine wpList_built1 rfl 44 (.tmp 7) rfl (.agg (rc q0).toArray) rfl (rc q0).toArray (HBD.out q0) ?_
 clear VB
 refine wpList_store_mid rfl 44 _ _ rfl w.heap.size 0 (rc q0).toArray rfl rfl tR (HSD.out q0) (all_oneCell_toArray (HR1.out q0)) ?_
 change wpList _ _ _ _ _ (w3.setCells w.heap.size 0 (rc q0))
 generalize w3.setCells w.heap.size 0 (rc q0)=wZ at *
 clear tR
 have HV:=Lh (run_loadVar_mid (P:=Tryz.prog) wZ w.heap.size 0 44 (rc q0) _ rZ Tryz.underlying44 rfl (HSD.out q0))
 clear rZ
 go_wp2
 refine bodyPost_ret (results_cell_var Tryz.results12 _ _ _ _ rfl HV.out) rfl ?_
 exact ⟨q0,rfl,HZ6.out,HO.out,hb6⟩
theorem l28New_any (w:World):Calls Tryz.prog 45 #[] w (DeskPost deskG w) :=
 l28New_of (gcells deskG) (Lh (fun _=>rfl)) (Lh (size_game _)) (Lh (size_desk _)) (Lh (gcells_all1 _)) (Lh (built_desk _)) deskG _ w (fun W=>specMakeGame_any smallName 7 1 0 W)
theorem implNewDesk_any (w:World) (he:Env w):Calls Tryz.prog 12 #[] w (DeskPost deskG w) :=
 implNewDesk_of (gcells deskG) (Lh (fun _=>rfl)) (Lh (size_game _)) (Lh (size_desk _)) (Lh (gcells_all1 _)) (Lh (built_desk _)) deskG _ w he (fun W h=>implMakeGame_any smallName 7 1 0 W small_small h)
theorem specNewDesk_of (rc:GaA→List Value) (HRL:Hid (∀ q,(rc q).length=30)) (HSD:Hid (∀ q,(Tryz.prog.info? 44).map (·.size)=some (rc q).length)) (HR1:Hid (∀ q,∀ v∈rc q,v.oneCell'=true)) (x:Gam) (w:World) (hM:∀ W,Calls Tryz.prog 45 #[] W (DeskAt rc x W)) :
  Calls Tryz.prog 11 #[] w (DeskAt rc x w):=by
 have hb:Below w.heap.size w (w.alloc (.cells gnone.toArray 44)):=(Below.refl _ _).alloc (Nat.le_refl _) _
 have VO:=Lh (VarAt.new w 44 gnone)
 have hlo:w.heap.size < (w.alloc (.cells gnone.toArray 44)).heap.size:=by simp
 have HM:=Lh hM
 clear hM
 go_enter Tryz.func11,Tryz.ntmps11
 go_upto_region 1 with fail
 change Code.wp _ _ _ _ (w.alloc (.cells gnone.toArray 44))
 generalize w.alloc (.cells gnone.toArray 44)=w1 at *
 go_wp2_with fail
 refine (HM.out _).mono ?_
 rintro e w2 ⟨q0,rfl,hz0,ho0,hd0⟩
 have HZ:=Lh hz0
 have HO:=Lh ho0
 replace hb:=hb.trans (hd0.mono hb.size)
 replace VO:=Lh (VO.out.kept hd0)
 clear hz0 ho0 hd0 HM
 obtain ⟨o0,k0⟩:=VO.out.put (rc q0) (by rw [HRL.out];rfl)
 have tR:=VO.out.there (n:=(rc q0).length) (by rw [HRL.out];rfl)
 have hb6:=hb.grown k0 hb.size (fun k h=>by cases h;exact Nat.le_refl _)
 have HZ6:=Lh ((HZ.out.store k0 hlo).mono (Nat.le_of_lt hlo))
 have rZ:=o0.range
 clear o0 k0 hb VO
 have HV:=Lh (run_loadVar_mid (P:=Tryz.prog) (w2.setCells w.heap.size 0 (rc q0)) w.heap.size 0 44 (rc q0) _ rZ Tryz.underlying44 rfl (HSD.out q0))
 clear rZ
 go_wp2_with (refine wpList_store_mid rfl 44 _ _ rfl w.heap.size 0 (rc q0).toArray rfl rfl tR (HSD.out q0) (all_oneCell_toArray (HR1.out q0)) ?_)
 refine bodyPost_ret (results_cell_var Tryz.results11 _ _ _ _ rfl HV.out) rfl ?_
 exact ⟨q0,rfl,HZ6.out,HO.out,hb6⟩
theorem specNewDesk_any (w:World):Calls Tryz.prog 11 #[] w (DeskPost deskG w):=specNewDesk_of (gcells deskG) (Lh (fun _=>rfl)) (Lh (size_desk _)) (Lh (gcells_all1 _)) deskG w l28New_any
end Go.Proofs.YtgphkffbbmmmmaaGreatDoor
set_option maxRecDepth 100000
set_option maxHeartbeats 16000000
namespace Go.Proofs.YtgphkffbbmmmmaaGreatDoor
open Go.ChangeShapes Go.WideShapes Go.ChangeAt Go.RowKit Go.Sort

theorem lawNewDesk_of (rv:Gam) (hfit:rv.fit) (hsml:rv.small) (hS:∀ W,Calls Tryz.prog 11 #[] W (DeskPost rv W)) (hI:∀ W,Env W→Calls Tryz.prog 12 #[] W (DeskPost rv W)) (w:World) (he:Env w) :
  Calls Tryz.prog 4 #[] w fun e w'=>e=.returned (.bool true)∧Below w.heap.size w w':=by
 have hb:Below w.heap.size w w:=Below.refl _ _
 have HE:=Lh he
 have HSP:=Lh hS
 have HIM:=Lh hI
 unfold DeskPost at HSP HIM
 clear he hS hI
 have HRQ:=Lh (fun q r W h h2=>eqDesk_any rv q r W h h2 hfit)
 have HRM:=Lh (fun q base W h h2 h3=>markDesk_any rv q base W h h2 h3 hsml)
 have HRH:=Lh (fun q W h=>heldDesk_any rv q W h hsml)
 have HSR:Hid (∀ q,(Tryz.prog.info? 44).map (·.size)=some (gcells rv q).length):=Lh (size_desk rv)
 have HRL:Hid (∀ q,(gcells rv q).length=30):=Lh (fun _=>rfl)
 have HR1:Hid (∀ q,∀ v∈gcells rv q,v.oneCell'=true):=Lh (gcells_all1 rv)
 generalize rv.cnt=n at *
 obtain ⟨rc,hrc⟩:∃ f,f=gcells rv:=⟨_,rfl⟩
 rw [← hrc] at HSP HIM HRQ HRM HRH HSR HRL HR1
 clear hrc hfit hsml
 go_enter Tryz.func4,Tryz.ntmps4
 go_wp2_with fail
 refine (HSP.out _).mono ?_
 rintro e w4 ⟨q0,rfl,hz0,_,hd⟩
 have S1:=Lh hz0.at
 replace hb:=hb.trans (hd.mono hb.size)
 clear hd hz0 HSP
 have V6:=VarAt.new w4 44 gnone
 obtain ⟨o6,k6⟩:=V6.put (rc q0) (by rw [HRL.out];rfl)
 have tR:=V6.there (n:=(rc q0).length) (by rw [HRL.out];rfl)
 have hd:Below w4.heap.size w4 ((w4.alloc (.cells gnone.toArray 44)).setCells w4.heap.size 0 (rc q0)):=((Below.refl _ _).alloc (Nat.le_refl _) _).grown k6 (by simp) (fun q h=>by cases h;exact Nat.le_refl _)
 have VW:=Lh o6
 clear V6 o6 k6
 go_upto_region 2 with (refine wpList_store_mid rfl 44 _ _ rfl w4.heap.size 0 (rc q0).toArray rfl rfl tR (HSR.out q0) (all_oneCell_toArray (HR1.out q0)) ?_)
 clear tR
 change Code.wp _ _ _ _ ((w4.alloc (.cells gnone.toArray 44)).setCells w4.heap.size 0 (rc q0))
 replace S1:=Lh (Gam.At.kept S1.out hd)
 replace hb:=hb.trans (hd.mono hb.size)
 clear hd
 generalize (w4.alloc (.cells gnone.toArray 44)).setCells w4.heap.size 0 (rc q0)=w5 at *
 generalize w4.heap.size=x4 at *
 have S1A:=S1
 have HEA:=Lh (HE.out.kept hb)
 have hbA:=hb
 replace hb:Below w5.heap.size w5 w5:=Below.refl _ _
 clear S1 HE
 go_wp2_with fail
 refine (HIM.out _ (HEA.out.kept hb)).mono ?_
 rintro e w8 ⟨q5,rfl,hz5,hof5,hd⟩
 have Z5:=Lh hz5
 have HO5:=Lh hof5
 have hs7:=hd.size
 replace hb:=hb.trans (hd.mono hb.size)
 clear hz5 hof5 hd
 have V6:=VarAt.new w8 44 gnone
 obtain ⟨o6,k6⟩:=V6.put (rc q5) (by rw [HRL.out];rfl)
 have tR:=V6.there (n:=(rc q5).length) (by rw [HRL.out];rfl)
 have hd:Below w8.heap.size w8 ((w8.alloc (.cells gnone.toArray 44)).setCells w8.heap.size 0 (rc q5)):=((Below.refl _ _).alloc (Nat.le_refl _) _).grown k6 (by simp) (fun q h=>by cases h;exact Nat.le_refl _)
 have VG:=Lh o6
 have HX8:Hid (∀ s∈rv.effs q5,offA s (some ⟨w8.heap.size,0,none⟩)):=Lh (fun s hs=>off_of_lt (fun g h=>(Z5.out.lt s hs g h).2) (fun g h=>by cases h;exact Nat.le_refl _))
 clear V6 o6 k6
 go_upto_region 3 with (refine wpList_store_mid rfl 44 _ _ rfl w8.heap.size 0 (rc q5).toArray rfl rfl tR (HSR.out q5) (all_oneCell_toArray (HR1.out q5)) ?_)
 clear tR
 change Code.wp _ _ _ _ ((w8.alloc (.cells gnone.toArray 44)).setCells w8.heap.size 0 (rc q5))
 replace Z5:=Lh (Z5.out.kept hd)
 replace hs7:=Nat.le_trans hs7 hd.size
 replace hb:=hb.trans (hd.mono hb.size)
 clear hd
 generalize (w8.alloc (.cells gnone.toArray 44)).setCells w8.heap.size 0 (rc q5)=w9 at *
 generalize w8.heap.size=x8 at *
 have S1:=Lh (Gam.At.kept S1A.out hb)
 have VW9:=Lh (VW.out.kept hb)
 refine wp_region_list ?_
 refine wpList_load_mid rfl 44 _ rfl x8 0 rfl (rc q5) _ VG.out.range Tryz.underlying44 rfl (HSR.out q5) ?_
 refine wpList_load_mid rfl 44 _ rfl x4 0 rfl (rc q0) _ VW9.out.range Tryz.underlying44 rfl (HSR.out q0) ?_
 go_wp2_with fail
 refine (HRQ.out _ _ _ Z5.out.at S1.out).mono ?_
 rintro e wa ⟨rfl,hd⟩
 replace Z5:=Lh (Z5.out.kept hd)
 replace VG:=Lh (VG.out.kept hd)
 replace hs7:=Nat.le_trans hs7 hd.size
 replace hb:=hb.trans (hd.mono hb.size)
 clear S1 VW9 hd
 go_upto_region 6 with fail
 refine wp_region_list ?_
 refine wpList_load_mid rfl 44 _ rfl x8 0 rfl (rc q5) _ VG.out.range Tryz.underlying44 rfl (HSR.out q5) ?_
 go_wp2_with fail
 refine (HRM.out _ _ _ Z5.out HO5.out hs7).mono ?_
 rintro e wg ⟨rfl,hz6,hw⟩
 have M5:=Lh hz6
 replace hb:=hb.trans (hw.below.mono (Nat.le_refl _))
 replace VG:=Lh (VG.out.wrote hw HX8.out)
 clear hw Z5 HO5 hs7 hz6
 have hq2:¬ ((1:Int)+(n:Int)) < 0:=by omega
 have hq3:((1:Int)+(n:Int) != 1+(n:Int))=false:=by simp
 go_upto_region 8 with fail
 refine wp_region_list ?_
 refine wpList_load_mid rfl 44 _ rfl x8 0 rfl (rc q5) _ VG.out.range Tryz.underlying44 rfl (HSR.out q5) ?_
 go_wp2_with fail
 refine (HRH.out _ _ M5.out.at).mono ?_
 rintro e wh ⟨rfl,hd⟩
 replace M5:=Lh (M5.out.kept hd)
 replace VG:=Lh (VG.out.kept hd)
 replace hb:=hb.trans (hd.mono hb.size)
 clear hd
 go_upto_region 13 with fail
 go_wp2_with fail
 refine (HIM.out _ (HEA.out.kept hb)).mono ?_
 rintro e wj ⟨q7,rfl,hz7,_,hd⟩
 have Z7:=Lh hz7
 replace M5:=Lh (M5.out.kept hd)
 replace VG:=Lh (VG.out.kept hd)
 replace hb:=hb.trans (hd.mono hb.size)
 clear hz7 hd
 have V6:=VarAt.new wj 44 gnone
 obtain ⟨o6,k6⟩:=V6.put (rc q7) (by rw [HRL.out];rfl)
 have tR:=V6.there (n:=(rc q7).length) (by rw [HRL.out];rfl)
 have hd:Below wj.heap.size wj ((wj.alloc (.cells gnone.toArray 44)).setCells wj.heap.size 0 (rc q7)):=((Below.refl _ _).alloc (Nat.le_refl _) _).grown k6 (by simp) (fun q h=>by cases h;exact Nat.le_refl _)
 have VH:=Lh o6
 clear V6 o6 k6
 go_upto_region 14 with (refine wpList_store_mid rfl 44 _ _ rfl wj.heap.size 0 (rc q7).toArray rfl rfl tR (HSR.out q7) (all_oneCell_toArray (HR1.out q7)) ?_)
 clear tR
 change Code.wp _ _ _ _ ((wj.alloc (.cells gnone.toArray 44)).setCells wj.heap.size 0 (rc q7))
 replace M5:=Lh (M5.out.kept hd)
 replace Z7:=Lh (Z7.out.kept hd)
 replace VG:=Lh (VG.out.kept hd)
 replace hb:=hb.trans (hd.mono hb.size)
 clear hd
 generalize (wj.alloc (.cells gnone.toArray 44)).setCells wj.heap.size 0 (rc q7)=wk at *
 generalize wj.heap.size=x9 at *
 have S1:=Lh (Gam.At.kept S1A.out hb)
 have VW9:=Lh (VW.out.kept hb)
 refine wp_region_list ?_
 refine wpList_load_mid rfl 44 _ rfl x9 0 rfl (rc q7) _ VH.out.range Tryz.underlying44 rfl (HSR.out q7) ?_
 refine wpList_load_mid rfl 44 _ rfl x4 0 rfl (rc q0) _ VW9.out.range Tryz.underlying44 rfl (HSR.out q0) ?_
 go_wp2_with fail
 refine (HRQ.out _ _ _ Z7.out.at S1.out).mono ?_
 rintro e wl ⟨rfl,hd⟩
 replace M5:=Lh (M5.out.kept hd)
 replace VG:=Lh (VG.out.kept hd)
 replace hb:=hb.trans (hd.mono hb.size)
 clear S1 Z7 VW9 VH hd
 go_upto_region 17 with fail
 refine wp_region_list ?_
 refine wpList_load_mid rfl 44 _ rfl x8 0 rfl (rc q5) _ VG.out.range Tryz.underlying44 rfl (HSR.out q5) ?_
 go_wp2_with fail
 refine (HRH.out _ _ M5.out.at).mono ?_
 rintro e wm ⟨rfl,hd⟩
 replace hb:=hb.trans (hd.mono hb.size)
 clear hd
 go_wp2
 go_ret
 exact ⟨rfl,hbA.trans (hb.mono hbA.size)⟩
theorem lawNewDesk_any (w:World) (he:Env w) :
  Calls Tryz.prog 4 #[] w fun e w'=>e=.returned (.bool true)∧Below w.heap.size w w' :=
 lawNewDesk_of deskG (make_fine smallName 7 1 0).1 (make_fine smallName 7 1 0).2 specNewDesk_any (fun W h=>implNewDesk_any W h) w he
end Go.Proofs.YtgphkffbbmmmmaaGreatDoor
