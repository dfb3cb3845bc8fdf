/- Contract: the reference's standard board. For every size. · Contract: the reference makes a game by name. For every name, size, seed and rule. -/
import Derived.Test.YtgphkffbbmmmmaaGreatDoorMkA
import Derived.Test.YtgphkffbbmmmmaaGreatDoorGmS
import Derived.Test.YtgphkffbbmmmmaaGreatDoorMkX
import Derived.Test.YtgphkffbbmmmmaaGreatDoorMkJ
import Derived.Test.YtgphkffbbmmmmaaGreatDoorMkG
import Derived.Test.YtgphkffbbmmmmaaGreatDoorMkI
set_option maxRecDepth 100000
set_option maxHeartbeats 4000000
namespace Go.Proofs.YtgphkffbbmmmmaaGreatDoor
open Go.ChangeShapes Go.WideShapes Go.ChangeAt Go.RowKit Go.Sort

theorem specStandardBoard_any (z:Int) (w:World) :
  Calls Tryz.prog 23 #[.int .i64 z] w fun e w'=>e=.returned (.tuple #[.agg #[.int .i64 (stdBoard z).1.size,.string (stdBoard z).1.premium,.string (stdBoard z).1.cells],.int .i64 (stdBoard z).2])∧Below w.heap.size w w':=by
 obtain ⟨i0,hi0,hi1,hi2,hi3⟩:=info_parts infoByte
 have hb0:Below w.heap.size w (w.alloc (.cells #[.int .i64 0,.string ⟨#[]⟩,.string ⟨#[]⟩] 29)):=(Below.refl _ _).alloc (Nat.le_refl _) _
 have V0:=Lh (VarAt.new w 29 [.int .i64 0,.string ⟨#[]⟩,.string ⟨#[]⟩])
 have HSZ:Hid (∀ W,Calls Tryz.prog 55 #[.int .i64 z] W fun e w'=>e=.returned (.bool (withinB z 5 15))∧W=w'):=Lh (fun W=>l11Size_any z W)
 cases hz:withinB z 5 15 with
 | false =>
  have HR:Hid (stdBoard z=(⟨0,⟨#[]⟩,⟨#[]⟩⟩,2)):=Lh (by unfold stdBoard;rw [hz];rfl)
  rw [HR.out]
  rw [hz] at HSZ
  clear hz HR
  go_enter Tryz.func23,Tryz.ntmps23
  go_upto_region 1 with fail
  generalize w.alloc (.cells #[.int .i64 0,.string ⟨#[]⟩,.string ⟨#[]⟩] 29)=w1 at *
  go_wp2_with fail
  refine (HSZ.out _).mono ?_
  rintro e w2 ⟨rfl,rfl⟩
  clear HSZ
  have c0:=V0.out.cell (i:=0) rfl
  have c1:=V0.out.cell (i:=1) rfl
  have c2:=V0.out.cell (i:=2) rfl
  have f0:=V0.out.free 0
  have f1:=V0.out.free 1
  have f2:=V0.out.free 2
  obtain ⟨o0,k0⟩:=V0.out.set 0 (.int .i64 0)
  obtain ⟨o1,k1⟩:=o0.set 1 (.string ⟨#[]⟩)
  obtain ⟨o2,k2⟩:=o1.set 2 (.string ⟨#[]⟩)
  have GG:=grownBy_trans (grownBy_trans k0 k1) k2
  have hb9:=hb0.grown GG hb0.size (fun q h=>by cases h;exact Nat.le_refl _)
  have e0:=o2.cell (i:=0) (v:=.int .i64 0) rfl
  have e1:=o2.cell (i:=1) (v:=.string ⟨#[]⟩) rfl
  have e2:=o2.cell (i:=2) (v:=.string ⟨#[]⟩) rfl
  clear o0 o1 o2 k0 k1 k2 GG
  go_wp2
  refine bodyPost_ret (v:=.tuple #[.agg #[.int .i64 0,.string ⟨#[]⟩,.string ⟨#[]⟩],.int .i64 2]) (by simp [results,Tryz.results23,go_sem,e0,e1,e2]) rfl ?_
  exact ⟨rfl,hb9⟩
 | true =>
  have h5:5≤z∧z≤15:=by simpa only [withinB,Bool.and_eq_true,decide_eq_true_eq] using hz
  obtain ⟨n,rfl⟩:∃ n:Nat,z=(n:Int):=⟨z.toNat,by omega⟩
  have hn5:5≤n:=by omega
  have hn:n≤15:=by omega
  have HR:Hid (stdBoard (n:Int)=(⟨n,mkB (stdL n),mkB (List.replicate (n * n) 46)⟩,0)):=Lh (by unfold stdBoard;rw [hz];rfl)
  rw [HR.out]
  rw [hz] at HSZ
  clear hz HR
  have HLN:=Lh (stdL_len n)
  have HTK:=Lh (fun (r c m:Nat) (h1:r < n) (h2:c < n) (h3:m=r * n+c)=>stdL_take (n:=n) h1 h2 h3)
  have HST:Hid (∀ r c:Nat,r < n→c < n→∀ W,Calls Tryz.prog 56 #[.int .i64 n,.int .i64 r,.int .i64 c] W fun e w'=>e=.returned (.int .u8 ((stdB n r c).toNat:Int))∧W=w'):=Lh (fun r c h1 h2 W=>l11Standard_any n r c W (by omega) (by omega) (by omega))
  go_enter Tryz.func23,Tryz.ntmps23
  go_upto_region 1 with fail
  generalize w.alloc (.cells #[.int .i64 0,.string ⟨#[]⟩,.string ⟨#[]⟩] 29)=w1 at *
  go_wp2_with fail
  refine (HSZ.out _).mono ?_
  rintro e w2 ⟨rfl,rfl⟩
  clear HSZ
  have hb:Below w1.heap.size w1 (w1.alloc (.cells #[] 5)):=(Below.refl _ _).alloc (Nat.le_refl _) _
  have HO:Hid ((w1.alloc (.cells #[] 5)).ownsRow w1.heap.size 5 1 (.slice (some ⟨w1.heap.size,0,none⟩) 0 0) 0 []):=Lh (World.ownsRow_made (base:=w1.heap.size) (e:=5) (size:=1) w1 #[] 0 (by simp) (by unfold maxLen;omega) rfl)
  go_upto_region 4 with fail
  generalize w1.alloc (.cells #[] 5)=w3 at *
  go_wp2_with fail
  go_loopw [4,5] (fun ov iv wr=>∃ (r m g cap:Nat),r≤n∧iv=.int .i64 r∧ov=.slice (some ⟨g,0,none⟩) m cap∧Hid (m=r * n)∧m≤225∧Hid (wr.ownsRow w1.heap.size 5 1 (.slice (some ⟨g,0,none⟩) m cap) m (((stdL n).take m).flatMap U8.enc))∧Below w1.heap.size w1 wr) (fun _ iv _=>n - (intOf iv).toNat)
  case atStart=>exact ⟨0,0,_,0,Nat.zero_le _,rfl,rfl,Lh (by simp),by omega,HO,hb⟩
  case round =>
   clear HO hb
   obtain ⟨r,m,g,cap,hr,rfl,rfl,HN,hm,HO,hb⟩:=hrel
   by_cases hlt:r < n
   ·go_wp2_with fail
    obtain ⟨wo,rfl⟩:∃ wo:World,wo=wr:=⟨_,rfl⟩
    go_loopw [4,6] (fun ov iv wr=>∃ (c m g cap:Nat),c≤n∧iv=.int .i64 c∧ov=.slice (some ⟨g,0,none⟩) m cap∧Hid (m=r * n+c)∧m≤225∧Hid (wr.ownsRow w1.heap.size 5 1 (.slice (some ⟨g,0,none⟩) m cap) m (((stdL n).take m).flatMap U8.enc))∧Below w1.heap.size w1 wr) (fun _ iv _=>n - (intOf iv).toNat)
    case atStart=>exact ⟨0,m,g,cap,Nat.zero_le _,rfl,rfl,Lh (by rw [HN.out];rfl),hm,HO,hb⟩
    case round =>
     clear HO hb hm HN
     obtain ⟨c,m,g2,cap2,hc,rfl,rfl,HM,hm,HO,hb⟩:=hrel
     by_cases hc2:c < n
     ·have HT:=Lh (HTK.out r c m hlt hc2 HM.out)
      have hm2:m < 225:=by
       have h1:=HM.out
       have h2:=row_ltn hlt hc2
       have h3:=sq_mono hn
       omega
      have HM2:Hid (m+1=r * n+(c+1)):=Lh (by have:=HM.out;omega)
      have HS1:=Lh (HST.out r c hlt hc2)
      clear HM
      generalize stdB (n:Int) (r:Int) (c:Int)=ch at *
      go_wp2_with fail
      refine (HS1.out _).mono ?_
      rintro e w4 ⟨rfl,rfl⟩
      clear HS1
      have hx:Below wr.heap.size wr (wr.alloc (.cells #[.int .u8 (ch.toNat:Int)] 5)):=(Below.refl _ _).alloc (Nat.le_refl _) _
      have KN:=Lh (new_byte wr ch 5)
      replace HO:=Lh (own_below HO.out hx)
      have hz2:=hb.size
      replace hb:=hb.trans (hx.mono hb.size)
      clear hx
      go_wp2_with (at_builtin;go_must (refine wpList_append_own _ rfl (.tmp 22) (.tmp 27) 49 rfl w1.heap.size 5 i0 _ 1 1 Tryz.underlying49 hi0 hi1 hi2 hi3 rfl (by decide) _ m (((stdL n).take m).flatMap U8.enc) (by rfl) HO.out ⟨wr.heap.size,0,none⟩ 1 1 (U8.enc ch) (by rfl) rfl KN.out (u8_one1 ch) ?c1 ?c2 ?c3 ?_))
      case c1=>unfold maxLen;omega
      case c2=>omega
      case c3=>(first | omega | (simp only [World.size_alloc];omega))
      intro v' w7 hown hgr hnil
      obtain ⟨g7,cap7,rfl,_⟩:=own_some hown (fun e=>by have h:=hnil;rw [e] at h;simp at h)
      have hb7:=hb.grown hgr hb.size (fun q e=>by have:=(HO.out.lt q e).1;omega)
      have HO7:Hid (w7.ownsRow w1.heap.size 5 1 (.slice (some ⟨g7,0,none⟩) (m+1) cap7) (m+1) (((stdL n).take (m+1)).flatMap U8.enc)):=Lh (by
       rw [HT.out,snoc_flat U8.enc];exact hown)
      clear hown hgr hnil KN HO hb HT
      go_wp2
      go_roundw
      case rel=>exact ⟨c+1,m+1,g7,cap7,by omega,by go_num,by go_num,HM2,by omega,HO7,hb7⟩
      case measure=>simp [intOf];omega
     ·obtain rfl:c=n:=by omega
      have HM2:Hid (m=(r+1) * c):=Lh (by rw [Nat.succ_mul];exact HM.out)
      clear HM
      go_wp2
      go_roundw
      case rel=>exact ⟨r+1,m,g2,cap2,by omega,by go_num,rfl,HM2,hm,HO,hb⟩
      case measure=>simp [intOf];omega
   ·obtain rfl:r=n:=by omega
    have HE:Hid ((stdL r).take m=stdL r):=Lh (List.take_of_length_le (by rw [HLN.out,HN.out];exact Nat.le_refl _))
    have hO:=HO.out
    rw [HE.out] at hO
    have HNL:Hid (m=(stdL r).length):=Lh (by rw [HN.out,HLN.out])
    have hcv:=own_bytes hO HNL.out
    clear hcv HO HE HTK HLN HST
    have hd:Below wr.heap.size wr wr.drew:=(Below.refl _ _).drew
    replace hO:=own_below hO hd
    replace hb:=hb.trans (hd.mono hb.size)
    clear hd
    obtain ⟨q,hq⟩:∃ q:Nat,q=r * r:=⟨_,rfl⟩
    have hqi:(r:Int) * (r:Int)=(q:Int):=by rw [hq];push_cast;rfl
    have hq2:q≤225:=by rw [hq];exact Nat.mul_le_mul hn hn
    have HQ:Hid (r * r=q):=Lh hq.symm
    have V1:=Lh (V0.out.kept hb)
    have HRP:Hid (∀ W,Calls Tryz.prog 57 #[.int .u8 46,.int .i64 (q:Int)] W fun e w'=>e=.returned (.string (mkB (List.replicate (r * r) 46)))∧Below W.heap.size W w'):=Lh (fun W=>by rw [← hq];exact l02Repeat_any 46 q W (by omega))
    have hw:IntKind.i64.wrap (q:Int)=q:=IntWalk.i64_in _ (by omega)
    have hlt0:=V0.out.lt
    clear hq V0
    go_upto_region 11 with fail
    generalize hfr:mkB (List.replicate (r * r) 46)=free at *
    have HF:=Lh hfr
    clear hfr
    refine wp_region_held_drew (S:=fun W=>W.ownsRow w1.heap.size 5 1 (.slice (some ⟨g,0,none⟩) m cap) m ((stdL r).flatMap U8.enc)) (by kernel_rfl) hO (fun hHeld=>?_)
    generalize wr.drew=wd at *
    refine slotA 0 29 (.int .i64 r) ?_
    simp only [S3]
    refine slotA 1 30 (.slice (some ⟨g,0,none⟩) m cap) ?_
    simp only [S3]
    refine slotA 2 31 (.string (mkB (stdL r))) ?_ (hy:=Or.inl ⟨by rfl,fun w' hS=>by have c9:=own_bytes hS HNL.out;go_simp⟩)
    simp only [S3]
    refine slotA 3 32 (.int .i64 r) ?_
    simp only [S3]
    refine slotA 4 33 (.int .i64 r) ?_
    simp only [S3]
    refine slotA 5 34 (.int .i64 q) ?_
    simp only [S3]
    refine wpAnyH_ready (rs:=[6]) (by kernel_rfl) (by simp) ?_
    refine AllReadyH.cons (o:=_) rfl (fun K hK=>?_) AllReadyH.nil
    go_simp
    refine (HRP.out _).mono ?_
    rintro e wa ⟨rfl,hd⟩
    replace hO:=own_below hO hd
    replace V1:=Lh (V1.out.kept hd)
    replace hb:=hb.trans (hd.mono hb.size)
    clear hd hHeld HRP
    go_wp2_with fail
    refine hK.out _ _ hO (fun hHeld=>?_)
    clear hK K
    generalize hpr:mkB (stdL r)=prem at *
    have HP:=Lh hpr
    clear hpr
    refine slotA 7 36 (.agg #[.int .i64 r,.string prem,.string free]) ?_
    simp only [S3]
    refine wpAnyH_ready (rs:=[8]) (by kernel_rfl) (by simp) ?_
    refine AllReadyH.cons (o:=_) rfl (fun K hK=>?_) AllReadyH.nil
    obtain ⟨o2,GG⟩:=V1.out.put [.int .i64 r,.string prem,.string free] rfl
    have tR:=V1.out.there (n:=3) rfl
    have hO2:=row_store hO GG hlt0
    refine mk_store rfl rfl 29 (.tmp 2) (.tmp 36) rfl w.heap.size 0 #[.int .i64 r,.string prem,.string free] rfl rfl tR (by kernel_rfl) (by simp [Value.oneCell']) ?_
    refine hK.out _ _ hO2 (fun hHeld2=>?_)
    clear hK K hHeld
    have hb9:=hb0.trans ((hb.mono hb0.size).grown GG (Nat.le_trans hb0.size hb.size) (fun q h=>by cases h;exact Nat.le_refl _))
    change wpAnyH _ _ _ _ _ _ _ _ (World.setCells _ w.heap.size 0 [.int .i64 r,.string prem,.string free])
    have e0:=o2.cell (i:=0) (v:=.int .i64 r) rfl
    have e1:=o2.cell (i:=1) (v:=.string prem) rfl
    have e2:=o2.cell (i:=2) (v:=.string free) rfl
    clear o2 GG hO hO2 tR V1 hb hb0
    generalize World.setCells _ w.heap.size 0 [.int .i64 r,.string prem,.string free]=wz at *
    refine slotA 9 3 (.int .i64 0) ?_
    simp only [S3]
    refine wpAnyH_done (by kernel_rfl) ?_ _
    clear hHeld2
    go_wp2
    refine bodyPost_ret (v:=.tuple #[.agg #[.int .i64 r,.string prem,.string free],.int .i64 0]) (by simp [results,Tryz.results23,go_sem,e0,e1,e2]) rfl ?_
    exact ⟨by rw [HP.out,HF.out],hb9⟩
end Go.Proofs.YtgphkffbbmmmmaaGreatDoor
set_option maxRecDepth 100000
set_option maxHeartbeats 16000000
namespace Go.Proofs.YtgphkffbbmmmmaaGreatDoor
open Go.ChangeShapes Go.WideShapes Go.ChangeAt Go.RowKit Go.Sort

/-- a made game, or none, and a code -/
def MadePost (r:Gam × Int) (w:World) (e:Ending) (w':World):Prop :=
 ∃ q:GaA,e=.returned (.tuple #[.agg (gcells r.1 q).toArray,.int .i64 r.2])∧r.1.Z q w.heap.size w'∧r.1.Off q∧Below w.heap.size w w'
def qn:GaA:=⟨⟨⟨nrow,nrow⟩,nrow⟩,nrow,nrow,nrow⟩
theorem gnone_eq:gnone=gcells noGam qn:=rfl
theorem size_none:(Tryz.prog.info? 37).map (·.size)=some gnone.length:=by kernel_rfl
theorem gnone_all:∀ v∈gnone,v.oneCell'=true:=by rw [gnone_eq];exact gcells_all1 _ _
theorem none_zz (w:World) (base:Nat):noGam.Z qn base w:=⟨⟨.inl rfl,.inl rfl,.inl rfl⟩,.inl rfl,.inl rfl,.inl rfl⟩
theorem none_oo:noGam.Off qn:=⟨⟨offA_none _,offA_none _,offA_none _⟩,fun t _=>offA_none2 t,fun t _=>offA_none2 t,fun t _=>offA_none2 t,offA_none _,offA_none _,offA_none _⟩
theorem std_nz {z:Int} (h:withinB z 5 15=false):stdBoard z=(⟨0,⟨#[]⟩,⟨#[]⟩⟩,2):=by unfold stdBoard;rw [h];rfl
theorem std_yz {z:Int} (h:withinB z 5 15=true):stdBoard z=((stdBoard z).1,0):=by unfold stdBoard;rw [h];rfl
theorem made_fit {t:Tls} {z r:Int} (ht:t.Std) (hz:withinB z 5 15=true):(madeS t z r).fit:=by
 obtain ⟨h1,h2,h3⟩:=ht.len
 have h5:5≤z∧z≤15:=by simpa only [withinB,Bool.and_eq_true,decide_eq_true_eq] using hz
 obtain ⟨n,rfl⟩:∃ n:Nat,z=(n:Int):=⟨z.toNat,by omega⟩
 have hn:n * n≤225:=Nat.mul_le_mul (show n≤15 by omega) (show n≤15 by omega)
 have e:(madeS t n r).board=⟨n,mkB (stdL n),mkB (List.replicate (n * n) 46)⟩:=by unfold madeS stdBoard;rw [hz];rfl
 refine ⟨⟨by show t.letters.size≤_;omega,by show t.values.length≤_;omega,by show t.counts.length≤_;omega⟩,⟨by show stdWords.length≤_;decide,by show ∀ m∈stdWords,m.size≤_;decide⟩,?_⟩
 rw [e]
 exact ⟨by show (mkB (stdL n)).size≤_;rw [mkB_size,stdL_len];omega,by show (mkB (List.replicate (n * n) 46)).size≤_;rw [mkB_size,List.length_replicate];omega⟩
theorem made_small {t:Tls} (ht:t.Std) (z r:Int):(madeS t z r).small:=by
 obtain ⟨h1,h2,h3⟩:=ht.len
 exact ⟨⟨by show t.values.length≤_;omega,by show t.counts.length≤_;omega⟩,by show stdWords.length≤_;decide⟩
theorem specMakeGame_any (name:ByteArray) (z sd rl:Int) (w:World) :
  Calls Tryz.prog 6 #[.string name,.int .i64 z,.int .i64 sd,.int .i64 rl] w (MadePost (makeG name z sd rl) w):=by
 have hb:Below w.heap.size w (w.alloc (.cells gnone.toArray 37)):=(Below.refl _ _).alloc (Nat.le_refl _) _
 have VO:=Lh (VarAt.new w 37 gnone)
 cases htn:tileName name with
 | none =>
  rw [make_none htn]
  have HT:Hid (∀ W,Calls Tryz.prog 22 #[.string name] W fun e w'=>e=.returned (.tuple #[.agg #[.string ⟨#[]⟩,.slice none 0 0,.slice none 0 0,.int .i64 0],.int .i64 3])∧Below W.heap.size W w'):=Lh (fun W=>specTiles_none name W (standX_none htn))
  clear htn
  go_enter Tryz.func6,Tryz.ntmps6
  go_upto_region 1 with fail
  change Code.wp _ _ _ _ (w.alloc (.cells gnone.toArray 37))
  generalize w.alloc (.cells gnone.toArray 37)=w1 at *
  go_wp2_with fail
  refine (HT.out _).mono ?_
  rintro e w2 ⟨rfl,hd⟩
  replace VO:=Lh (VO.out.kept hd)
  replace hb:=hb.trans (hd.mono hb.size)
  clear hd HT
  have hd:Below w2.heap.size w2 (w2.alloc (.cells #[.string ⟨#[]⟩,.slice none 0 0,.slice none 0 0,.int .i64 0] 24)):=(Below.refl _ _).alloc (Nat.le_refl _) _
  replace VO:=Lh (VO.out.kept hd)
  replace hb:=hb.trans (hd.mono hb.size)
  clear hd
  go_upto_region 3 with fail
  generalize w2.alloc (.cells #[.string ⟨#[]⟩,.slice none 0 0,.slice none 0 0,.int .i64 0] 24)=w3 at *
  have tR:=VO.out.there (n:=30) rfl
  obtain ⟨o6,k6⟩:=VO.out.put gnone rfl
  have hb6:=hb.grown k6 hb.size (fun k h=>by cases h;exact Nat.le_refl _)
  have rZ:=o6.range
  clear o6 k6 hb VO
  refine wp_region_list ?_
  refine wpList_plain rfl (fun K hK=>?_)
  try simp only [Act.put,S3]
  go_simp
  refine hK _ _ ?_
  clear hK K
  refine wpList_plain rfl (fun K hK=>?_)
  try simp only [Act.put,S3]
  go_simp
  refine hK _ _ ?_
  clear hK K
  refine wpList_store_mid rfl 37 _ _ rfl w.heap.size 0 gnone.toArray rfl rfl tR size_none (all_oneCell_toArray gnone_all) ?_
  change wpList _ _ _ _ _ (w3.setCells w.heap.size 0 gnone)
  generalize w3.setCells w.heap.size 0 gnone=wZ at *
  clear tR
  have HV:=Lh (run_loadVar_mid (P:=Tryz.prog) wZ w.heap.size 0 37 gnone _ rZ Tryz.underlying37 rfl size_none)
  clear rZ
  go_wp2
  refine bodyPost_ret (results_cell_tmp_var Tryz.results6 _ _ _ _ rfl HV.out) rfl ?_
  exact ⟨qn,rfl,none_zz _ _,none_oo,hb6⟩
 | some t =>
  have hst:=tileName_std htn
  obtain ⟨X,hXT,_,_,hX⟩:=key_yes htn
  have HT:Hid (∀ W,Calls Tryz.prog 22 #[.string name] W (TlPost t (.int .i64 0) W)):=Lh (fun W=>specTiles_any t name W (by rw [hX];exact hXT))
  have HBD:=Lh (fun W=>specStandardBoard_any z W)
  have HWD:Hid (∀ W,Calls Tryz.prog 27 #[] W (TextsPost W stdWords)):=Lh (fun W=>l27Words_any W)
  have HSH:=Lh (fun W q (h:t.At q W)=>specShuffleBag_any t q sd W h hst)
  have HRL:Hid (∀ W,Calls Tryz.prog 24 #[.int .i64 rl,.int .i64 0,.int .i64 3] W fun e w'=>e=.returned (.bool (withinB rl 0 3))∧W=w'):=Lh (fun W=>l00In_any _ _ _ W)
  cases hz:withinB z 5 15 with
  | false =>
   rw [make_bad htn (by rw [hz];rfl)]
   rw [std_nz hz] at HBD
   obtain ⟨bb,hbb⟩:∃ b:Brd,b=⟨0,⟨#[]⟩,⟨#[]⟩⟩:=⟨_,rfl⟩
   rw [← hbb] at HBD
   clear hz htn hst hXT hX hbb HWD HRL HSH
   go_enter Tryz.func6,Tryz.ntmps6
   go_upto_region 1 with fail
   change Code.wp _ _ _ _ (w.alloc (.cells gnone.toArray 37))
   generalize w.alloc (.cells gnone.toArray 37)=w1 at *
   go_wp2_with fail
   refine (HT.out _).mono ?_
   rintro e w2 ⟨q,rfl,hat,hd⟩
   replace hat:=Tls.Own.at hat
   replace VO:=Lh (VO.out.kept hd)
   replace hb:=hb.trans (hd.mono hb.size)
   clear hd HT
   have hB1:=VO.out.lt
   have V1:=Lh (VarAt.new w2 24 (tlCells t q))
   have hd:Below w2.heap.size w2 (w2.alloc (.cells (tlCells t q).toArray 24)):=(Below.refl _ _).alloc (Nat.le_refl _) _
   replace VO:=Lh (VO.out.kept hd)
   replace hb:=hb.trans (hd.mono hb.size)
   replace hat:=Tls.At.kept hat hd
   clear hd
   go_upto_region 4 with fail
   change Code.wp _ _ _ _ (w2.alloc (.cells (tlCells t q).toArray 24))
   generalize w2.alloc (.cells (tlCells t q).toArray 24)=w3 at *
   generalize w2.heap.size=B1 at *
   go_wp2_with fail
   refine (HBD.out _).mono ?_
   rintro e w4 ⟨rfl,hd⟩
   replace VO:=Lh (VO.out.kept hd)
   replace hb:=hb.trans (hd.mono hb.size)
   replace hat:=Tls.At.kept hat hd
   replace V1:=Lh (V1.out.kept hd)
   clear hd HBD
   have hB2:=VO.out.lt
   have V2:=Lh (VarAt.new w4 29 (Brd.enc bb))
   have hd:Below w4.heap.size w4 (w4.alloc (.cells (Brd.enc bb).toArray 29)):=(Below.refl _ _).alloc (Nat.le_refl _) _
   replace VO:=Lh (VO.out.kept hd)
   replace hb:=hb.trans (hd.mono hb.size)
   replace hat:=Tls.At.kept hat hd
   replace V1:=Lh (V1.out.kept hd)
   clear hd
   go_upto_region 5 with fail
   change Code.wp _ _ _ _ (w4.alloc (.cells (Brd.enc bb).toArray 29))
   generalize w4.alloc (.cells (Brd.enc bb).toArray 29)=w5 at *
   generalize w4.heap.size=B2 at *
   go_upto_region 6 with fail
   clear V1 V2 hat
   have tR:=VO.out.there (n:=30) rfl
   obtain ⟨o6,k6⟩:=VO.out.put gnone rfl
   have hb6:=hb.grown k6 hb.size (fun k h=>by cases h;exact Nat.le_refl _)
   have rZ:=o6.range
   clear o6 k6 hb VO
   refine wp_region_list ?_
   refine wpList_plain rfl (fun K hK=>?_)
   try simp only [Act.put,S3]
   go_simp
   refine hK _ _ ?_
   clear hK K
   refine wpList_plain rfl (fun K hK=>?_)
   try simp only [Act.put,S3]
   go_simp
   refine hK _ _ ?_
   clear hK K
   refine wpList_store_mid rfl 37 _ _ rfl w.heap.size 0 gnone.toArray rfl rfl tR size_none (all_oneCell_toArray gnone_all) ?_
   change wpList _ _ _ _ _ (w5.setCells w.heap.size 0 gnone)
   generalize w5.setCells w.heap.size 0 gnone=wZ at *
   clear tR
   have HV:=Lh (run_loadVar_mid (P:=Tryz.prog) wZ w.heap.size 0 37 gnone _ rZ Tryz.underlying37 rfl size_none)
   clear rZ
   go_wp2
   refine bodyPost_ret (results_cell_tmp_var Tryz.results6 _ _ _ _ rfl HV.out) rfl ?_
   exact ⟨qn,rfl,none_zz _ _,none_oo,hb6⟩
  | true =>
   rw [std_yz hz] at HBD
   have hbo:=board_std hz
   obtain ⟨bb,hbb⟩:∃ b:Brd,b=(stdBoard z).1:=⟨_,rfl⟩
   rw [← hbb] at HBD
   cases hr:withinB rl 0 3 with
   | false =>
    rw [make_bad htn (by rw [hz,hr];rfl)]
    rw [hr] at HRL
    clear hz hr htn hst hXT hX hbb hbo HWD HSH
    go_enter Tryz.func6,Tryz.ntmps6
    go_upto_region 1 with fail
    change Code.wp _ _ _ _ (w.alloc (.cells gnone.toArray 37))
    generalize w.alloc (.cells gnone.toArray 37)=w1 at *
    go_wp2_with fail
    refine (HT.out _).mono ?_
    rintro e w2 ⟨q,rfl,hat,hd⟩
    replace hat:=Tls.Own.at hat
    replace VO:=Lh (VO.out.kept hd)
    replace hb:=hb.trans (hd.mono hb.size)
    clear hd HT
    have hB1:=VO.out.lt
    have V1:=Lh (VarAt.new w2 24 (tlCells t q))
    have hd:Below w2.heap.size w2 (w2.alloc (.cells (tlCells t q).toArray 24)):=(Below.refl _ _).alloc (Nat.le_refl _) _
    replace VO:=Lh (VO.out.kept hd)
    replace hb:=hb.trans (hd.mono hb.size)
    replace hat:=Tls.At.kept hat hd
    clear hd
    go_upto_region 4 with fail
    change Code.wp _ _ _ _ (w2.alloc (.cells (tlCells t q).toArray 24))
    generalize w2.alloc (.cells (tlCells t q).toArray 24)=w3 at *
    generalize w2.heap.size=B1 at *
    go_wp2_with fail
    refine (HBD.out _).mono ?_
    rintro e w4 ⟨rfl,hd⟩
    replace VO:=Lh (VO.out.kept hd)
    replace hb:=hb.trans (hd.mono hb.size)
    replace hat:=Tls.At.kept hat hd
    replace V1:=Lh (V1.out.kept hd)
    clear hd HBD
    have hB2:=VO.out.lt
    have V2:=Lh (VarAt.new w4 29 (Brd.enc bb))
    have hd:Below w4.heap.size w4 (w4.alloc (.cells (Brd.enc bb).toArray 29)):=(Below.refl _ _).alloc (Nat.le_refl _) _
    replace VO:=Lh (VO.out.kept hd)
    replace hb:=hb.trans (hd.mono hb.size)
    replace hat:=Tls.At.kept hat hd
    replace V1:=Lh (V1.out.kept hd)
    clear hd
    go_upto_region 5 with fail
    change Code.wp _ _ _ _ (w4.alloc (.cells (Brd.enc bb).toArray 29))
    generalize w4.alloc (.cells (Brd.enc bb).toArray 29)=w5 at *
    generalize w4.heap.size=B2 at *
    go_wp2_with fail
    refine (HRL.out _).mono ?_
    rintro e w6 ⟨rfl,rfl⟩
    clear HRL
    go_upto_region 8 with fail
    clear V1 V2 hat
    have tR:=VO.out.there (n:=30) rfl
    obtain ⟨o6,k6⟩:=VO.out.put gnone rfl
    have hb6:=hb.grown k6 hb.size (fun k h=>by cases h;exact Nat.le_refl _)
    have rZ:=o6.range
    clear o6 k6 hb VO
    refine wp_region_list ?_
    refine wpList_plain rfl (fun K hK=>?_)
    try simp only [Act.put,S3]
    go_simp
    refine hK _ _ ?_
    clear hK K
    refine wpList_store_mid rfl 37 _ _ rfl w.heap.size 0 gnone.toArray rfl rfl tR size_none (all_oneCell_toArray gnone_all) ?_
    change wpList _ _ _ _ _ (w5.setCells w.heap.size 0 gnone)
    generalize w5.setCells w.heap.size 0 gnone=wZ at *
    clear tR
    have HV:=Lh (run_loadVar_mid (P:=Tryz.prog) wZ w.heap.size 0 37 gnone _ rZ Tryz.underlying37 rfl size_none)
    clear rZ
    go_wp2
    refine bodyPost_ret (results_cell_tmp_var Tryz.results6 _ _ _ _ rfl HV.out) rfl ?_
    exact ⟨qn,rfl,none_zz _ _,none_oo,hb6⟩
   | true =>
    rw [hr] at HRL
    cases hs:withinB sd 0 2147483647 with
    | false =>
     rw [make_bad htn (by rw [hz,hr,hs];rfl)]
     rw [hs] at HSH
     clear hz hr hs htn hst hXT hX hbb hbo HWD
     go_enter Tryz.func6,Tryz.ntmps6
     go_upto_region 1 with fail
     change Code.wp _ _ _ _ (w.alloc (.cells gnone.toArray 37))
     generalize w.alloc (.cells gnone.toArray 37)=w1 at *
     go_wp2_with fail
     refine (HT.out _).mono ?_
     rintro e w2 ⟨q,rfl,hat,hd⟩
     replace hat:=Tls.Own.at hat
     replace VO:=Lh (VO.out.kept hd)
     replace hb:=hb.trans (hd.mono hb.size)
     clear hd HT
     have hB1:=VO.out.lt
     have V1:=Lh (VarAt.new w2 24 (tlCells t q))
     have hd:Below w2.heap.size w2 (w2.alloc (.cells (tlCells t q).toArray 24)):=(Below.refl _ _).alloc (Nat.le_refl _) _
     replace VO:=Lh (VO.out.kept hd)
     replace hb:=hb.trans (hd.mono hb.size)
     replace hat:=Tls.At.kept hat hd
     clear hd
     go_upto_region 4 with fail
     change Code.wp _ _ _ _ (w2.alloc (.cells (tlCells t q).toArray 24))
     generalize w2.alloc (.cells (tlCells t q).toArray 24)=w3 at *
     generalize w2.heap.size=B1 at *
     go_wp2_with fail
     refine (HBD.out _).mono ?_
     rintro e w4 ⟨rfl,hd⟩
     replace VO:=Lh (VO.out.kept hd)
     replace hb:=hb.trans (hd.mono hb.size)
     replace hat:=Tls.At.kept hat hd
     replace V1:=Lh (V1.out.kept hd)
     clear hd HBD
     have hB2:=VO.out.lt
     have V2:=Lh (VarAt.new w4 29 (Brd.enc bb))
     have hd:Below w4.heap.size w4 (w4.alloc (.cells (Brd.enc bb).toArray 29)):=(Below.refl _ _).alloc (Nat.le_refl _) _
     replace VO:=Lh (VO.out.kept hd)
     replace hb:=hb.trans (hd.mono hb.size)
     replace hat:=Tls.At.kept hat hd
     replace V1:=Lh (V1.out.kept hd)
     clear hd
     go_upto_region 5 with fail
     change Code.wp _ _ _ _ (w4.alloc (.cells (Brd.enc bb).toArray 29))
     generalize w4.alloc (.cells (Brd.enc bb).toArray 29)=w5 at *
     generalize w4.heap.size=B2 at *
     go_wp2_with fail
     refine (HRL.out _).mono ?_
     rintro e w6 ⟨rfl,rfl⟩
     clear HRL
     have c0:=V1.out.cell (i:=0) rfl
     have c1:=V1.out.cell (i:=1) rfl
     have c2:=V1.out.cell (i:=2) rfl
     have c3:=V1.out.cell (i:=3) rfl
     go_wp2_with fail
     refine (HSH.out _ q hat).mono ?_
     rintro e w6 ⟨rfl,hd⟩
     replace VO:=Lh (VO.out.kept hd)
     replace hb:=hb.trans (hd.mono hb.size)
     clear hd HSH c0 c1 c2 c3
     go_upto_region 11 with fail
     clear V1 V2 hat
     have tR:=VO.out.there (n:=30) rfl
     obtain ⟨o6,k6⟩:=VO.out.put gnone rfl
     have hb6:=hb.grown k6 hb.size (fun k h=>by cases h;exact Nat.le_refl _)
     have rZ:=o6.range
     clear o6 k6 hb VO
     refine wp_region_list ?_
     refine wpList_plain rfl (fun K hK=>?_)
     try simp only [Act.put,S3]
     go_simp
     refine hK _ _ ?_
     clear hK K
     refine wpList_plain rfl (fun K hK=>?_)
     try simp only [Act.put,S3]
     go_simp
     refine hK _ _ ?_
     clear hK K
     refine wpList_store_mid rfl 37 _ _ rfl w.heap.size 0 gnone.toArray rfl rfl tR size_none (all_oneCell_toArray gnone_all) ?_
     change wpList _ _ _ _ _ (w6.setCells w.heap.size 0 gnone)
     generalize w6.setCells w.heap.size 0 gnone=wZ at *
     clear tR
     have HV:=Lh (run_loadVar_mid (P:=Tryz.prog) wZ w.heap.size 0 37 gnone _ rZ Tryz.underlying37 rfl size_none)
     clear rZ
     go_wp2
     refine bodyPost_ret (results_cell_tmp_var Tryz.results6 _ _ _ _ rfl HV.out) rfl ?_
     exact ⟨qn,rfl,none_zz _ _,none_oo,hb6⟩
    | true =>
     rw [make_good htn (by rw [hz,hr,hs];rfl)]
     have hsd:0≤sd∧sd≤2147483647:=by simpa only [withinB,Bool.and_eq_true,decide_eq_true_eq] using hs
     obtain ⟨x,rfl⟩:∃ x:Nat,sd=(x:Int):=⟨sd.toNat,by omega⟩
     have hx:x < 2147483648:=by omega
     have hxx:(x:Int).toNat=x:=by simp
     rw [hxx]
     rw [hs] at HSH
     rw [hxx] at HSH
     have hmo:=made_ok hst hz hr
     have hbf:=shuf_bag hst x
     have HST:Hid (∀ W r,(madeS t z rl).At r W→Calls Tryz.prog 26 #[.agg (scells (madeS t z rl) r).toArray,.string (mkB (shuf x (allL t)))] W (StartPost (startG (madeS t z rl) (shuf x (allL t))) W)):=Lh (fun W r h=>specStart_any (madeS t z rl) r (shuf x (allL t)) W h hmo hbf (made_fit hst hz) (made_small hst z rl))
     have HSE:Hid (madeS t z rl=⟨t,stdWords,bb,600,rl⟩):=Lh (by unfold madeS;rw [hbb])
     rw [HSE.out] at HST
     rw [HSE.out]
     obtain ⟨xg,hxg⟩:∃ y,y=startG ⟨t,stdWords,bb,600,rl⟩ (shuf x (allL t)):=⟨_,rfl⟩
     rw [← hxg] at HST
     rw [← hxg]
     have HSX:Hid (∀ (k:String),k=k):=Lh (fun _=>rfl)
     clear hz hr hs htn hst hXT hX hbb hbo hmo hbf HSE hxg hxx HSX hsd
     generalize mkB (shuf x (allL t))=bag at *
     go_enter Tryz.func6,Tryz.ntmps6
     go_upto_region 1 with fail
     change Code.wp _ _ _ _ (w.alloc (.cells gnone.toArray 37))
     generalize w.alloc (.cells gnone.toArray 37)=w1 at *
     go_wp2_with fail
     refine (HT.out _).mono ?_
     rintro e w2 ⟨q,rfl,hat,hd⟩
     replace hat:=Tls.Own.at hat
     replace VO:=Lh (VO.out.kept hd)
     replace hb:=hb.trans (hd.mono hb.size)
     clear hd HT
     have hB1:=VO.out.lt
     have V1:=Lh (VarAt.new w2 24 (tlCells t q))
     have hd:Below w2.heap.size w2 (w2.alloc (.cells (tlCells t q).toArray 24)):=(Below.refl _ _).alloc (Nat.le_refl _) _
     replace VO:=Lh (VO.out.kept hd)
     replace hb:=hb.trans (hd.mono hb.size)
     replace hat:=Tls.At.kept hat hd
     clear hd
     go_upto_region 4 with fail
     change Code.wp _ _ _ _ (w2.alloc (.cells (tlCells t q).toArray 24))
     generalize w2.alloc (.cells (tlCells t q).toArray 24)=w3 at *
     generalize w2.heap.size=B1 at *
     go_wp2_with fail
     refine (HBD.out _).mono ?_
     rintro e w4 ⟨rfl,hd⟩
     replace VO:=Lh (VO.out.kept hd)
     replace hb:=hb.trans (hd.mono hb.size)
     replace hat:=Tls.At.kept hat hd
     replace V1:=Lh (V1.out.kept hd)
     clear hd HBD
     have hB2:=VO.out.lt
     have V2:=Lh (VarAt.new w4 29 (Brd.enc bb))
     have hd:Below w4.heap.size w4 (w4.alloc (.cells (Brd.enc bb).toArray 29)):=(Below.refl _ _).alloc (Nat.le_refl _) _
     replace VO:=Lh (VO.out.kept hd)
     replace hb:=hb.trans (hd.mono hb.size)
     replace hat:=Tls.At.kept hat hd
     replace V1:=Lh (V1.out.kept hd)
     clear hd
     go_upto_region 5 with fail
     change Code.wp _ _ _ _ (w4.alloc (.cells (Brd.enc bb).toArray 29))
     generalize w4.alloc (.cells (Brd.enc bb).toArray 29)=w5 at *
     generalize w4.heap.size=B2 at *
     go_wp2_with fail
     refine (HRL.out _).mono ?_
     rintro e w6 ⟨rfl,rfl⟩
     clear HRL
     have c0:=V1.out.cell (i:=0) rfl
     have c1:=V1.out.cell (i:=1) rfl
     have c2:=V1.out.cell (i:=2) rfl
     have c3:=V1.out.cell (i:=3) rfl
     go_wp2_with fail
     refine (HSH.out _ q hat).mono ?_
     rintro e w6 ⟨rfl,hd⟩
     replace VO:=Lh (VO.out.kept hd)
     replace hb:=hb.trans (hd.mono hb.size)
     replace hat:=Tls.At.kept hat hd
     replace V1:=Lh (V1.out.kept hd)
     replace V2:=Lh (V2.out.kept hd)
     clear hd HSH c0 c1 c2 c3
     go_upto_region 12 with fail
     have hd:Below w6.heap.size w6 w6.drew:=(Below.refl _ _).drew
     replace VO:=Lh (VO.out.kept hd)
     replace hb:=hb.trans (hd.mono hb.size)
     replace hat:=Tls.At.kept hat hd
     replace V1:=Lh (V1.out.kept hd)
     replace V2:=Lh (V2.out.kept hd)
     clear hd
     refine wp_region_held_drew (S:=fun W=>W.rangeAt B1 0 (tlCells t q)∧W.rangeAt B2 0 (Brd.enc bb)) (by kernel_rfl) ⟨V1.out.range,V2.out.range⟩ (fun hHeld=>?_)
     generalize w6.drew=wd at *
     have hlo:=VO.out.lt
     refine slotA 0 46 (.agg (tlCells t q).toArray) ?_ (hy:=yieldsIf_load_mid (by rfl) 24 _ rfl B1 0 rfl (tlCells t q) _ (fun w' hS=>hS.1) Tryz.underlying24 rfl (by kernel_rfl))
     simp only [S3]
     refine slotA 3 49 (.agg (Brd.enc bb).toArray) ?_ (hy:=yieldsIf_load_mid (by rfl) 29 _ rfl B2 0 rfl (Brd.enc bb) _ (fun w' hS=>hS.2) Tryz.underlying29 rfl (by kernel_rfl))
     simp only [S3]
     refine slotA 4 50 (.int .i64 rl) ?_
     simp only [S3]
     refine slotA 6 52 (.string bag) ?_
     simp only [S3]
     refine wpAnyH_ready (rs:=[1]) (by kernel_rfl) (by simp) ?_
     refine AllReadyH.cons (o:=_) rfl (fun K hK=>?_) AllReadyH.nil
     go_simp
     refine (HWD.out _).mono ?_
     rintro e w7 ⟨G,cap,rfl,ho,hd⟩
     have hlx:SliceAt w7 1 Tx.enc (some ⟨G,0,none⟩) stdWords:=own_slice Tx.enc_len ho rfl
     replace VO:=Lh (VO.out.kept hd)
     replace hb:=hb.trans (hd.mono hb.size)
     replace hat:=Tls.At.kept hat hd
     replace V1:=Lh (V1.out.kept hd)
     replace V2:=Lh (V2.out.kept hd)
     clear hd ho HWD hHeld
     go_wp2_with fail
     refine hK.out _ _ ⟨V1.out.range,V2.out.range⟩ (fun hHeld=>?_)
     clear hK K
     refine slotA 2 48 (.agg #[.slice (some ⟨G,0,none⟩) stdWords.length cap]) ?_
     simp only [S3]
     simp only [tlCells,Brd.enc]
     refine slotA 5 51 (.agg (scells ⟨t,stdWords,bb,600,rl⟩ ⟨q,⟨some ⟨G,0,none⟩,cap⟩⟩).toArray) ?_ (hy:=Or.inl ⟨by rfl,fun w' _=>by go_simp;rfl⟩)
     simp only [S3]
     have hsa:Stp.At ⟨t,stdWords,bb,600,rl⟩ ⟨q,⟨some ⟨G,0,none⟩,cap⟩⟩ w7:=⟨hat,hlx⟩
     refine wpAnyH_ready (rs:=[7]) (by kernel_rfl) (by simp) ?_
     refine AllReadyH.cons (o:=_) rfl (fun K hK=>?_) AllReadyH.nil
     go_simp
     refine (HST.out _ _ hsa).mono ?_
     rintro e w8 ⟨r,rfl,hz,ho,hd⟩
     have HZ0:=Lh hz
     have HO:=Lh ho
     have hlo2:=VO.out.lt
     replace VO:=Lh (VO.out.kept hd)
     replace hb:=hb.trans (hd.mono hb.size)
     replace V1:=Lh (V1.out.kept hd)
     replace V2:=Lh (V2.out.kept hd)
     clear hd hz ho hsa hat hlx HST hHeld
     go_wp2_with fail
     refine hK.out _ _ ⟨V1.out.range,V2.out.range⟩ (fun hHeld=>?_)
     clear hK K
     refine slotA 8 54 (.agg (gcells xg r).toArray) ?_
     simp only [S3]
     refine slotA 9 55 (.int .i64 0) ?_
     simp only [S3]
     have tR:=VO.out.there (n:=30) rfl
     obtain ⟨o6,k6⟩:=VO.out.put (gcells xg r) rfl
     have HZ:=Lh ((HZ0.out.store k6 hlo2).mono (show w.heap.size≤w7.heap.size by omega))
     have hb7:=hb.grown k6 hb.size (fun k h=>by cases h;omega)
     have rZ:=o6.range
     have h1:=V1.out.range
     have h2:=V2.out.range
     have hHeld4:(w8.setCells w.heap.size 0 (gcells xg r)).rangeAt B1 0 (tlCells t q)∧(w8.setCells w.heap.size 0 (gcells xg r)).rangeAt B2 0 (Brd.enc bb):=⟨fun j v hv=>k6.cell (h1 j v hv) (by simp;omega),fun j v hv=>k6.cell (h2 j v hv) (by simp;omega)⟩
     clear o6 k6 hb VO HZ0 h1 h2 V1 V2
     refine wpAnyH_ready (rs:=[10]) (by kernel_rfl) (by simp) ?_
     refine AllReadyH.cons (o:=_) rfl (fun K hK=>?_) AllReadyH.nil
     refine mk_store rfl rfl 37 (.tmp 8) (.tmp 54) rfl w.heap.size 0 (gcells xg r).toArray rfl rfl tR (size_game _ _) (all_oneCell_toArray (gcells_all1 _ _)) ?_
     refine hK.out _ _ hHeld4 (fun hHeld5=>?_)
     change wpAnyH _ _ _ _ _ _ _ _ (w8.setCells w.heap.size 0 (gcells xg r))
     clear hK K tR hHeld4 hHeld
     generalize w8.setCells w.heap.size 0 (gcells xg r)=wZ at *
     refine slotA 11 9 (.int .i64 0) ?_
     simp only [S3]
     refine wpAnyH_done (by kernel_rfl) ?_ _
     clear hHeld5
     have HV:=Lh (run_loadVar_mid (P:=Tryz.prog) wZ w.heap.size 0 37 (gcells xg r) _ rZ Tryz.underlying37 rfl (size_game _ _))
     clear rZ
     go_wp2
     refine bodyPost_ret (results_cell_tmp_var Tryz.results6 _ _ _ _ rfl HV.out) rfl ?_
     exact ⟨r,rfl,HZ.out,HO.out,hb7⟩
end Go.Proofs.YtgphkffbbmmmmaaGreatDoor
