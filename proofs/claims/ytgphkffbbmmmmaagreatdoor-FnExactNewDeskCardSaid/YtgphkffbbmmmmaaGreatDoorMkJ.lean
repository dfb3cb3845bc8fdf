/- Contract: the reference starts a game, where all is well. -/
import Derived.Test.YtgphkffbbmmmmaaGreatDoorMkQ
import Derived.Test.YtgphkffbbmmmmaaGreatDoorMkX
import Derived.Test.YtgphkffbbmmmmaaGreatDoorGmR
import Derived.Test.YtgphkffbbmmmmaaGreatDoorGpI
set_option maxRecDepth 100000
set_option maxHeartbeats 8000000
namespace Go.Proofs.YtgphkffbbmmmmaaGreatDoor
open Go.ChangeShapes Go.WideShapes Go.ChangeAt Go.RowKit Go.Sort

/-- a game of the call's own, and a code -/
def StartPost (x:Gam) (w:World) (e:Ending) (w':World):Prop :=
 ∃ r:GaA,e=.returned (.tuple #[.agg (gcells x r).toArray,.int .i64 0])∧x.Z r w.heap.size w'∧x.Off r∧Below w.heap.size w w'
theorem sat_new (w:World) (s:Stp) (q:StA) (t:TypeId) (h:s.At q w):SAt (w.alloc (.cells (scells s q).toArray t)) w.heap.size s q :=
 have V:=VarAt.new w t (scells s q)
 have hb:Below w.heap.size w (w.alloc (.cells (scells s q).toArray t)):=(Below.refl _ _).alloc (Nat.le_refl _) _
 ⟨⟨⟨V.cell (i:=0) rfl,V.cell (i:=1) rfl,V.cell (i:=2) rfl,V.cell (i:=3) rfl⟩,Tls.At.kept h.1 hb⟩,V.cell (i:=4) rfl,h.2.kept hb,⟨V.cell (i:=5) rfl,V.cell (i:=6) rfl,V.cell (i:=7) rfl⟩,V.cell (i:=8) rfl,V.cell (i:=9) rfl⟩
/-- a game whose rows are not there yet -/
def g1 (s:Stp) (bag:List UInt8):Gam:=⟨s,s.board,mkB (bag.drop 14),[],[],[],0,0,noLst,false⟩
def nrow:Rwa:=⟨none,0⟩
theorem bag_cut (bag:List UInt8):(mkB bag).extract 14 (mkB bag).size=mkB (bag.drop 14)∧(mkB bag).extract 0 7=mkB (bag.take 7)∧(mkB bag).extract 7 14=mkB ((bag.take 14).drop 7):=by
 refine ⟨?_,?_,?_⟩
 ·rw [← mkB_of ((mkB bag).extract 14 (mkB bag).size),Lib.extract_to_end,mkB_data]
 ·rw [← mkB_of ((mkB bag).extract 0 7)]
  congr 1
  simp [mkB_data]
 ·rw [← mkB_of ((mkB bag).extract 7 14)]
  congr 1
  simp [mkB_data,List.drop_take]
theorem sort_any {l:List UInt8} (h:l.all tileB=true) (hl:l.length≤1048576) (w:World):Calls Tryz.prog 63 #[.string (mkB l)] w fun e w'=>e=.returned (.string (mkB (srtL l)))∧Below w.heap.size w w':=by
 refine (l03Sort_any (mkB l) w (by rw [mkB_size];exact hl)).mono ?_
 rintro e w' ⟨R,rfl,h1,h2,hd⟩
 rw [mkB_data] at h2
 rw [srt_of h h1 h2]
 exact ⟨rfl,hd⟩
theorem all_tk {l:List UInt8} (h:l.all tileB=true) (n:Nat):(l.take n).all tileB=true:=List.all_eq_true.2 fun c hc=>List.all_eq_true.1 h c (List.mem_of_mem_take hc)
theorem all_dp {l:List UInt8} (h:l.all tileB=true) (n:Nat):(l.drop n).all tileB=true:=List.all_eq_true.2 fun c hc=>List.all_eq_true.1 h c (List.mem_of_mem_drop hc)
theorem own_two (w:World) (a b:Int):(w.alloc (.cells #[.int .i64 a,.int .i64 b] 2)).ownsRow w.heap.size 2 1 (.slice (some ⟨w.heap.size,0,none⟩) 2 2) 2 ([a,b].flatMap I64.enc) :=
 ⟨by simp [I64.enc],.inr ⟨w.heap.size,2,#[.int .i64 a,.int .i64 b],rfl,Nat.le_refl _,heap_alloc_new w _,Nat.le_refl _,by unfold maxLen;omega,by simp,by simp [I64.enc]⟩⟩
theorem start_box {w:World} {base g:Nat} {s:Stp} {r:StA} {bd:ByteArray} (V:VarAt w g 37 (gcells ⟨s,s.board,bd,[],[],[],0,0,noLst,false⟩ ⟨r,nrow,nrow,nrow⟩)) (hz:s.Z r base w) (ho:s.Off r) (hlo:base≤g) (hap:∀ t∈s.effs r,offA (some ⟨g,0,none⟩) t) :
  GBox w base g ⟨s,s.board,bd,[],[],[],0,0,noLst,false⟩ ⟨r,nrow,nrow,nrow⟩:=by
 refine ⟨V,⟨hz,.inl rfl,.inl rfl,.inl rfl⟩,⟨ho,fun t _=>offA_none2 t,fun t _=>offA_none2 t,fun t _=>offA_none2 t,offA_none _,offA_none _,offA_none _⟩,hlo,?_⟩
 intro t ht
 rcases List.mem_append.1 ht with ht | ht
 ·exact hap t ht
 ·simp only [List.mem_cons,List.not_mem_nil,or_false] at ht
  rcases ht with rfl | rfl | rfl<;>exact offA_none2 _
theorem specStart_any (s:Stp) (q:StA) (bag:List UInt8) (w:World) (ha:s.At q w) (hok:s.ok=true) (hbf:BagFor s.tiles bag) (hf:s.fit) (hsm:s.small) :
  Calls Tryz.prog 26 #[.agg (scells s q).toArray,.string (mkB bag)] w (StartPost (startG s bag) w):=by
 have hb:Below w.heap.size w (w.alloc (.cells (scells s q).toArray 31)):=(Below.refl _ _).alloc (Nat.le_refl _) _
 have HS:=Lh (sat_new w s q 31 ha)
 have HOK:Hid (∀ W,SAt W w.heap.size s q→Calls Tryz.prog 61 #[.pointer (some ⟨w.heap.size,0,none⟩)] W fun e w'=>e=.returned (.bool true)∧Below W.heap.size W w'):=Lh (fun W h=>by have:=l18Setup_any s q w.heap.size W h hf;rwa [hok] at this)
 have HBG:Hid (∀ W,Calls Tryz.prog 62 #[.string (mkB bag)] W fun e w'=>e=.returned (.bool true)∧W=w'):=Lh (fun W=>by have:=l17Ok_any (mkB bag) W (by rw [mkB_size];have:=hbf.high;omega);rwa [mkB_data,hbf.ok] at this)
 have HSB:Hid (∀ W,Calls Tryz.prog 63 #[.string (mkB bag)] W fun e w'=>e=.returned (.string (mkB (allL s.tiles)))∧Below W.heap.size W w'):=Lh (fun W=>by have:=sort_any hbf.tiles (by have:=hbf.high;omega) W;rwa [hbf.srt] at this)
 have HAL:Hid (∀ W,SAt W w.heap.size s q→Calls Tryz.prog 60 #[.pointer (some ⟨w.heap.size,0,none⟩)] W fun e w'=>e=.returned (.string (mkB (allL s.tiles)))∧Below W.heap.size W w'):=Lh (fun W h=>l02All_any s.tiles q.tiles w.heap.size W h.tiles (Stp.good hok).tiles)
 obtain ⟨e14,e07,e714⟩:=bag_cut bag
 have HE14:=Lh e14
 have HE07:=Lh e07
 have HE714:=Lh e714
 have HS7:Hid (∀ W,Calls Tryz.prog 63 #[.string (mkB (bag.take 7))] W fun e w'=>e=.returned (.string (mkB (srtL (bag.take 7))))∧Below W.heap.size W w'):=Lh (fun W=>sort_any (all_tk hbf.tiles 7) (by have:=hbf.high;rw [List.length_take];omega) W)
 have HS14:Hid (∀ W,Calls Tryz.prog 63 #[.string (mkB ((bag.take 14).drop 7))] W fun e w'=>e=.returned (.string (mkB (srtL ((bag.take 14).drop 7))))∧Below W.heap.size W w'):=Lh (fun W=>sort_any (all_dp (all_tk hbf.tiles 14) 7) (by have:=hbf.high;rw [List.length_drop,List.length_take];omega) W)
 have HOW:Hid (∀ W,SAt W w.heap.size s q→Calls Tryz.prog 64 #[.pointer (some ⟨w.heap.size,0,none⟩)] W (StpPost s W)):=Lh (fun W h=>l18OwnSetup_any s q w.heap.size W h hsm)
 have hz1:14≤(mkB bag).size:=by rw [mkB_size];exact hbf.low
 have hz2:(mkB bag).size≤120:=by rw [mkB_size];exact hbf.high
 have HX0:Hid (g1 s bag=⟨s,s.board,mkB (bag.drop 14),[],[],[],0,0,noLst,false⟩):=Lh rfl
 have HXE:Hid (startG s bag=⟨s,s.board,mkB (bag.drop 14),[mkB (srtL (bag.take 7)),mkB (srtL ((bag.take 14).drop 7))],[0,0],[s.seconds,s.seconds],0,0,noLst,false⟩):=Lh rfl
 clear e14 e07 e714 ha hok hbf hf hsm
 rw [HXE.out]
 generalize mkB (bag.drop 14)=bd at *
 generalize mkB (bag.take 7)=b7 at *
 generalize mkB ((bag.take 14).drop 7)=b14 at *
 generalize mkB (srtL (bag.take 7))=r0 at *
 generalize mkB (srtL ((bag.take 14).drop 7))=r1 at *
 generalize mkB bag=bg at *
 generalize mkB (allL s.tiles)=al at *
 have hq:(al.toList != al.toList)=false:=by simp
 obtain ⟨cs,hcs⟩:∃ cs,cs=scells s q:=⟨_,rfl⟩
 have HRC:Hid (∀ W,SAt W w.heap.size s q→W.rangeAt w.heap.size 0 cs):=Lh (fun W h=>by rw [hcs];exact h.scells)
 have HBD:Hid (∀ W:World,W.rangeAt w.heap.size 0 cs→W.rangeAt w.heap.size 5 (Brd.enc s.board)):=Lh (fun W h=>by rw [hcs] at h;exact scells_board h)
 rw [← hcs] at hb HS
 rw [← hcs]
 clear hcs HX0 HXE
 go_enter Tryz.func26,Tryz.ntmps26
 go_upto_region 1 with fail
 change Code.wp _ _ _ _ ((w.alloc (.cells cs.toArray 31)).alloc (.cells gnone.toArray 37))
 have hd:Below (w.alloc (.cells cs.toArray 31)).heap.size (w.alloc (.cells cs.toArray 31)) ((w.alloc (.cells cs.toArray 31)).alloc (.cells gnone.toArray 37)):=(Below.refl _ _).alloc (Nat.le_refl _) _
 have VO:=Lh (VarAt.new (w.alloc (.cells cs.toArray 31)) 37 gnone)
 rw [show (w.alloc (.cells cs.toArray 31)).heap.size=w.heap.size+1 from by simp] at VO
 replace HS:=Lh (HS.out.kept hd)
 replace hb:=hb.trans (hd.mono hb.size)
 clear hd
 generalize (w.alloc (.cells cs.toArray 31)).alloc (.cells gnone.toArray 37)=w1 at *
 go_wp2_with fail
 refine (HOK.out _ HS.out).mono ?_
 rintro e w2 ⟨rfl,hd⟩
 replace HS:=Lh (HS.out.kept hd)
 replace VO:=Lh (VO.out.kept hd)
 replace hb:=hb.trans (hd.mono hb.size)
 clear hd HOK
 go_wp2_with fail
 refine (HBG.out _).mono ?_
 rintro e w3 ⟨rfl,rfl⟩
 clear HBG
 go_wp2_with fail
 refine (HSB.out _).mono ?_
 rintro e w4 ⟨rfl,hd⟩
 replace HS:=Lh (HS.out.kept hd)
 replace VO:=Lh (VO.out.kept hd)
 replace hb:=hb.trans (hd.mono hb.size)
 clear hd HSB
 go_wp2_with fail
 refine (HAL.out _ HS.out).mono ?_
 rintro e w5 ⟨rfl,hd⟩
 replace HS:=Lh (HS.out.kept hd)
 replace VO:=Lh (VO.out.kept hd)
 replace hb:=hb.trans (hd.mono hb.size)
 clear hd HAL
 have hzi:¬ (bg.size:Int) < 14:=by omega
 go_upto_region 7 with fail
 clear hq hzi
 have hd:Below w5.heap.size w5 w5.drew:=(Below.refl _ _).drew
 replace HS:=Lh (HS.out.kept hd)
 replace VO:=Lh (VO.out.kept hd)
 replace hb:=hb.trans (hd.mono hb.size)
 clear hd
 have hz3:bg.size≤9223372036854775807:=by omega
 have hz4:(14:Int)≤(bg.size:Int):=by omega
 refine wp_region_held_drew (S:=fun W=>W.rangeAt w.heap.size 0 cs) (by kernel_rfl) (HRC.out _ HS.out) (fun hHeld=>?_)
 generalize w5.drew=wd at *
 refine slotA 1 26 (.pointer (some ⟨w.heap.size,5,none⟩)) ?_
 simp only [S3]
 refine slotA 2 27 (.agg (Brd.enc s.board).toArray) ?_ (hy:=yieldsIf_load_mid (by rfl) 29 _ rfl w.heap.size 5 rfl (Brd.enc s.board) _ (fun w' hS=>HBD.out _ hS) Tryz.underlying29 rfl (by kernel_rfl))
 simp only [S3]
 refine slotA 3 28 (.string bg) ?_
 simp only [S3]
 refine slotA 4 29 (.string (bg.extract 14 bg.size)) ?_
 simp only [S3]
 rw [HE14.out]
 clear HE14 HBD
 have hwd:=VO.out.lt
 refine wpAnyH_ready (rs:=[0,6]) (by kernel_rfl) (by simp) ?_
 refine AllReadyH.cons (o:=_) rfl (fun K hK=>?_) (AllReadyH.cons (o:=_) rfl (fun K hK=>?_) AllReadyH.nil)
 ·go_simp
  refine (HOW.out _ HS.out).mono ?_
  rintro e w6 ⟨r,rfl,z1,o1,hbd⟩
  have hlo:=hbd.size
  go_wp2_with fail
  refine hK.out _ _ (HRC.out _ (HS.out.kept hbd)) (fun hHeld2=>?_)
  clear hK K hHeld HOW
  simp only [scells,Brd.enc]
  refine slotA 5 30 (.agg (gcells ⟨s,s.board,bd,[],[],[],0,0,noLst,false⟩ ⟨r,nrow,nrow,nrow⟩).toArray) ?_ (hy:=Or.inl ⟨by rfl,fun w' _=>by go_simp;rfl⟩)
  simp only [S3]
  refine wpAnyH_ready (rs:=[6]) (by kernel_rfl) (by simp) ?_
  refine AllReadyH.cons (o:=_) rfl (fun K hK=>?_) AllReadyH.nil
  have hd:Below w6.heap.size w6 (w6.alloc (.cells gnone.toArray 37)):=(Below.refl _ _).alloc (Nat.le_refl _) _
  have VG:=Lh (VarAt.new w6 37 gnone)
  have Z1:=Lh (z1.kept hd)
  have hap:∀ t∈s.effs r,offA (some ⟨w6.heap.size,0,none⟩) t:=fun t ht=>(off_of_lt (fun g h=>(z1.lt t ht g h).2) (fun g h=>by cases h;exact Nat.le_refl _)).symm
  replace hbd:=hbd.trans (hd.mono hbd.size)
  go_simp
  refine hK.out _ _ (HRC.out _ (HS.out.kept hbd)) (fun hHeld=>?_)
  clear hK K hHeld2 hd z1
  change wpAnyH _ _ _ _ _ _ _ _ (w6.alloc (.cells gnone.toArray 37))
  generalize w6.alloc (.cells gnone.toArray 37)=w7 at *
  generalize w6.heap.size=gg at *
  have hgl:=VG.out.lt
  have tR:=VG.out.there (n:=30) rfl
  obtain ⟨o6,k6⟩:=VG.out.put (gcells ⟨s,s.board,bd,[],[],[],0,0,noLst,false⟩ ⟨r,nrow,nrow,nrow⟩) rfl
  have hw6:=wrote_box k6 (Nat.le_trans hlo (Nat.le_of_lt hgl)) hlo
  have Z2:=Z1.out.wrote hw6 (fun a ha t ht=>by rw [List.mem_singleton.1 ha];exact hap t ht)
  have HB:=Lh (start_box o6 Z2 o1 hlo hap)
  replace hbd:=hbd.trans hw6.below
  refine wpAnyH_ready (rs:=[7]) (by kernel_rfl) (by simp) ?_
  refine AllReadyH.cons (o:=_) rfl (fun K hK=>?_) AllReadyH.nil
  refine mk_store rfl rfl 37 (.tmp 6) (.tmp 30) rfl gg 0 (gcells ⟨s,s.board,bd,[],[],[],0,0,noLst,false⟩ ⟨r,nrow,nrow,nrow⟩).toArray rfl rfl tR (size_game _ _) (all_oneCell_toArray (gcells_all1 _ _)) ?_
  refine hK.out _ _ (HRC.out _ (HS.out.kept hbd)) (fun _=>?_)
  change wpAnyH _ _ _ _ _ _ _ _ (w7.setCells gg 0 (gcells ⟨s,s.board,bd,[],[],[],0,0,noLst,false⟩ ⟨r,nrow,nrow,nrow⟩))
  clear hK K hHeld tR o6 k6 hw6 Z2 Z1 VG hap o1 HRC
  generalize w7.setCells gg 0 (gcells ⟨s,s.board,bd,[],[],[],0,0,noLst,false⟩ ⟨r,nrow,nrow,nrow⟩)=w8 at *
  refine wpAnyH_done (by kernel_rfl) ?_ _
  go_upto_region 8 with fail
  have hz5:(7:Int)≤(bg.size:Int):=by omega
  have hd:Below w8.heap.size w8 w8.drew:=(Below.refl _ _).drew
  replace HB:=Lh (HB.out.kept hd)
  replace hbd:=hbd.trans (hd.mono hbd.size)
  clear hd
  refine wp_region_held_drew (S:=fun _=>True) (by kernel_rfl) trivial (fun hHeld=>?_)
  generalize w8.drew=we at *
  refine slotA 0 31 (.string bg) ?_
  simp only [S3]
  refine slotA 1 32 (.string (bg.extract 0 7)) ?_
  simp only [S3]
  rw [HE07.out]
  refine slotA 3 34 (.string bg) ?_
  simp only [S3]
  refine slotA 4 35 (.string (bg.extract 7 14)) ?_
  simp only [S3]
  rw [HE714.out]
  refine wpAnyH_ready (rs:=[2]) (by kernel_rfl) (by simp) ?_
  refine AllReadyH.cons (o:=_) rfl (fun K hK=>?_) AllReadyH.nil
  go_simp
  refine (HS7.out _).mono ?_
  rintro e wf ⟨rfl,hd⟩
  replace HB:=Lh (HB.out.kept hd)
  replace hbd:=hbd.trans (hd.mono hbd.size)
  clear hd hHeld HS7
  go_wp2_with fail
  refine hK.out _ _ trivial (fun hHeld=>?_)
  clear hK K
  refine wpAnyH_ready (rs:=[5]) (by kernel_rfl) (by simp) ?_
  refine AllReadyH.cons (o:=_) rfl (fun K hK=>?_) AllReadyH.nil
  go_simp
  refine (HS14.out _).mono ?_
  rintro e wg ⟨rfl,hd⟩
  replace HB:=Lh (HB.out.kept hd)
  replace hbd:=hbd.trans (hd.mono hbd.size)
  clear hd hHeld HS14
  go_wp2_with fail
  refine hK.out _ _ trivial (fun hHeld=>?_)
  clear hK K
  refine wpAnyH_ready (rs:=[6]) (by kernel_rfl) (by simp) ?_
  refine AllReadyH.cons (o:=_) rfl (fun K hK=>?_) AllReadyH.nil
  have hd:Below wg.heap.size wg (wg.alloc (.cells #[.string r0,.string r1] 9)):=(Below.refl _ _).alloc (Nat.le_refl _) _
  have hO:TZ (wg.alloc (.cells #[.string r0,.string r1] 9)) wd.heap.size (some ⟨wg.heap.size,0,none⟩) 2 [r0,r1]:=.inr (own_mono (own_new_texts wg [r0,r1] 9 (by simp)) hbd.size)
  obtain ⟨f1,f2⟩:=HB.out.front (b:=effA (some (⟨wg.heap.size,0,none⟩:Addr)) [r0,r1]) (fun k hk=>by rw [effA_some _ (by simp)] at hk;cases hk;exact Nat.le_refl _)
  replace HB:=Lh (HB.out.kept hd)
  replace hbd:=hbd.trans (hd.mono hbd.size)
  go_simp
  refine hK.out _ _ trivial (fun hHeld2=>?_)
  clear hK K hHeld hd
  change wpAnyH _ _ _ _ _ _ _ _ (wg.alloc (.cells #[.string r0,.string r1] 9))
  generalize wg.alloc (.cells #[.string r0,.string r1] 9)=wh at *
  generalize wg.heap.size=B1 at *
  refine slotA 7 38 (.pointer (some ⟨gg,14,none⟩)) ?_
  simp only [S3]
  have c14:=HB.out.cell (i:=14) rfl
  have f14:=HB.out.free 14
  obtain ⟨h9,b9⟩:=HB.out.newRacks ⟨some ⟨B1,0,none⟩,2⟩ [r0,r1] hO f1 f2
  replace HB:Hid (GBox (wh.setCell ⟨gg,14,none⟩ (.slice (some ⟨B1,0,none⟩) 2 2)) wd.heap.size gg ⟨s,s.board,bd,[r0,r1],[],[],0,0,noLst,false⟩ ⟨r,⟨some ⟨B1,0,none⟩,2⟩,nrow,nrow⟩):=Lh h9
  replace hbd:Below wd.heap.size wd (wh.setCell ⟨gg,14,none⟩ (.slice (some ⟨B1,0,none⟩) 2 2)):=hbd.trans b9
  clear hO f1 f2 h9 b9
  refine wpAnyH_ready (rs:=[8]) (by kernel_rfl) (by simp) ?_
  refine AllReadyH.cons (o:=_) rfl (fun K hK=>?_) AllReadyH.nil
  go_simp
  refine hK.out _ _ trivial (fun _=>?_)
  clear hK K hHeld2 c14 f14
  change wpAnyH _ _ _ _ _ _ _ _ (wh.setCell ⟨gg,14,none⟩ (.slice (some ⟨B1,0,none⟩) 2 2))
  generalize wh.setCell ⟨gg,14,none⟩ (.slice (some ⟨B1,0,none⟩) 2 2)=wi at *
  refine wpAnyH_done (by kernel_rfl) ?_ _
  have hd:Below wi.heap.size wi (wi.alloc (.cells #[.int .i64 0,.int .i64 0] 2)):=(Below.refl _ _).alloc (Nat.le_refl _) _
  have hO:IZ (wi.alloc (.cells #[.int .i64 0,.int .i64 0] 2)) wd.heap.size (some ⟨wi.heap.size,0,none⟩) 2 [0,0]:=.inr (own_mono (own_two wi 0 0) hbd.size)
  obtain ⟨f1,f2⟩:=HB.out.front (b:=effA (some (⟨wi.heap.size,0,none⟩:Addr)) ([0,0]:List Int)) (fun k hk=>by rw [effA_some _ (by simp)] at hk;cases hk;exact Nat.le_refl _)
  replace HB:=Lh (HB.out.kept hd)
  replace hbd:=hbd.trans (hd.mono hbd.size)
  clear hd
  have c15:=HB.out.cell (i:=15) rfl
  have f15:=HB.out.free 15
  obtain ⟨h9,b9⟩:=HB.out.newScores ⟨some ⟨wi.heap.size,0,none⟩,2⟩ [0,0] hO f1 f2
  replace HB:Hid (GBox ((wi.alloc (.cells #[.int .i64 0,.int .i64 0] 2)).setCell ⟨gg,15,none⟩ (.slice (some ⟨wi.heap.size,0,none⟩) 2 2)) wd.heap.size gg ⟨s,s.board,bd,[r0,r1],[0,0],[],0,0,noLst,false⟩ ⟨r,⟨some ⟨B1,0,none⟩,2⟩,⟨some ⟨wi.heap.size,0,none⟩,2⟩,nrow⟩):=Lh h9
  replace hbd:Below wd.heap.size wd ((wi.alloc (.cells #[.int .i64 0,.int .i64 0] 2)).setCell ⟨gg,15,none⟩ (.slice (some ⟨wi.heap.size,0,none⟩) 2 2)):=hbd.trans b9
  clear hO f1 f2 h9 b9
  go_upto_region 10 with fail
  clear c15 f15
  generalize (wi.alloc (.cells #[.int .i64 0,.int .i64 0] 2)).setCell ⟨gg,15,none⟩ (.slice (some ⟨wi.heap.size,0,none⟩) 2 2)=wj at *
  generalize wi.heap.size=B2 at *
  have c8:=(HS.out.kept hbd).seconds
  have hd:Below wj.heap.size wj (wj.alloc (.cells #[.int .i64 s.seconds,.int .i64 s.seconds] 2)):=(Below.refl _ _).alloc (Nat.le_refl _) _
  have hO:IZ (wj.alloc (.cells #[.int .i64 s.seconds,.int .i64 s.seconds] 2)) wd.heap.size (some ⟨wj.heap.size,0,none⟩) 2 [s.seconds,s.seconds]:=.inr (own_mono (own_two wj s.seconds s.seconds) hbd.size)
  obtain ⟨f1,f2⟩:=HB.out.front (b:=effA (some (⟨wj.heap.size,0,none⟩:Addr)) [s.seconds,s.seconds]) (fun k hk=>by rw [effA_some _ (by simp)] at hk;cases hk;exact Nat.le_refl _)
  replace HB:=Lh (HB.out.kept hd)
  replace hbd:=hbd.trans (hd.mono hbd.size)
  clear hd
  have c16:=HB.out.cell (i:=16) rfl
  have f16:=HB.out.free 16
  obtain ⟨h9,b9⟩:=HB.out.newClocks ⟨some ⟨wj.heap.size,0,none⟩,2⟩ [s.seconds,s.seconds] hO f1 f2
  replace HB:Hid (GBox ((wj.alloc (.cells #[.int .i64 s.seconds,.int .i64 s.seconds] 2)).setCell ⟨gg,16,none⟩ (.slice (some ⟨wj.heap.size,0,none⟩) 2 2)) wd.heap.size gg ⟨s,s.board,bd,[r0,r1],[0,0],[s.seconds,s.seconds],0,0,noLst,false⟩ ⟨r,⟨some ⟨B1,0,none⟩,2⟩,⟨some ⟨B2,0,none⟩,2⟩,⟨some ⟨wj.heap.size,0,none⟩,2⟩⟩):=Lh h9
  replace hbd:Below wd.heap.size wd ((wj.alloc (.cells #[.int .i64 s.seconds,.int .i64 s.seconds] 2)).setCell ⟨gg,16,none⟩ (.slice (some ⟨wj.heap.size,0,none⟩) 2 2)):=hbd.trans b9
  clear hO f1 f2 h9 b9
  go_upto_region 11 with fail
  clear c16 f16 c8
  generalize (wj.alloc (.cells #[.int .i64 s.seconds,.int .i64 s.seconds] 2)).setCell ⟨gg,16,none⟩ (.slice (some ⟨wj.heap.size,0,none⟩) 2 2)=wk at *
  generalize wj.heap.size=B3 at *
  generalize hxx:(⟨s,s.board,bd,[r0,r1],[0,0],[s.seconds,s.seconds],0,0,noLst,false⟩:Gam)=x at *
  generalize (⟨r,⟨some ⟨B1,0,none⟩,2⟩,⟨some ⟨B2,0,none⟩,2⟩,⟨some ⟨B3,0,none⟩,2⟩⟩:GaA)=rr at *
  clear hxx
  have RY:=HB.out.var.range
  replace VO:=Lh (VO.out.kept hbd)
  have hb6:=hb.trans (hbd.mono hb.size)
  have tR:=VO.out.there (n:=30) rfl
  obtain ⟨o6,k6⟩:=VO.out.put (gcells x rr) rfl
  have HZ:=Lh ((HB.out.rows.store k6 hwd).mono (show w.heap.size≤wd.heap.size by omega))
  have HO:=Lh HB.out.off
  have hb7:=hb6.grown k6 hb6.size (fun k h=>by cases h;omega)
  have rZ:=o6.range
  clear o6 k6 hb hb6 hbd VO HB HS hlo hgl
  refine wp_region_list ?_
  refine wpList_load_mid rfl 37 _ rfl gg 0 rfl (gcells x rr) _ RY Tryz.underlying37 rfl (size_game _ _) ?_
  simp only [Act.put,S3]
  refine wpList_store_mid rfl 37 _ _ rfl (w.heap.size+1) 0 (gcells x rr).toArray rfl rfl tR (size_game _ _) (all_oneCell_toArray (gcells_all1 _ _)) ?_
  change wpList _ _ _ _ _ (wk.setCells (w.heap.size+1) 0 (gcells x rr))
  generalize wk.setCells (w.heap.size+1) 0 (gcells x rr)=wZ at *
  clear RY tR
  have HV:=Lh (run_loadVar_mid (P:=Tryz.prog) wZ (w.heap.size+1) 0 37 (gcells x rr) _ rZ Tryz.underlying37 rfl (size_game _ _))
  clear rZ
  go_wp2
  refine bodyPost_ret (results_cell_tmp_var Tryz.results26 _ _ _ _ rfl HV.out) rfl ?_
  exact ⟨rr,rfl,HZ.out,HO.out,hb7⟩
 ·have hbd:Below wd.heap.size wd (wd.alloc (.cells gnone.toArray 37)):=(Below.refl _ _).alloc (Nat.le_refl _) _
  have VG:=Lh (VarAt.new wd 37 gnone)
  go_simp
  refine hK.out _ _ (HRC.out _ (HS.out.kept hbd)) (fun hHeld2=>?_)
  clear hK K hHeld
  change wpAnyH _ _ _ _ _ _ _ _ (wd.alloc (.cells gnone.toArray 37))
  generalize wd.alloc (.cells gnone.toArray 37)=w6 at *
  obtain ⟨gg,hgg⟩:∃ g,g=wd.heap.size:=⟨_,rfl⟩
  rw [← hgg]
  rw [← hgg] at VG
  have hlo:wd.heap.size≤gg:=by omega
  clear hgg
  have hg6:=VG.out.lt
  refine wpAnyH_ready (rs:=[0]) (by kernel_rfl) (by simp) ?_
  refine AllReadyH.cons (o:=_) rfl (fun K hK=>?_) AllReadyH.nil
  go_simp
  refine (HOW.out _ (HS.out.kept hbd)).mono ?_
  rintro e w7 ⟨r,rfl,z1,o1,hd⟩
  replace VG:=Lh (VG.out.kept hd)
  have hap:∀ t∈s.effs r,offA (some ⟨gg,0,none⟩) t:=fun t ht=>off_of_lt (fun g h=>by cases h;exact hg6) (fun g h=>(z1.lt t ht g h).1)
  have Z1:=Lh (z1.mono hbd.size)
  replace hbd:=hbd.trans (hd.mono hbd.size)
  clear z1 hd hg6
  go_wp2_with fail
  refine hK.out _ _ (HRC.out _ (HS.out.kept hbd)) (fun hHeld=>?_)
  clear hK K hHeld2 HOW
  simp only [scells,Brd.enc]
  refine slotA 5 30 (.agg (gcells ⟨s,s.board,bd,[],[],[],0,0,noLst,false⟩ ⟨r,nrow,nrow,nrow⟩).toArray) ?_ (hy:=Or.inl ⟨by rfl,fun w' _=>by go_simp;rfl⟩)
  simp only [S3]
  have hgl:=VG.out.lt
  have tR:=VG.out.there (n:=30) rfl
  obtain ⟨o6,k6⟩:=VG.out.put (gcells ⟨s,s.board,bd,[],[],[],0,0,noLst,false⟩ ⟨r,nrow,nrow,nrow⟩) rfl
  have hw6:=wrote_box k6 (Nat.le_trans hlo (Nat.le_of_lt hgl)) hlo
  have Z2:=Z1.out.wrote hw6 (fun a ha t ht=>by rw [List.mem_singleton.1 ha];exact hap t ht)
  have HB:=Lh (start_box o6 Z2 o1 hlo hap)
  replace hbd:=hbd.trans hw6.below
  refine wpAnyH_ready (rs:=[7]) (by kernel_rfl) (by simp) ?_
  refine AllReadyH.cons (o:=_) rfl (fun K hK=>?_) AllReadyH.nil
  refine mk_store rfl rfl 37 (.tmp 6) (.tmp 30) rfl gg 0 (gcells ⟨s,s.board,bd,[],[],[],0,0,noLst,false⟩ ⟨r,nrow,nrow,nrow⟩).toArray rfl rfl tR (size_game _ _) (all_oneCell_toArray (gcells_all1 _ _)) ?_
  refine hK.out _ _ (HRC.out _ (HS.out.kept hbd)) (fun _=>?_)
  change wpAnyH _ _ _ _ _ _ _ _ (w7.setCells gg 0 (gcells ⟨s,s.board,bd,[],[],[],0,0,noLst,false⟩ ⟨r,nrow,nrow,nrow⟩))
  clear hK K hHeld tR o6 k6 hw6 Z2 Z1 VG hap o1 HRC
  generalize w7.setCells gg 0 (gcells ⟨s,s.board,bd,[],[],[],0,0,noLst,false⟩ ⟨r,nrow,nrow,nrow⟩)=w8 at *
  refine wpAnyH_done (by kernel_rfl) ?_ _
  go_upto_region 8 with fail
  have hz5:(7:Int)≤(bg.size:Int):=by omega
  have hd:Below w8.heap.size w8 w8.drew:=(Below.refl _ _).drew
  replace HB:=Lh (HB.out.kept hd)
  replace hbd:=hbd.trans (hd.mono hbd.size)
  clear hd
  refine wp_region_held_drew (S:=fun _=>True) (by kernel_rfl) trivial (fun hHeld=>?_)
  generalize w8.drew=we at *
  refine slotA 0 31 (.string bg) ?_
  simp only [S3]
  refine slotA 1 32 (.string (bg.extract 0 7)) ?_
  simp only [S3]
  rw [HE07.out]
  refine slotA 3 34 (.string bg) ?_
  simp only [S3]
  refine slotA 4 35 (.string (bg.extract 7 14)) ?_
  simp only [S3]
  rw [HE714.out]
  refine wpAnyH_ready (rs:=[2]) (by kernel_rfl) (by simp) ?_
  refine AllReadyH.cons (o:=_) rfl (fun K hK=>?_) AllReadyH.nil
  go_simp
  refine (HS7.out _).mono ?_
  rintro e wf ⟨rfl,hd⟩
  replace HB:=Lh (HB.out.kept hd)
  replace hbd:=hbd.trans (hd.mono hbd.size)
  clear hd hHeld HS7
  go_wp2_with fail
  refine hK.out _ _ trivial (fun hHeld=>?_)
  clear hK K
  refine wpAnyH_ready (rs:=[5]) (by kernel_rfl) (by simp) ?_
  refine AllReadyH.cons (o:=_) rfl (fun K hK=>?_) AllReadyH.nil
  go_simp
  refine (HS14.out _).mono ?_
  rintro e wg ⟨rfl,hd⟩
  replace HB:=Lh (HB.out.kept hd)
  replace hbd:=hbd.trans (hd.mono hbd.size)
  clear hd hHeld HS14
  go_wp2_with fail
  refine hK.out _ _ trivial (fun hHeld=>?_)
  clear hK K
  refine wpAnyH_ready (rs:=[6]) (by kernel_rfl) (by simp) ?_
  refine AllReadyH.cons (o:=_) rfl (fun K hK=>?_) AllReadyH.nil
  have hd:Below wg.heap.size wg (wg.alloc (.cells #[.string r0,.string r1] 9)):=(Below.refl _ _).alloc (Nat.le_refl _) _
  have hO:TZ (wg.alloc (.cells #[.string r0,.string r1] 9)) wd.heap.size (some ⟨wg.heap.size,0,none⟩) 2 [r0,r1]:=.inr (own_mono (own_new_texts wg [r0,r1] 9 (by simp)) hbd.size)
  obtain ⟨f1,f2⟩:=HB.out.front (b:=effA (some (⟨wg.heap.size,0,none⟩:Addr)) [r0,r1]) (fun k hk=>by rw [effA_some _ (by simp)] at hk;cases hk;exact Nat.le_refl _)
  replace HB:=Lh (HB.out.kept hd)
  replace hbd:=hbd.trans (hd.mono hbd.size)
  go_simp
  refine hK.out _ _ trivial (fun hHeld2=>?_)
  clear hK K hHeld hd
  change wpAnyH _ _ _ _ _ _ _ _ (wg.alloc (.cells #[.string r0,.string r1] 9))
  generalize wg.alloc (.cells #[.string r0,.string r1] 9)=wh at *
  generalize wg.heap.size=B1 at *
  refine slotA 7 38 (.pointer (some ⟨gg,14,none⟩)) ?_
  simp only [S3]
  have c14:=HB.out.cell (i:=14) rfl
  have f14:=HB.out.free 14
  obtain ⟨h9,b9⟩:=HB.out.newRacks ⟨some ⟨B1,0,none⟩,2⟩ [r0,r1] hO f1 f2
  replace HB:Hid (GBox (wh.setCell ⟨gg,14,none⟩ (.slice (some ⟨B1,0,none⟩) 2 2)) wd.heap.size gg ⟨s,s.board,bd,[r0,r1],[],[],0,0,noLst,false⟩ ⟨r,⟨some ⟨B1,0,none⟩,2⟩,nrow,nrow⟩):=Lh h9
  replace hbd:Below wd.heap.size wd (wh.setCell ⟨gg,14,none⟩ (.slice (some ⟨B1,0,none⟩) 2 2)):=hbd.trans b9
  clear hO f1 f2 h9 b9
  refine wpAnyH_ready (rs:=[8]) (by kernel_rfl) (by simp) ?_
  refine AllReadyH.cons (o:=_) rfl (fun K hK=>?_) AllReadyH.nil
  go_simp
  refine hK.out _ _ trivial (fun _=>?_)
  clear hK K hHeld2 c14 f14
  change wpAnyH _ _ _ _ _ _ _ _ (wh.setCell ⟨gg,14,none⟩ (.slice (some ⟨B1,0,none⟩) 2 2))
  generalize wh.setCell ⟨gg,14,none⟩ (.slice (some ⟨B1,0,none⟩) 2 2)=wi at *
  refine wpAnyH_done (by kernel_rfl) ?_ _
  have hd:Below wi.heap.size wi (wi.alloc (.cells #[.int .i64 0,.int .i64 0] 2)):=(Below.refl _ _).alloc (Nat.le_refl _) _
  have hO:IZ (wi.alloc (.cells #[.int .i64 0,.int .i64 0] 2)) wd.heap.size (some ⟨wi.heap.size,0,none⟩) 2 [0,0]:=.inr (own_mono (own_two wi 0 0) hbd.size)
  obtain ⟨f1,f2⟩:=HB.out.front (b:=effA (some (⟨wi.heap.size,0,none⟩:Addr)) ([0,0]:List Int)) (fun k hk=>by rw [effA_some _ (by simp)] at hk;cases hk;exact Nat.le_refl _)
  replace HB:=Lh (HB.out.kept hd)
  replace hbd:=hbd.trans (hd.mono hbd.size)
  clear hd
  have c15:=HB.out.cell (i:=15) rfl
  have f15:=HB.out.free 15
  obtain ⟨h9,b9⟩:=HB.out.newScores ⟨some ⟨wi.heap.size,0,none⟩,2⟩ [0,0] hO f1 f2
  replace HB:Hid (GBox ((wi.alloc (.cells #[.int .i64 0,.int .i64 0] 2)).setCell ⟨gg,15,none⟩ (.slice (some ⟨wi.heap.size,0,none⟩) 2 2)) wd.heap.size gg ⟨s,s.board,bd,[r0,r1],[0,0],[],0,0,noLst,false⟩ ⟨r,⟨some ⟨B1,0,none⟩,2⟩,⟨some ⟨wi.heap.size,0,none⟩,2⟩,nrow⟩):=Lh h9
  replace hbd:Below wd.heap.size wd ((wi.alloc (.cells #[.int .i64 0,.int .i64 0] 2)).setCell ⟨gg,15,none⟩ (.slice (some ⟨wi.heap.size,0,none⟩) 2 2)):=hbd.trans b9
  clear hO f1 f2 h9 b9
  go_upto_region 10 with fail
  clear c15 f15
  generalize (wi.alloc (.cells #[.int .i64 0,.int .i64 0] 2)).setCell ⟨gg,15,none⟩ (.slice (some ⟨wi.heap.size,0,none⟩) 2 2)=wj at *
  generalize wi.heap.size=B2 at *
  have c8:=(HS.out.kept hbd).seconds
  have hd:Below wj.heap.size wj (wj.alloc (.cells #[.int .i64 s.seconds,.int .i64 s.seconds] 2)):=(Below.refl _ _).alloc (Nat.le_refl _) _
  have hO:IZ (wj.alloc (.cells #[.int .i64 s.seconds,.int .i64 s.seconds] 2)) wd.heap.size (some ⟨wj.heap.size,0,none⟩) 2 [s.seconds,s.seconds]:=.inr (own_mono (own_two wj s.seconds s.seconds) hbd.size)
  obtain ⟨f1,f2⟩:=HB.out.front (b:=effA (some (⟨wj.heap.size,0,none⟩:Addr)) [s.seconds,s.seconds]) (fun k hk=>by rw [effA_some _ (by simp)] at hk;cases hk;exact Nat.le_refl _)
  replace HB:=Lh (HB.out.kept hd)
  replace hbd:=hbd.trans (hd.mono hbd.size)
  clear hd
  have c16:=HB.out.cell (i:=16) rfl
  have f16:=HB.out.free 16
  obtain ⟨h9,b9⟩:=HB.out.newClocks ⟨some ⟨wj.heap.size,0,none⟩,2⟩ [s.seconds,s.seconds] hO f1 f2
  replace HB:Hid (GBox ((wj.alloc (.cells #[.int .i64 s.seconds,.int .i64 s.seconds] 2)).setCell ⟨gg,16,none⟩ (.slice (some ⟨wj.heap.size,0,none⟩) 2 2)) wd.heap.size gg ⟨s,s.board,bd,[r0,r1],[0,0],[s.seconds,s.seconds],0,0,noLst,false⟩ ⟨r,⟨some ⟨B1,0,none⟩,2⟩,⟨some ⟨B2,0,none⟩,2⟩,⟨some ⟨wj.heap.size,0,none⟩,2⟩⟩):=Lh h9
  replace hbd:Below wd.heap.size wd ((wj.alloc (.cells #[.int .i64 s.seconds,.int .i64 s.seconds] 2)).setCell ⟨gg,16,none⟩ (.slice (some ⟨wj.heap.size,0,none⟩) 2 2)):=hbd.trans b9
  clear hO f1 f2 h9 b9
  go_upto_region 11 with fail
  clear c16 f16 c8
  generalize (wj.alloc (.cells #[.int .i64 s.seconds,.int .i64 s.seconds] 2)).setCell ⟨gg,16,none⟩ (.slice (some ⟨wj.heap.size,0,none⟩) 2 2)=wk at *
  generalize wj.heap.size=B3 at *
  generalize hxx:(⟨s,s.board,bd,[r0,r1],[0,0],[s.seconds,s.seconds],0,0,noLst,false⟩:Gam)=x at *
  generalize (⟨r,⟨some ⟨B1,0,none⟩,2⟩,⟨some ⟨B2,0,none⟩,2⟩,⟨some ⟨B3,0,none⟩,2⟩⟩:GaA)=rr at *
  clear hxx
  have RY:=HB.out.var.range
  replace VO:=Lh (VO.out.kept hbd)
  have hb6:=hb.trans (hbd.mono hb.size)
  have tR:=VO.out.there (n:=30) rfl
  obtain ⟨o6,k6⟩:=VO.out.put (gcells x rr) rfl
  have HZ:=Lh ((HB.out.rows.store k6 hwd).mono (show w.heap.size≤wd.heap.size by omega))
  have HO:=Lh HB.out.off
  have hb7:=hb6.grown k6 hb6.size (fun k h=>by cases h;omega)
  have rZ:=o6.range
  clear o6 k6 hb hb6 hbd VO HB HS hlo hgl
  refine wp_region_list ?_
  refine wpList_load_mid rfl 37 _ rfl gg 0 rfl (gcells x rr) _ RY Tryz.underlying37 rfl (size_game _ _) ?_
  simp only [Act.put,S3]
  refine wpList_store_mid rfl 37 _ _ rfl (w.heap.size+1) 0 (gcells x rr).toArray rfl rfl tR (size_game _ _) (all_oneCell_toArray (gcells_all1 _ _)) ?_
  change wpList _ _ _ _ _ (wk.setCells (w.heap.size+1) 0 (gcells x rr))
  generalize wk.setCells (w.heap.size+1) 0 (gcells x rr)=wZ at *
  clear RY tR
  have HV:=Lh (run_loadVar_mid (P:=Tryz.prog) wZ (w.heap.size+1) 0 37 (gcells x rr) _ rZ Tryz.underlying37 rfl (size_game _ _))
  clear rZ
  go_wp2
  refine bodyPost_ret (results_cell_tmp_var Tryz.results26 _ _ _ _ rfl HV.out) rfl ?_
  exact ⟨rr,rfl,HZ.out,HO.out,hb7⟩
end Go.Proofs.YtgphkffbbmmmmaaGreatDoor
