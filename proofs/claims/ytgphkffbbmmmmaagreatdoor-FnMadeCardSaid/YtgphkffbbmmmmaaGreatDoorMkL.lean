/- Contract: the program starts a game, where all is well. internal/bytealg's MaxLen is a number (EnvL). -/
import Derived.Test.YtgphkffbbmmmmaaGreatDoorMkJ
import Derived.Test.YtgphkffbbmmmmaaGreatDoorGmI
import Derived.Test.YtgphkffbbmmmmaaGreatDoorLgH
set_option maxRecDepth 100000
set_option maxHeartbeats 8000000
namespace Go.Proofs.YtgphkffbbmmmmaaGreatDoor
open Go.ChangeShapes Go.WideShapes Go.ChangeAt Go.RowKit Go.Sort

theorem mk_tiles {w:World} {g:Nat} {x:Stp} {q:StA} (h:w.rangeAt g 0 (scells x q)):w.rangeAt g 0 (tlCells x.tiles q.tiles):=by
 intro j v hv
 unfold tlCells at hv
 match j,hv with
 | 0,hv=>cases hv;exact range_cell h 0 rfl
 | 1,hv=>cases hv;exact range_cell h 1 rfl
 | 2,hv=>cases hv;exact range_cell h 2 rfl
 | 3,hv=>cases hv;exact range_cell h 3 rfl
theorem sat_at {w:World} {g:Nat} {s:Stp} {q:StA} (h:SAt w g s q):s.At q w:=⟨h.tiles.2,h.lex⟩
theorem sorted_lit {l:List UInt8} (ht:l.all tileB=true) (hl:l.length≤120) (w:World):Calls Tryz.prog 73 #[.string (mkB l)] w fun e w'=>e=.returned (.string (mkB (srtL l)))∧Below w.heap.size w w':=by
 have h:=sorted_any (mkB l) w (by rw [mkB_size];omega) (by rw [mkB_data];exact ht)
 rw [mkB_data] at h
 exact h
/-- a row in front of a world's end is kept by what goes on behind -/
theorem own_front {w w':World} {base g e sz n c:Nat} {L:List Value} (h:w.ownsRow base e sz (.slice (some ⟨g,0,none⟩) n c) n L) (hb:Below w.heap.size w w') (_hg:g < w.heap.size):w'.ownsRow base e sz (.slice (some ⟨g,0,none⟩) n c) n L:=own_below h hb
theorem implStart_any (s:Stp) (q:StA) (bag:List UInt8) (w:World) (ha:s.At q w) (hok:s.ok=true) (hbf:BagFor s.tiles bag) (hf:s.fit) (hsm:s.small) (hlz:s.tiles.letters.size≤1048576) (hE:EnvL w) :
  Calls Tryz.prog 32 #[.agg (scells s q).toArray,.string (mkB bag)] w (StartPost (startG s bag) w):=by
 have hb:Below w.heap.size w (w.alloc (.cells (scells s q).toArray 31)):=(Below.refl _ _).alloc (Nat.le_refl _) _
 have HS:=Lh (sat_new w s q 31 ha)
 have HE:=Lh hE
 have HOK:Hid (∀ W,SAt W w.heap.size s q→EnvL W→Calls Tryz.prog 71 #[.agg (scells s q).toArray] W fun e w'=>e=.returned (.bool true)∧Below W.heap.size W w'):=Lh (fun W h h2=>by have:=ValidSetup_any s q W (sat_at h) hf hlz h2;rwa [hok] at this)
 have HBG:Hid (∀ W,Calls Tryz.prog 72 #[.string (mkB bag)] W fun e w'=>e=.returned (.bool true)∧W=w'):=Lh (fun W=>by have:=ValidBag_any (mkB bag) W (by rw [mkB_size];have:=hbf.high;omega);rwa [mkB_data,hbf.ok] at this)
 have HSB:Hid (∀ W,Calls Tryz.prog 73 #[.string (mkB bag)] W fun e w'=>e=.returned (.string (mkB (allL s.tiles)))∧Below W.heap.size W w'):=Lh (fun W=>by have:=sorted_lit hbf.tiles hbf.high W;rwa [hbf.srt] at this)
 have HAL:Hid (∀ W,SAt W w.heap.size s q→Calls Tryz.prog 69 #[.agg (tlCells s.tiles q.tiles).toArray] W fun e w'=>e=.returned (.string (mkB (allL s.tiles)))∧Below W.heap.size W w'):=Lh (fun W h=>allTiles_any s.tiles q.tiles W h.tiles.2 (Stp.good hok).tiles)
 obtain ⟨e14,e07,e714⟩:=bag_cut bag
 have HE14:=Lh e14
 have HE07:=Lh e07
 have HE714:=Lh e714
 have HS7:Hid (∀ W,Calls Tryz.prog 73 #[.string (mkB (bag.take 7))] W fun e w'=>e=.returned (.string (mkB (srtL (bag.take 7))))∧Below W.heap.size W w'):=Lh (fun W=>sorted_lit (all_tk hbf.tiles 7) (by have:=hbf.high;rw [List.length_take];omega) W)
 have HS14:Hid (∀ W,Calls Tryz.prog 73 #[.string (mkB ((bag.take 14).drop 7))] W fun e w'=>e=.returned (.string (mkB (srtL ((bag.take 14).drop 7))))∧Below W.heap.size W w'):=Lh (fun W=>sorted_lit (all_dp (all_tk hbf.tiles 14) 7) (by have:=hbf.high;rw [List.length_drop,List.length_take];omega) W)
 have HOW:Hid (∀ W,SAt W w.heap.size s q→Calls Tryz.prog 74 #[.agg (scells s q).toArray] W (StpPost s W)):=Lh (fun W h=>copySetup_any s q W (sat_at h) hsm)
 have hz1:14≤(mkB bag).size:=by rw [mkB_size];exact hbf.low
 have hz2:(mkB bag).size≤120:=by rw [mkB_size];exact hbf.high
 have HXE:Hid (startG s bag=⟨s,s.board,mkB (bag.drop 14),[mkB (srtL (bag.take 7)),mkB (srtL ((bag.take 14).drop 7))],[0,0],[s.seconds,s.seconds],0,0,noLst,false⟩):=Lh rfl
 have HSZ:Hid ((Tryz.prog.info? 31).map (·.size)=some (scells s q).length):=Lh (size_setup s q)
 clear e14 e07 e714 ha hok hbf hf hsm hE
 rw [HXE.out]
 generalize mkB (bag.drop 14)=bd at *
 generalize mkB (bag.take 7)=b7 at *
 generalize mkB ((bag.take 14).drop 7)=b14 at *
 generalize mkB (srtL (bag.take 7))=r0 at *
 generalize mkB (srtL ((bag.take 14).drop 7))=r1 at *
 generalize mkB bag=bg at *
 generalize mkB (allL s.tiles)=al at *
 have hq:(al.toList != al.toList)=false:=by simp
 obtain ⟨cs,hcs⟩:∃ cs,cs=scells s q:=⟨_,rfl⟩
 have HRC:Hid (∀ W,SAt W w.heap.size s q→W.rangeAt w.heap.size 0 cs):=Lh (fun W h=>by rw [hcs];exact h.scells)
 have HBD:Hid (∀ W:World,W.rangeAt w.heap.size 0 cs→W.rangeAt w.heap.size 5 (Brd.enc s.board)):=Lh (fun W h=>by rw [hcs] at h;exact scells_board h)
 have HTD:Hid (∀ W:World,W.rangeAt w.heap.size 0 cs→W.rangeAt w.heap.size 0 (tlCells s.tiles q.tiles)):=Lh (fun W h=>by rw [hcs] at h;exact mk_tiles h)
 have HSD:Hid (∀ W:World,W.rangeAt w.heap.size 0 cs→W.cell? ⟨w.heap.size,8,none⟩=some (.int .i64 s.seconds)):=Lh (fun W h=>by rw [hcs] at h;exact range_cell h 8 rfl)
 rw [← hcs] at hb HS HOK HOW HSZ
 rw [← hcs]
 clear hcs HXE
 go_enter Tryz.func32,Tryz.ntmps32
 go_upto_region 1 with fail
 change Code.wp _ _ _ _ ((w.alloc (.cells cs.toArray 31)).alloc (.cells gnone.toArray 37))
 have hd:Below (w.alloc (.cells cs.toArray 31)).heap.size (w.alloc (.cells cs.toArray 31)) ((w.alloc (.cells cs.toArray 31)).alloc (.cells gnone.toArray 37)):=(Below.refl _ _).alloc (Nat.le_refl _) _
 have VO:=Lh (VarAt.new (w.alloc (.cells cs.toArray 31)) 37 gnone)
 rw [show (w.alloc (.cells cs.toArray 31)).heap.size=w.heap.size+1 from by simp] at VO
 replace HS:=Lh (HS.out.kept hd)
 replace hb:=hb.trans (hd.mono hb.size)
 clear hd
 generalize (w.alloc (.cells cs.toArray 31)).alloc (.cells gnone.toArray 37)=w1 at *
 refine wp_region_list ?_
 refine wpList_load_mid rfl 31 _ rfl w.heap.size 0 rfl cs _ (HRC.out _ HS.out) Tryz.underlying31 rfl HSZ.out ?_
 go_wp2_with fail
 refine (HOK.out _ HS.out (HE.out.kept hb)).mono ?_
 rintro e w2 ⟨rfl,hd⟩
 replace HS:=Lh (HS.out.kept hd)
 replace VO:=Lh (VO.out.kept hd)
 replace hb:=hb.trans (hd.mono hb.size)
 clear hd HOK HE
 go_wp2_with fail
 refine (HBG.out _).mono ?_
 rintro e w3 ⟨rfl,rfl⟩
 clear HBG
 go_upto_region 3 with fail
 have hd:Below w2.heap.size w2 w2.drew:=(Below.refl _ _).drew
 replace HS:=Lh (HS.out.kept hd)
 replace VO:=Lh (VO.out.kept hd)
 replace hb:=hb.trans (hd.mono hb.size)
 clear hd
 refine wp_region_held_drew (S:=fun W=>W.rangeAt w.heap.size 0 cs) (by kernel_rfl) (HRC.out _ HS.out) (fun hHeld=>?_)
 generalize w2.drew=wa at *
 refine slotA 0 18 (.string bg) ?_
 simp only [S3]
 refine slotA 2 20 (.pointer (some ⟨w.heap.size,0,none⟩)) ?_
 simp only [S3]
 refine slotA 3 21 (.agg (tlCells s.tiles q.tiles).toArray) ?_ (hy:=yieldsIf_load_mid (by rfl) 24 _ rfl w.heap.size 0 rfl (tlCells s.tiles q.tiles) _ (fun w' hS=>HTD.out _ hS) Tryz.underlying24 rfl (by kernel_rfl))
 simp only [S3]
 refine wpAnyH_ready (rs:=[1]) (by kernel_rfl) (by simp) ?_
 refine AllReadyH.cons (o:=_) rfl (fun K hK=>?_) AllReadyH.nil
 go_simp
 refine (HSB.out _).mono ?_
 rintro e w4 ⟨rfl,hd⟩
 replace HS:=Lh (HS.out.kept hd)
 replace VO:=Lh (VO.out.kept hd)
 replace hb:=hb.trans (hd.mono hb.size)
 clear hd HSB hHeld
 go_wp2_with fail
 refine hK.out _ _ (HRC.out _ HS.out) (fun hHeld=>?_)
 clear hK K
 refine wpAnyH_ready (rs:=[4]) (by kernel_rfl) (by simp) ?_
 refine AllReadyH.cons (o:=_) rfl (fun K hK=>?_) AllReadyH.nil
 go_simp
 refine (HAL.out _ HS.out).mono ?_
 rintro e w5 ⟨rfl,hd⟩
 replace HS:=Lh (HS.out.kept hd)
 replace VO:=Lh (VO.out.kept hd)
 replace hb:=hb.trans (hd.mono hb.size)
 clear hd HAL hHeld
 go_wp2_with fail
 refine hK.out _ _ (HRC.out _ HS.out) (fun hHeld=>?_)
 clear hK K
 refine slotA 5 23 (.bool false) ?_
 simp only [S3]
 refine slotA 6 17 (.bool false) ?_
 simp only [S3]
 refine wpAnyH_done (by kernel_rfl) ?_ _
 clear hHeld HTD
 have hzi:¬ (bg.size:Int) < 14:=by omega
 go_upto_region 7 with fail
 clear hq hzi
 have hd:Below w5.heap.size w5 w5.drew:=(Below.refl _ _).drew
 replace HS:=Lh (HS.out.kept hd)
 replace VO:=Lh (VO.out.kept hd)
 replace hb:=hb.trans (hd.mono hb.size)
 clear hd
 have hz3:bg.size≤9223372036854775807:=by omega
 have hz4:(14:Int)≤(bg.size:Int):=by omega
 have hz5:(7:Int)≤(bg.size:Int):=by omega
 refine wp_region_held_drew (S:=fun _=>True) (by kernel_rfl) trivial (fun hHeld=>?_)
 generalize w5.drew=we at *
 refine slotA 0 30 (.string bg) ?_
 simp only [S3]
 refine slotA 1 31 (.string (bg.extract 0 7)) ?_
 simp only [S3]
 rw [HE07.out]
 refine slotA 3 33 (.string bg) ?_
 simp only [S3]
 refine slotA 4 34 (.string (bg.extract 7 14)) ?_
 simp only [S3]
 rw [HE714.out]
 refine wpAnyH_ready (rs:=[2]) (by kernel_rfl) (by simp) ?_
 refine AllReadyH.cons (o:=_) rfl (fun K hK=>?_) AllReadyH.nil
 go_simp
 refine (HS7.out _).mono ?_
 rintro e wf ⟨rfl,hd⟩
 replace HS:=Lh (HS.out.kept hd)
 replace VO:=Lh (VO.out.kept hd)
 replace hb:=hb.trans (hd.mono hb.size)
 clear hd hHeld HS7
 go_wp2_with fail
 refine hK.out _ _ trivial (fun hHeld=>?_)
 clear hK K
 refine wpAnyH_ready (rs:=[5]) (by kernel_rfl) (by simp) ?_
 refine AllReadyH.cons (o:=_) rfl (fun K hK=>?_) AllReadyH.nil
 go_simp
 refine (HS14.out _).mono ?_
 rintro e wg ⟨rfl,hd⟩
 replace HS:=Lh (HS.out.kept hd)
 replace VO:=Lh (VO.out.kept hd)
 replace hb:=hb.trans (hd.mono hb.size)
 clear hd hHeld HS14
 go_wp2_with fail
 refine hK.out _ _ trivial (fun hHeld=>?_)
 clear hK K
 refine wpAnyH_ready (rs:=[6]) (by kernel_rfl) (by simp) ?_
 refine AllReadyH.cons (o:=_) rfl (fun K hK=>?_) AllReadyH.nil
 have hd:Below wg.heap.size wg (wg.alloc (.cells #[.string r0,.string r1] 9)):=(Below.refl _ _).alloc (Nat.le_refl _) _
 have ho:=own_new_texts wg [r0,r1] 9 (by simp)
 have hBr:=VO.out.lt
 have hOR:Hid ((wg.alloc (.cells #[.string r0,.string r1] 9)).ownsRow wg.heap.size 9 1 (.slice (some ⟨wg.heap.size,0,none⟩) 2 2) 2 ([r0,r1].flatMap Tx.enc)):=Lh ho
 clear ho
 replace HS:=Lh (HS.out.kept hd)
 replace VO:=Lh (VO.out.kept hd)
 replace hb:=hb.trans (hd.mono hb.size)
 have hBl:wg.heap.size < (wg.alloc (.cells #[.string r0,.string r1] 9)).heap.size:=by simp
 go_simp
 refine hK.out _ _ trivial (fun hHeld2=>?_)
 clear hK K hHeld hd
 change wpAnyH _ _ _ _ _ _ _ _ (wg.alloc (.cells #[.string r0,.string r1] 9))
 generalize wg.alloc (.cells #[.string r0,.string r1] 9)=wh at *
 generalize wg.heap.size=B1 at *
 refine slotA 7 6 (.slice (some ⟨B1,0,none⟩) 2 2) ?_
 simp only [S3]
 refine wpAnyH_done (by kernel_rfl) ?_ _
 clear hHeld2
 go_upto_region 8 with fail
 have hd:Below wh.heap.size wh wh.drew:=(Below.refl _ _).drew
 replace HS:=Lh (HS.out.kept hd)
 replace VO:=Lh (VO.out.kept hd)
 replace hb:=hb.trans (hd.mono hb.size)
 replace hOR:=Lh (own_below hOR.out hd)
 replace hBl:=Nat.lt_of_lt_of_le hBl hd.size
 clear hd
 refine wp_region_held_drew (S:=fun W=>W.rangeAt w.heap.size 0 cs) (by kernel_rfl) (HRC.out _ HS.out) (fun hHeld=>?_)
 generalize wh.drew=wd at *
 refine slotA 0 37 (.agg cs.toArray) ?_ (hy:=yieldsIf_load_mid (by rfl) 31 _ rfl w.heap.size 0 rfl cs _ (fun w' hS=>hS) Tryz.underlying31 rfl HSZ.out)
 simp only [S3]
 refine slotA 2 39 (.pointer (some ⟨w.heap.size,5,none⟩)) ?_
 simp only [S3]
 refine slotA 3 40 (.agg (Brd.enc s.board).toArray) ?_ (hy:=yieldsIf_load_mid (by rfl) 29 _ rfl w.heap.size 5 rfl (Brd.enc s.board) _ (fun w' hS=>HBD.out _ hS) Tryz.underlying29 rfl (by kernel_rfl))
 simp only [S3]
 refine slotA 4 41 (.string bg) ?_
 simp only [S3]
 refine slotA 5 42 (.string (bg.extract 14 bg.size)) ?_
 simp only [S3]
 rw [HE14.out]
 refine slotA 6 43 (.slice (some ⟨B1,0,none⟩) 2 2) ?_
 simp only [S3]
 refine slotA 8 45 (.pointer (some ⟨w.heap.size,8,none⟩)) ?_
 simp only [S3]
 refine slotA 9 46 (.int .i64 s.seconds) ?_ (hy:=Or.inl ⟨by rfl,fun w' hS=>by have c9:=HSD.out _ hS;go_simp⟩)
 simp only [S3]
 refine slotA 10 47 (.pointer (some ⟨w.heap.size,8,none⟩)) ?_
 simp only [S3]
 refine slotA 11 48 (.int .i64 s.seconds) ?_ (hy:=Or.inl ⟨by rfl,fun w' hS=>by have c9:=HSD.out _ hS;go_simp⟩)
 simp only [S3]
 generalize hsec:s.seconds=sec at *
 refine wpAnyH_apart (σ:=Bool × Bool × Bool) (L:=fun z=>#[true,z.1,true,true,true,true,true,z.2.1,true,true,true,true,z.2.2,false,false,false]) (RS:=fun z=>(if z.1 then [] else [1])++((if z.2.1 then [] else [7])++(if z.2.2 then [] else [12]))) (m:=fun z=>cond z.1 0 1+cond z.2.1 0 1+cond z.2.2 0 1+3)
  (J:=fun z vs W=>∃ D,Apart wd.heap.size W D∧Below wd.heap.size wd W∧(z.1=true→∃ r:StA,vs 38=.agg (scells s r).toArray∧s.Z r wd.heap.size W∧s.Off r∧D 0=s.effs r)∧(z.2.1=true→∃ B2,vs 44=.slice (some ⟨B2,0,none⟩) 2 2∧W.ownsRow wd.heap.size 2 1 (.slice (some ⟨B2,0,none⟩) 2 2) 2 (([0,0]:List Int).flatMap I64.enc)∧D 1=[some ⟨B2,0,none⟩])∧(z.2.2=true→∃ B3,vs 49=.slice (some ⟨B3,0,none⟩) 2 2∧W.ownsRow wd.heap.size 2 1 (.slice (some ⟨B3,0,none⟩) 2 2) 2 ([sec,sec].flatMap I64.enc)∧D 2=[some ⟨B3,0,none⟩]))
  (ks:=[38,44,49]) (s0:=(false,false,false)) (v0:=fun _=>undef) (by kernel_rfl) (by kernel_rfl) (by decide) ?hJ hHeld ?hr ?hm ?hend ?hstep
 case hr=>rintro ⟨_ | _,_ | _,_ | _⟩ vs W hJ h<;>first | exact absurd rfl h | kernel_rfl
 case hm=>rintro ⟨_ | _,_ | _,_ | _⟩ h<;>first | exact absurd rfl h | decide
 case hJ=>exact ⟨fun _=>[],Apart.none _ _,Below.refl _ _,fun h=>absurd h (by decide),fun h=>absurd h (by decide),fun h=>absurd h (by decide)⟩
 case hstep =>
  rintro ⟨b1,b2,b3⟩ vs W ⟨D,hD,hB,h1,h2,h3⟩ hS i hi K hK
  have hi':(i=1∧b1=false)∨(i=7∧b2=false)∨(i=12∧b3=false):=by
   rcases List.mem_append.1 hi with h | h
   ·cases b1
    ·exact .inl ⟨List.mem_singleton.1 h,rfl⟩
    ·exact absurd h List.not_mem_nil
   ·rcases List.mem_append.1 h with h | h
    ·cases b2
     ·exact .inr (.inl ⟨List.mem_singleton.1 h,rfl⟩)
     ·exact absurd h List.not_mem_nil
    ·cases b3
     ·exact .inr (.inr ⟨List.mem_singleton.1 h,rfl⟩)
     ·exact absurd h List.not_mem_nil
  rcases hi' with ⟨rfl,rfl⟩ | ⟨rfl,rfl⟩ | ⟨rfl,rfl⟩
  ·refine wpOp_step (o:=_) rfl (fun K2 hK2=>?_)
   simp only [fillA,List.foldl_cons,List.foldl_nil,List.setIfInBounds_toArray,List.set_cons_zero,List.set_cons_succ]
   go_simp
   refine (HOW.out W (HS.out.kept hB)).mono ?_
   rintro e w' ⟨r,rfl,z1,of,hd⟩
   have h2':b2=true→∃ B2,vs 44=.slice (some ⟨B2,0,none⟩) 2 2∧w'.ownsRow wd.heap.size 2 1 (.slice (some ⟨B2,0,none⟩) 2 2) 2 (([0,0]:List Int).flatMap I64.enc)∧upD D 0 (s.effs r) 1=[some ⟨B2,0,none⟩]:=fun h=>by
    obtain ⟨B2,a1,a2,a3⟩:=h2 h
    exact ⟨B2,a1,own_below a2 hd,a3⟩
   have h3':b3=true→∃ B3,vs 49=.slice (some ⟨B3,0,none⟩) 2 2∧w'.ownsRow wd.heap.size 2 1 (.slice (some ⟨B3,0,none⟩) 2 2) 2 ([sec,sec].flatMap I64.enc)∧upD D 0 (s.effs r) 2=[some ⟨B3,0,none⟩]:=fun h=>by
    obtain ⟨B3,a1,a2,a3⟩:=h3 h
    exact ⟨B3,a1,own_below a2 hd,a3⟩
   have hk:=hK.out (true,b2,b3) (upV vs 38 (.agg (scells s r).toArray)) w' rfl (by cases b2<;>cases b3<;>decide) (range_kept hS hd)
    ⟨upD D 0 (s.effs r),hD.add 0 hB.size hd.size (fun a ha g hg=>.inl (z1.lt a ha g hg)),hB.trans (hd.mono hB.size),fun _=>⟨r,rfl,z1.mono hB.size,of,upD_same _ _ _⟩,h2',h3'⟩
   go_wp2_with fail
   exact hk
  ·refine wpOp_step (o:=_) rfl (fun K2 hK2=>?_)
   simp only [fillA,List.foldl_cons,List.foldl_nil,List.setIfInBounds_toArray,List.set_cons_zero,List.set_cons_succ]
   go_simp
   have hd:Below W.heap.size W (W.alloc (.cells #[.int .i64 0,.int .i64 0] 2)):=(Below.refl _ _).alloc (Nat.le_refl _) _
   have h1':b1=true→∃ r:StA,vs 38=.agg (scells s r).toArray∧s.Z r wd.heap.size (W.alloc (.cells #[.int .i64 0,.int .i64 0] 2))∧s.Off r∧upD D 1 [some ⟨W.heap.size,0,none⟩] 0=s.effs r:=fun h=>by
    obtain ⟨r,a1,a2,a4,a5⟩:=h1 h
    exact ⟨r,a1,a2.kept hd,a4,a5⟩
   have h3':b3=true→∃ B3,vs 49=.slice (some ⟨B3,0,none⟩) 2 2∧(W.alloc (.cells #[.int .i64 0,.int .i64 0] 2)).ownsRow wd.heap.size 2 1 (.slice (some ⟨B3,0,none⟩) 2 2) 2 ([sec,sec].flatMap I64.enc)∧upD D 1 [some ⟨W.heap.size,0,none⟩] 2=[some ⟨B3,0,none⟩]:=fun h=>by
    obtain ⟨B3,a1,a2,a3⟩:=h3 h
    exact ⟨B3,a1,own_below a2 hd,a3⟩
   have hk:=hK.out (b1,true,b3) (upV vs 44 (.slice (some ⟨W.heap.size,0,none⟩) 2 2)) (W.alloc (.cells #[.int .i64 0,.int .i64 0] 2)) rfl (by cases b1<;>cases b3<;>decide) (range_kept hS hd)
    ⟨upD D 1 [some ⟨W.heap.size,0,none⟩],hD.add 1 hB.size hd.size (new_row D 1 _),hB.trans (hd.mono hB.size),h1',fun _=>⟨W.heap.size,rfl,own_mono (own_two W 0 0) hB.size,upD_same _ _ _⟩,h3'⟩
   exact hK2 _ _ hk
  ·refine wpOp_step (o:=_) rfl (fun K2 hK2=>?_)
   simp only [fillA,List.foldl_cons,List.foldl_nil,List.setIfInBounds_toArray,List.set_cons_zero,List.set_cons_succ]
   go_simp
   have hd:Below W.heap.size W (W.alloc (.cells #[.int .i64 sec,.int .i64 sec] 2)):=(Below.refl _ _).alloc (Nat.le_refl _) _
   have h1':b1=true→∃ r:StA,vs 38=.agg (scells s r).toArray∧s.Z r wd.heap.size (W.alloc (.cells #[.int .i64 sec,.int .i64 sec] 2))∧s.Off r∧upD D 2 [some ⟨W.heap.size,0,none⟩] 0=s.effs r:=fun h=>by
    obtain ⟨r,a1,a2,a4,a5⟩:=h1 h
    exact ⟨r,a1,a2.kept hd,a4,a5⟩
   have h2':b2=true→∃ B2,vs 44=.slice (some ⟨B2,0,none⟩) 2 2∧(W.alloc (.cells #[.int .i64 sec,.int .i64 sec] 2)).ownsRow wd.heap.size 2 1 (.slice (some ⟨B2,0,none⟩) 2 2) 2 (([0,0]:List Int).flatMap I64.enc)∧upD D 2 [some ⟨W.heap.size,0,none⟩] 1=[some ⟨B2,0,none⟩]:=fun h=>by
    obtain ⟨B2,a1,a2,a3⟩:=h2 h
    exact ⟨B2,a1,own_below a2 hd,a3⟩
   have hk:=hK.out (b1,b2,true) (upV vs 49 (.slice (some ⟨W.heap.size,0,none⟩) 2 2)) (W.alloc (.cells #[.int .i64 sec,.int .i64 sec] 2)) rfl (by cases b1<;>cases b2<;>decide) (range_kept hS hd)
    ⟨upD D 2 [some ⟨W.heap.size,0,none⟩],hD.add 2 hB.size hd.size (new_row D 2 _),hB.trans (hd.mono hB.size),h1',h2',fun _=>⟨W.heap.size,rfl,own_mono (own_two W sec sec) hB.size,upD_same _ _ _⟩⟩
   exact hK2 _ _ hk
 case hend =>
  rintro ⟨b1,b2,b3⟩ vs W n hrs hn ⟨D,hD,hB,h1,h2,h3⟩ hHeld
  obtain ⟨rfl,rfl,rfl⟩:b1=true∧b2=true∧b3=true:=by cases b1<;>cases b2<;>cases b3<;>first | exact ⟨rfl,rfl,rfl⟩ | cases hrs
  obtain ⟨r,e1,z1,o1,d1⟩:=h1 rfl
  obtain ⟨B2,e2,p2,d2⟩:=h2 rfl
  obtain ⟨B3,e3,p3,d3⟩:=h3 rfl
  obtain ⟨n,rfl⟩:∃ k,n=k+3:=⟨n - 3,by have h9:3≤n:=hn;omega⟩
  simp only [fillA,List.foldl_cons,List.foldl_nil,List.setIfInBounds_toArray,List.set_cons_zero,List.set_cons_succ]
  rw [e1,e2,e3]
  clear h1 h2 h3 hrs hn e1 e2 e3
  replace hOR:=Lh (own_front hOR.out hB hBl)
  have hOFF:Hid (Gam.Off ⟨s,s.board,bd,[r0,r1],[0,0],[sec,sec],0,0,noLst,false⟩ ⟨r,⟨some ⟨B1,0,none⟩,2⟩,⟨some ⟨B2,0,none⟩,2⟩,⟨some ⟨B3,0,none⟩,2⟩⟩):=Lh (by
   have m0:∀ t∈s.effs r,t∈D 0:=fun t ht=>by rw [d1];exact ht
   have m1:some (⟨B2,0,none⟩:Addr)∈D 1:=by rw [d2];exact List.mem_singleton.2 rfl
   have m2:some (⟨B3,0,none⟩:Addr)∈D 2:=by rw [d3];exact List.mem_singleton.2 rfl
   have lb:∀ i,∀ a∈D i,offA a (some ⟨B1,0,none⟩):=fun i a ha=>(off_of_lt (n:=wd.heap.size) (fun g h=>by cases h;exact hBl) (fun g h=>(hD.2 i a ha g h).1)).symm
   exact ⟨o1,fun t ht=>lb 0 t (m0 t ht),fun t ht=>hD.1 0 1 (by decide) t (m0 t ht) _ m1,fun t ht=>hD.1 0 2 (by decide) t (m0 t ht) _ m2,(lb 1 _ m1).symm,(lb 2 _ m2).symm,hD.1 1 2 (by decide) _ m1 _ m2⟩)
  have hlw:w.heap.size+1 < wd.heap.size:=VO.out.lt
  have HZ0:Hid (Gam.Z ⟨s,s.board,bd,[r0,r1],[0,0],[sec,sec],0,0,noLst,false⟩ ⟨r,⟨some ⟨B1,0,none⟩,2⟩,⟨some ⟨B2,0,none⟩,2⟩,⟨some ⟨B3,0,none⟩,2⟩⟩ (w.heap.size+2) W):=Lh ⟨z1.mono (by omega),.inr (own_mono hOR.out (by omega)),.inr (own_mono p2 (by omega)),.inr (own_mono p3 (by omega))⟩
  clear z1 o1 d1 p2 d2 p3 d3 hD hOR
  subst hsec
  simp only [scells,Brd.enc]
  refine slotA 13 50 (.agg (gcells ⟨s,s.board,bd,[r0,r1],[0,0],[s.seconds,s.seconds],0,0,noLst,false⟩ ⟨r,⟨some ⟨B1,0,none⟩,2⟩,⟨some ⟨B2,0,none⟩,2⟩,⟨some ⟨B3,0,none⟩,2⟩⟩).toArray) ?_ (hy:=Or.inl ⟨by rfl,fun w' _=>by go_simp;rfl⟩)
  simp only [S3]
  generalize hxx:(⟨s,s.board,bd,[r0,r1],[0,0],[s.seconds,s.seconds],0,0,noLst,false⟩:Gam)=x at *
  generalize (⟨r,⟨some ⟨B1,0,none⟩,2⟩,⟨some ⟨B2,0,none⟩,2⟩,⟨some ⟨B3,0,none⟩,2⟩⟩:GaA)=rr at *
  clear hxx
  replace VO:=Lh (VO.out.kept hB)
  have hb6:=hb.trans (hB.mono hb.size)
  have tR:=VO.out.there (n:=30) rfl
  obtain ⟨o6,k6⟩:=VO.out.put (gcells x rr) rfl
  have HZ:=Lh ((HZ0.out.store k6 (Nat.lt_succ_self _)).mono (show w.heap.size≤w.heap.size+2 by omega))
  have hb7:=hb6.grown k6 hb6.size (fun k h=>by cases h;omega)
  have rZ:=o6.range
  have hHeld3:=HRC.out _ (HS.out.kept hB)
  have hHeld4:(W.setCells (w.heap.size+1) 0 (gcells x rr)).rangeAt w.heap.size 0 cs:=fun j v hv=>by
   have h9:=hHeld3 j v hv
   exact (k6.cell h9 (by simp))
  clear o6 k6 hb hb6 VO HZ0 HS hHeld3
  refine wpAnyH_ready (rs:=[14]) (by kernel_rfl) (by simp) ?_
  refine AllReadyH.cons (o:=_) rfl (fun K hK=>?_) AllReadyH.nil
  refine mk_store rfl rfl 37 (.tmp 4) (.tmp 50) rfl (w.heap.size+1) 0 (gcells x rr).toArray rfl rfl tR (size_game _ _) (all_oneCell_toArray (gcells_all1 _ _)) ?_
  refine hK.out _ _ hHeld4 (fun hHeld5=>?_)
  change wpAnyH _ _ _ _ _ _ _ _ (W.setCells (w.heap.size+1) 0 (gcells x rr))
  clear hK K tR hHeld4
  generalize W.setCells (w.heap.size+1) 0 (gcells x rr)=wZ at *
  refine slotA 15 5 (.int .i64 0) ?_
  simp only [S3]
  refine wpAnyH_done (by kernel_rfl) ?_ _
  clear hHeld5
  have HV:=Lh (run_loadVar_mid (P:=Tryz.prog) wZ (w.heap.size+1) 0 37 (gcells x rr) _ rZ Tryz.underlying37 rfl (size_game _ _))
  clear rZ
  go_wp2
  refine bodyPost_ret (results_cell_tmp_var Tryz.results32 _ _ _ _ rfl HV.out) rfl ?_
  exact ⟨rr,rfl,HZ.out,hOFF.out,hb7⟩
end Go.Proofs.YtgphkffbbmmmmaaGreatDoor
