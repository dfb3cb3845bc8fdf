/- Contracts: the reference's test of the last play of a game, and of games. No condition but that lengths fit an int. -/
import Derived.Test.YtalnbgcdhcnjfaaGreatDoorGmG
set_option maxRecDepth 100000
set_option maxHeartbeats 8000000
namespace Go.Proofs.YtalnbgcdhcnjfaaGreatDoor
open Go.ChangeShapes Go.WideShapes Go.ChangeAt Go.RowKit Go.Sort

theorem toList_beq (x y:ByteArray):(x.toList == y.toList)=decide (x=y):=by
 rw [Bool.eq_iff_iff,beq_iff_eq,decide_eq_true_eq]
 constructor
 ·intro e
  exact ByteArray.ext (Array.toList_inj.1 (by rw [← ByteArray.toList_eq,← ByteArray.toList_eq];exact e))
 ·rintro rfl;rfl
theorem made_eq (x:Gam):boardEq (x.before.made x.last.play).size x.board.size (x.before.made x.last.play).premium x.board.premium (x.before.made x.last.play).cells x.board.cells=decide ((x.before.made x.last.play).cells=x.board.cells):=by
 unfold boardEq
 rw [toList_beq,toList_beq,Bool.and_true]
 show ((x.board.size == x.board.size) && (decide (x.board.premium=x.board.premium) && _))=_
 rw [beq_self_eq_true,decide_eq_true rfl,Bool.true_and,Bool.true_and]
/-- what a game must be for its last play to be looked at -/
structure Gam.Sided (x:Gam):Prop where
 tiles:x.setup.tiles.ok=true
 p0:0≤x.player
 p1:x.player≤1
 racks:x.racks.length=2
 rack:∀ k,k < 2→rackOk (x.rack k).data.toList=true
theorem play_no1 {x:Gam} (h:¬ x.last.player=1 - x.player):x.playOk=false:=by unfold Gam.playOk;rw [decide_eq_false h];rfl
theorem play_no2 {x:Gam} (h:x.before.okPlay x.last.play=false):x.playOk=false:=by unfold Gam.playOk;rw [h];simp
theorem play_no3 {x:Gam} (h:withinB x.last.zeros 0 5=false):x.playOk=false:=by unfold Gam.playOk;rw [h];simp
theorem play_no4 {x:Gam} (h:¬ x.zeros=0):x.playOk=false:=by unfold Gam.playOk;rw [decide_eq_false h];simp
theorem play_no5 {x:Gam} (h:bagOk x.last.drawn.data.toList=false):x.playOk=false:=by unfold Gam.playOk;rw [h];simp
theorem play_yes {x:Gam} (h1:x.last.player=1 - x.player) (h2:x.before.okPlay x.last.play=true) (h3:withinB x.last.zeros 0 5=true) (h4:x.zeros=0) (h5:bagOk x.last.drawn.data.toList=true) :
  x.playOk=(hasT x.mover.data.toList x.last.drawn.data.toList && (decide (x.placed≤7) && (decide (x.last.drawn.size≤x.placed) && (decide ((x.mover.size:Int) - x.last.drawn.size+x.placed≤7) && (decide ((x.before.made x.last.play).cells=x.board.cells) && (decide (x.last.score=x.before.score x.last.play x.setup.tiles) && decide (x.last.score≤20000))))))):=by
 unfold Gam.playOk
 rw [decide_eq_true h1,h2,h3,decide_eq_true h4,h5]
 simp only [Bool.true_and,Bool.and_true]
 rw [Bool.eq_iff_iff]
 simp only [Bool.and_eq_true]
 constructor
 ·rintro ⟨a,b,c,d,e,f,g⟩;exact ⟨e,b,c,d,a,f,g⟩
 ·rintro ⟨e,b,c,d,a,f,g⟩;exact ⟨a,b,c,d,e,f,g⟩
theorem below_of_eq {P:Program} {f:FuncId} {args:Array Value} {w:World} {v:Value} (h:Calls P f args w fun e w'=>e=.returned v∧w=w'):Calls P f args w fun e w'=>e=.returned v∧Below w.heap.size w w' :=
 h.mono fun _ _ ⟨a,b⟩=>⟨a,by subst b;exact Below.refl _ _⟩
theorem l18PlayOk_any (x:Gam) (p:GaA) (g:Nat) (w:World) (hg:GAt w g x p) (hf:x.fit) (hs:x.Sided) :
  Calls Tryz.prog 65 #[.pointer (some ⟨g,0,none⟩)] w fun e w'=>e=.returned (.bool x.playOk)∧Below w.heap.size w w':=by
 have hlt:=hg.lt
 obtain ⟨⟨hfs,_,_⟩,hfb,_,_,_,_,⟨hfp,hfbe,hfd⟩⟩:=hf
 have HG:=Lh hg
 have hbf:x.before.fit:=⟨hfb.1,hfbe⟩
 have HOK:Hid (∀ X W,BAt W X 0 x.before→Calls Tryz.prog 92 #[.pointer (some ⟨X,0,none⟩),.agg #[.int .i64 x.last.play.row,.int .i64 x.last.play.col,.bool x.last.play.down,.string x.last.play.word]] W fun e w'=>e=.returned (.bool (x.before.okPlay x.last.play))∧Below W.heap.size W w'):=Lh (fun X W h=>l12Ok_any x.before x.last.play X 0 W h hbf hfp)
 have HI:Hid (∀ W,Calls Tryz.prog 27 #[.int .i64 x.last.zeros,.int .i64 0,.int .i64 5] W fun e w'=>e=.returned (.bool (withinB x.last.zeros 0 5))∧Below W.heap.size W w'):=Lh (fun W=>below_of_eq (l00In_any _ _ _ W))
 have HBG:Hid (∀ W,Calls Tryz.prog 26 #[.string x.last.drawn] W fun e w'=>e=.returned (.bool (bagOk x.last.drawn.data.toList))∧Below W.heap.size W w'):=Lh (fun W=>below_of_eq (l17Ok_any _ W hfd))
 have wr1:IntKind.i64.wrap (1 - x.player)=1 - x.player:=IntWalk.i64_in _ (by have:=hs.p0;have:=hs.p1;omega)
 have HSD:=Lh hs
 have HY:=Lh (fun a b c d e=>play_yes (x:=x) a b c d e)
 have HN1:=Lh (fun a=>play_no1 (x:=x) a)
 have HN2:=Lh (fun a=>play_no2 (x:=x) a)
 have HN3:=Lh (fun a=>play_no3 (x:=x) a)
 have HN4:=Lh (fun a=>play_no4 (x:=x) a)
 have HN5:=Lh (fun a=>play_no5 (x:=x) a)
 clear hg hs hbf hfb hfbe hfp hfd hfs
 generalize hans:x.playOk=ans at *
 clear hans
 go_enter Tryz.func65,Tryz.ntmps65
 have c25:=HG.out.cell (i:=25) rfl
 go_upto_region 2 with fail
 go_wp2_with fail
 refine (l18Board_any x p g x.last.before w HG.out).mono ?_
 rintro e w1 ⟨rfl,hb⟩
 clear c25
 have HX:=Lh (BAt.new w1 x.before 44)
 have hz1:=hb.size
 have hd:Below w1.heap.size w1 (w1.alloc (.cells #[.int .i64 x.before.size,.string x.before.premium,.string x.before.cells] 44)):=(Below.refl _ _).alloc (Nat.le_refl _) _
 replace HG:=Lh (HG.out.kept (hb.trans (hd.mono hb.size)))
 replace hb:=hb.trans (hd.mono hb.size)
 clear hd
 go_upto_region 3 with fail
 change Code.wp _ _ _ _ (w1.alloc (.cells #[.int .i64 x.before.size,.string x.before.premium,.string x.before.cells] 44))
 generalize w1.alloc (.cells #[.int .i64 x.before.size,.string x.before.premium,.string x.before.cells] 44)=w2 at *
 generalize w1.heap.size=X at *
 have a17:=cell_regrown (HG.out.cell (i:=17) rfl)
 have a18:=cell_regrown (HG.out.cell (i:=18) rfl)
 have a20:=cell_regrown (HG.out.cell (i:=20) rfl)
 have a21:=cell_regrown (HG.out.cell (i:=21) rfl)
 have a22:=cell_regrown (HG.out.cell (i:=22) rfl)
 have a23:=cell_regrown (HG.out.cell (i:=23) rfl)
 have a24:=cell_regrown (HG.out.cell (i:=24) rfl)
 have a26:=cell_regrown (HG.out.cell (i:=26) rfl)
 have a28:=cell_regrown (HG.out.cell (i:=28) rfl)
 by_cases e1:x.last.player=1 - x.player
 case neg =>
  have HN:=Lh (HN1.out e1)
  have e1':(x.last.player != 1 - x.player)=true:=by rw [bne_iff_ne];exact e1
  clear e1 HY HN1 HN2 HN3 HN4 HN5
  refine wp_region_quiet_below (by kernel_rfl) (by kernel_rfl) ?_
  repeat (go_big_quiet_step ((first | (go_at_call 92;exact Calls.regrown_of (HOK.out _ _ (HX.out.kept (below_regrown _ _ _)))) | (go_at_call 27;exact Calls.regrown_of (HI.out _)) | (go_at_call 26;exact Calls.regrown_of (HBG.out _)))))
  refine wpQuiet_nil ?_
  intro wx hw'
  obtain ⟨⟨dq,oq⟩,hw''⟩:=hw'
  have hdx:=below_regrown w2 dq oq
  rw [← hw''] at hdx
  clear hw'' a17 a18 a20 a21 a22 a23 a24 a26 a28
  replace HX:=Lh (HX.out.kept hdx)
  replace HG:=Lh (HG.out.kept hdx)
  replace hb:=hb.trans (hdx.mono hb.size)
  clear hdx
  go_wp2
  go_ret
  exact ⟨ret_bool HN.out.symm,hb⟩
 case pos =>
  have HE1:=Lh e1
  have e1':(x.last.player != 1 - x.player)=false:=by rw [e1];simp
  clear e1
  cases e2:x.before.okPlay x.last.play with
  | false =>
   have HN:=Lh (HN2.out e2)
   rw [e2] at HOK
   clear e2 HY HN1 HN2 HN3 HN4 HN5
   refine wp_region_quiet_below (by kernel_rfl) (by kernel_rfl) ?_
   repeat (go_big_quiet_step ((first | (go_at_call 92;exact Calls.regrown_of (HOK.out _ _ (HX.out.kept (below_regrown _ _ _)))) | (go_at_call 27;exact Calls.regrown_of (HI.out _)) | (go_at_call 26;exact Calls.regrown_of (HBG.out _)))))
   refine wpQuiet_nil ?_
   intro wx hw'
   obtain ⟨⟨dq,oq⟩,hw''⟩:=hw'
   have hdx:=below_regrown w2 dq oq
   rw [← hw''] at hdx
   clear hw'' a17 a18 a20 a21 a22 a23 a24 a26 a28
   replace HX:=Lh (HX.out.kept hdx)
   replace HG:=Lh (HG.out.kept hdx)
   replace hb:=hb.trans (hdx.mono hb.size)
   clear hdx
   go_wp2
   go_ret
   exact ⟨ret_bool HN.out.symm,hb⟩
  | true =>
   have HE2:=Lh e2
   rw [e2] at HOK
   clear e2
   cases e3:withinB x.last.zeros 0 5 with
   | false =>
    have HN:=Lh (HN3.out e3)
    rw [e3] at HI
    clear e3 HY HN1 HN2 HN3 HN4 HN5
    refine wp_region_quiet_below (by kernel_rfl) (by kernel_rfl) ?_
    repeat (go_big_quiet_step ((first | (go_at_call 92;exact Calls.regrown_of (HOK.out _ _ (HX.out.kept (below_regrown _ _ _)))) | (go_at_call 27;exact Calls.regrown_of (HI.out _)) | (go_at_call 26;exact Calls.regrown_of (HBG.out _)))))
    refine wpQuiet_nil ?_
    intro wx hw'
    obtain ⟨⟨dq,oq⟩,hw''⟩:=hw'
    have hdx:=below_regrown w2 dq oq
    rw [← hw''] at hdx
    clear hw'' a17 a18 a20 a21 a22 a23 a24 a26 a28
    replace HX:=Lh (HX.out.kept hdx)
    replace HG:=Lh (HG.out.kept hdx)
    replace hb:=hb.trans (hdx.mono hb.size)
    clear hdx
    go_wp2
    go_ret
    exact ⟨ret_bool HN.out.symm,hb⟩
   | true =>
    have HE3:=Lh e3
    rw [e3] at HI
    clear e3
    by_cases e4:x.zeros=0
    case neg =>
     have HN:=Lh (HN4.out e4)
     have e4':(x.zeros != 0)=true:=by rw [bne_iff_ne];exact e4
     clear HY HN1 HN2 HN3 HN4 HN5
     refine wp_region_quiet_below (by kernel_rfl) (by kernel_rfl) ?_
     repeat (go_big_quiet_step ((first | (go_at_call 92;exact Calls.regrown_of (HOK.out _ _ (HX.out.kept (below_regrown _ _ _)))) | (go_at_call 27;exact Calls.regrown_of (HI.out _)) | (go_at_call 26;exact Calls.regrown_of (HBG.out _)))))
     refine wpQuiet_nil ?_
     intro wx hw'
     obtain ⟨⟨dq,oq⟩,hw''⟩:=hw'
     have hdx:=below_regrown w2 dq oq
     rw [← hw''] at hdx
     clear hw'' a17 a18 a20 a21 a22 a23 a24 a26 a28
     replace HX:=Lh (HX.out.kept hdx)
     replace HG:=Lh (HG.out.kept hdx)
     replace hb:=hb.trans (hdx.mono hb.size)
     clear hdx
     go_wp2
     go_ret
     exact ⟨ret_bool HN.out.symm,hb⟩
    case pos =>
     have HE4:=Lh e4
     have e4':(x.zeros != 0)=false:=by rw [e4];simp
     clear e4
     cases e5:bagOk x.last.drawn.data.toList with
     | false =>
      have HN:=Lh (HN5.out e5)
      rw [e5] at HBG
      clear e5 HY HN1 HN2 HN3 HN4 HN5
      refine wp_region_quiet_below (by kernel_rfl) (by kernel_rfl) ?_
      repeat (go_big_quiet_step ((first | (go_at_call 92;exact Calls.regrown_of (HOK.out _ _ (HX.out.kept (below_regrown _ _ _)))) | (go_at_call 27;exact Calls.regrown_of (HI.out _)) | (go_at_call 26;exact Calls.regrown_of (HBG.out _)))))
      refine wpQuiet_nil ?_
      intro wx hw'
      obtain ⟨⟨dq,oq⟩,hw''⟩:=hw'
      have hdx:=below_regrown w2 dq oq
      rw [← hw''] at hdx
      clear hw'' a17 a18 a20 a21 a22 a23 a24 a26 a28
      replace HX:=Lh (HX.out.kept hdx)
      replace HG:=Lh (HG.out.kept hdx)
      replace hb:=hb.trans (hdx.mono hb.size)
      clear hdx
      go_wp2
      go_ret
      exact ⟨ret_bool HN.out.symm,hb⟩
     | true =>
      have HA:=Lh (HY.out HE1.out HE2.out HE3.out HE4.out e5)
      have HE5:=Lh e5
      rw [e5] at HBG
      clear e5 HY HN1 HN2 HN3 HN4 HN5
      refine wp_region_quiet_below (by kernel_rfl) (by kernel_rfl) ?_
      repeat (go_big_quiet_step ((first | (go_at_call 92;exact Calls.regrown_of (HOK.out _ _ (HX.out.kept (below_regrown _ _ _)))) | (go_at_call 27;exact Calls.regrown_of (HI.out _)) | (go_at_call 26;exact Calls.regrown_of (HBG.out _)))))
      refine wpQuiet_nil ?_
      intro wx hw'
      obtain ⟨⟨dq,oq⟩,hw''⟩:=hw'
      have hdx:=below_regrown w2 dq oq
      rw [← hw''] at hdx
      clear hw'' a17 a18 a20 a21 a22 a23 a24 a26 a28
      replace HX:=Lh (HX.out.kept hdx)
      replace HG:=Lh (HG.out.kept hdx)
      replace hb:=hb.trans (hdx.mono hb.size)
      clear hdx
      clear HOK HI HBG e1' e4'
      obtain ⟨n,hp⟩:=okPlay_good HE2.out
      obtain ⟨hdt,hdl⟩:=bag_parts HE5.out
      have hs12:=hp.twelve
      have hfl:x.placed≤x.last.play.word.size:=freshL_len _ _ _ _
      obtain ⟨k,hk,hk2⟩:∃ k:Nat,x.last.player=(k:Int)∧k < 2:=by
       have h1:=HSD.out.p0
       have h2:=HSD.out.p1
       have h3:=HE1.out
       exact ⟨x.last.player.toNat,by omega,by omega⟩
      have hmv:x.mover=x.rack k:=by unfold Gam.mover;rw [hk,Int.toNat_natCast]
      have hrk:=HSD.out.rack k hk2
      have hms:(x.rack k).size≤7:=by have:=(rack_pile hrk).2;simpa using this
      have hds:x.last.drawn.size≤120:=by simpa using hdl
      have hrl:x.racks.length=2:=HSD.out.racks
      obtain ⟨rb,ro,hra,hrc⟩:=(HG.out.at_.2.1).open (show k < x.racks.length by omega)
      have rc:=words_cell hrc (show k < x.racks.length by omega)
      have HRC:Hid (wx.cell? ⟨rb,ro+k,none⟩=some (.string (x.rack k))):=Lh rc
      have HRA:=Lh hra
      clear rc hrc
      have HSO:Hid (∀ W,Calls Tryz.prog 29 #[.string x.last.drawn] W fun e w'=>e=.returned (.string (mkB (srtL x.last.drawn.data.toList)))∧Below W.heap.size W w'):=Lh (fun W=>(l03Sort_any x.last.drawn W (by omega)).mono fun e w' ⟨R,h1,h2,h3,h4⟩=>⟨by rw [h1,srt_of hdt h2 h3],h4⟩)
      have HTK:Hid (∀ W,Calls Tryz.prog 95 #[.string (x.rack k),.string (mkB (srtL x.last.drawn.data.toList))] W fun e w'=>e=.returned (.tuple #[.string (mkB (takeR (srtL x.last.drawn.data.toList) (x.rack k).data.toList)),.bool (hasT (x.rack k).data.toList x.last.drawn.data.toList)])∧Below W.heap.size W w'):=Lh (fun W=>by
       have h3:=l03TakeF_any (x.rack k) (mkB (srtL x.last.drawn.data.toList)) W (by omega) (by rw [mkB_size,srt_len hdt];omega)
       rw [mkB_data,take_tiles (rack_pile hrk).1 (srt_sort _) (srt_perm hdt) (fun c hc=>(List.all_eq_true.1 hdt) c hc)] at h3
       exact h3)
      have HMK:Hid (∀ W,BAt W X 0 x.before→Calls Tryz.prog 96 #[.pointer (some ⟨X,0,none⟩),.agg #[.int .i64 x.last.play.row,.int .i64 x.last.play.col,.bool x.last.play.down,.string x.last.play.word]] W fun e w'=>e=.returned (.agg #[.int .i64 (x.before.made x.last.play).size,.string (x.before.made x.last.play).premium,.string (x.before.made x.last.play).cells])∧Below W.heap.size W w'):=Lh (fun W h=>l12Make_any x.before x.last.play n X 0 W h hp)
      have HSC:Hid (∀ W,GAt W g x p→BAt W X 0 x.before→Calls Tryz.prog 97 #[.pointer (some ⟨g,0,none⟩),.pointer (some ⟨X,0,none⟩),.agg #[.int .i64 x.last.play.row,.int .i64 x.last.play.col,.bool x.last.play.down,.string x.last.play.word]] W fun e w'=>e=.returned (.int .i64 (x.before.score x.last.play x.setup.tiles))∧Below W.heap.size W w'):=Lh (fun W h1 h2=>l13Score_any x.setup.tiles p.setup.tiles g x.before x.last.play n X 0 W h1.tiles (Tls.good HSD.out.tiles) h2 hp)
      have HFL:Hid (∀ W,BAt W X 0 x.before→Calls Tryz.prog 93 #[.pointer (some ⟨X,0,none⟩),.agg #[.int .i64 x.last.play.row,.int .i64 x.last.play.col,.bool x.last.play.down,.string x.last.play.word]] W fun e w'=>e=.returned (flatV x.before x.last.play)∧Below W.heap.size W w'):=Lh (fun W h=>l12Flat_any x.before x.last.play n X 0 W hp.good h)
      have HFR:Hid (∀ Y W,BAt W Y 0 (x.before.flat x.last.play.down)→Calls Tryz.prog 94 #[.pointer (some ⟨Y,0,none⟩),.agg #[.int .i64 x.last.play.flat.row,.int .i64 x.last.play.flat.col,.bool x.last.play.flat.down,.string x.last.play.word]] W (NatsPost W (x.before.fresh x.last.play))):=Lh (fun Y W h=>by
       have:=l12Fresh_any (x.before.flat x.last.play.down) n x.last.play.flat.row x.last.play.flat.col x.last.play.flat.down x.last.play.word Y 0 W (hp.good.flat x.last.play.down) h hp.twelve (by rw [Ply.flat_row];exact hp.r0) (by rw [Ply.flat_row];exact hp.r1) (by rw [Ply.flat_col];exact hp.c0) (by rw [Ply.flat_col];exact hp.c1)
       rw [Ply.flat_row,Ply.flat_col] at this ⊢
       exact this)
      have HBQ:Hid (∀ W,(binOp .eql 44 (.agg #[.int .i64 (x.before.made x.last.play).size,.string (x.before.made x.last.play).premium,.string (x.before.made x.last.play).cells]) (.agg #[.int .i64 x.board.size,.string x.board.premium,.string x.board.cells])).run Tryz.prog W=.ok (.bool (decide ((x.before.made x.last.play).cells=x.board.cells))) W):=Lh (fun W=>by rw [eql_board,made_eq])
      have hgq:Tryz.prog.eqGuardType Tryz.prog.depth 44=false:=by kernel_rfl
      have hpl:(x.before.fresh x.last.play).length=x.placed:=rfl
      rw [hmv] at HA
      have HK:=Lh hk
      clear hp hmv hdt hdl hrk hk HSD HE1 HE2 HE3 HE4 HE5
      generalize x.before.score x.last.play x.setup.tiles=sc at *
      generalize decide ((x.before.made x.last.play).cells=x.board.cells)=bq at *
      generalize x.before.made x.last.play=md at *
      obtain ⟨m0,m1,m2⟩:=md
      simp only at HMK HBQ
      generalize hasT (x.rack k).data.toList x.last.drawn.data.toList=hv at *
      generalize mkB (takeR (srtL x.last.drawn.data.toList) (x.rack k).data.toList)=tk at *
      generalize mkB (srtL x.last.drawn.data.toList)=sd at *
      generalize hmk:x.rack k=mv at *
      clear hmk
      generalize x.placed=m at *
      have c21:=HG.out.cell (i:=21) rfl
      have c22:=HG.out.cell (i:=22) rfl
      have c23:=HG.out.cell (i:=23) rfl
      have c24:=HG.out.cell (i:=24) rfl
      go_wp2_with fail
      refine (HFL.out _ HX.out).mono ?_
      rintro e w4 ⟨rfl,hd⟩
      unfold flatV
      clear HFL c21 c22 c23 c24
      replace HRC:=Lh (cell_kept HRC.out hd)
      replace hb:=hb.trans (hd.mono hb.size)
      replace HG:=Lh (HG.out.kept hd)
      replace HX:=Lh (HX.out.kept hd)
      clear hd
      generalize hff:x.before.flat x.last.play.down=f at *
      generalize hfr:x.last.play.flat.row=fr0 at *
      generalize hfc:x.last.play.flat.col=fc at *
      generalize hfd:x.last.play.flat.down=fd at *
      clear hff hfr hfc hfd
      have HF:Hid (BAt ((w4.alloc (.cells #[.int .i64 f.size,.string f.premium,.string f.cells] 44)).alloc (.cells #[.int .i64 fr0,.int .i64 fc,.bool fd,.string x.last.play.word] 47)) w4.heap.size 0 f):=Lh ((BAt.new w4 f 44).kept ((Below.refl _ _).alloc (Nat.le_refl _) _))
      have HQ:Hid (VarAt ((w4.alloc (.cells #[.int .i64 f.size,.string f.premium,.string f.cells] 44)).alloc (.cells #[.int .i64 fr0,.int .i64 fc,.bool fd,.string x.last.play.word] 47)) (w4.heap.size+1) 47 [.int .i64 fr0,.int .i64 fc,.bool fd,.string x.last.play.word]):=Lh (by
       have:=VarAt.new (w4.alloc (.cells #[.int .i64 f.size,.string f.premium,.string f.cells] 44)) 47 [.int .i64 fr0,.int .i64 fc,.bool fd,.string x.last.play.word]
       simp only [World.size_alloc] at this
       exact this)
      have hd:Below w4.heap.size w4 ((w4.alloc (.cells #[.int .i64 f.size,.string f.premium,.string f.cells] 44)).alloc (.cells #[.int .i64 fr0,.int .i64 fc,.bool fd,.string x.last.play.word] 47)):=((Below.refl _ _).alloc (Nat.le_refl _) _).alloc (by simp) _
      replace HRC:=Lh (cell_kept HRC.out hd)
      replace hb:=hb.trans (hd.mono hb.size)
      replace HG:=Lh (HG.out.kept hd)
      replace HX:=Lh (HX.out.kept hd)
      clear hd
      go_upto_region 6 with fail
      generalize (w4.alloc (.cells #[.int .i64 f.size,.string f.premium,.string f.cells] 44)).alloc (.cells #[.int .i64 fr0,.int .i64 fc,.bool fd,.string x.last.play.word] 47)=w5 at *
      have q0:=HQ.out.cell (i:=0) rfl
      have q1:=HQ.out.cell (i:=1) rfl
      have q2:=HQ.out.cell (i:=2) rfl
      have q3:=HQ.out.cell (i:=3) rfl
      go_wp2_with fail
      refine (HFR.out _ _ HF.out).mono ?_
      rintro e w6 ⟨gf,cf,rfl,hx0,hd⟩
      rw [hpl]
      clear hx0 q0 q1 q2 q3 HF HQ HFR hpl
      replace HRC:=Lh (cell_kept HRC.out hd)
      replace hb:=hb.trans (hd.mono hb.size)
      replace HG:=Lh (HG.out.kept hd)
      replace HX:=Lh (HX.out.kept hd)
      clear hd
      go_upto_region 7 with fail
      have b14:=HG.out.cell (i:=14) rfl
      rw [HRA.out,hrl] at b14
      have b14:=cell_regrown b14
      have b20:=HG.out.cell (i:=20) rfl
      rw [HK.out] at b20
      have b20:=cell_regrown b20
      have b26:=cell_regrown (HG.out.cell (i:=26) rfl)
      have brc:=cell_regrown HRC.out
      have hki:(k:Int) < 2:=by omega
      refine wp_region_quiet_below (by kernel_rfl) (by kernel_rfl) ?_
      repeat (go_big_quiet_step ((first | (go_at_call 29;exact Calls.regrown_of (HSO.out _)) | (go_at_call 95;exact Calls.regrown_of (HTK.out _)))))
      refine wpQuiet_nil ?_
      intro w7 hw'
      obtain ⟨⟨dq,oq⟩,hw''⟩:=hw'
      have hd:=below_regrown w6 dq oq
      rw [← hw''] at hd
      clear hw'' b14 b20 b26 brc
      replace HRC:=Lh (cell_kept HRC.out hd)
      replace hb:=hb.trans (hd.mono hb.size)
      replace HG:=Lh (HG.out.kept hd)
      replace HX:=Lh (HX.out.kept hd)
      clear hd
      go_upto_region 8 with fail
      have b10:=cell_regrown (HG.out.cell (i:=10) rfl)
      have b11:=cell_regrown (HG.out.cell (i:=11) rfl)
      have b12:=cell_regrown (HG.out.cell (i:=12) rfl)
      have b14:=HG.out.cell (i:=14) rfl
      rw [HRA.out,hrl] at b14
      have b14:=cell_regrown b14
      have b20:=HG.out.cell (i:=20) rfl
      rw [HK.out] at b20
      have b20:=cell_regrown b20
      have b21:=cell_regrown (HG.out.cell (i:=21) rfl)
      have b22:=cell_regrown (HG.out.cell (i:=22) rfl)
      have b23:=cell_regrown (HG.out.cell (i:=23) rfl)
      have b24:=cell_regrown (HG.out.cell (i:=24) rfl)
      have b26:=cell_regrown (HG.out.cell (i:=26) rfl)
      have b27:=cell_regrown (HG.out.cell (i:=27) rfl)
      have brc:=cell_regrown HRC.out
      have wr2:IntKind.i64.wrap ((mv.size:Int) - (x.last.drawn.size:Int))=(mv.size:Int) - x.last.drawn.size:=IntWalk.i64_in _ (by omega)
      have wr3:IntKind.i64.wrap ((mv.size:Int) - (x.last.drawn.size:Int)+(m:Int))=(mv.size:Int) - x.last.drawn.size+m:=IntWalk.i64_in _ (by omega)
      have hq:=HBQ.out
      clear HBQ hrl
      cases hv with
      | false =>
       refine wp_region_quiet_below (by kernel_rfl) (by kernel_rfl) ?_
       simp only [List.append_eq,List.cons_append,List.nil_append]
       repeat (go_big_quiet_step ((first | (go_at_call 96;exact Calls.regrown_of (HMK.out _ (HX.out.kept (below_regrown _ _ _)))) | (go_at_call 97;exact Calls.regrown_of (HSC.out _ (HG.out.kept (below_regrown _ _ _)) (HX.out.kept (below_regrown _ _ _)))))))
       refine wpQuiet_nil ?_
       intro wy hw'
       obtain ⟨⟨dq,oq⟩,hw''⟩:=hw'
       have hdx:=below_regrown w7 dq oq
       rw [← hw''] at hdx
       replace hb:=hb.trans (hdx.mono hb.size)
       clear hw'' hdx b10 b11 b12 b14 b20 b21 b22 b23 b24 b26 b27 brc hq
       go_wp2
       go_ret
       exact ⟨ret_bool (by rw [HA.out];rfl),hb⟩
      | true =>
       by_cases f1:m≤7
       case neg =>
        have g1:¬ (m:Int)≤7:=by omega
        have HN:Hid (ans=false):=Lh (by rw [HA.out,decide_eq_false f1];rfl)
        clear f1
        refine wp_region_quiet_below (by kernel_rfl) (by kernel_rfl) ?_
        simp only [List.append_eq,List.cons_append,List.nil_append]
        repeat (go_big_quiet_step ((first | (go_at_call 96;exact Calls.regrown_of (HMK.out _ (HX.out.kept (below_regrown _ _ _)))) | (go_at_call 97;exact Calls.regrown_of (HSC.out _ (HG.out.kept (below_regrown _ _ _)) (HX.out.kept (below_regrown _ _ _)))))))
        refine wpQuiet_nil ?_
        intro wy hw'
        obtain ⟨⟨dq,oq⟩,hw''⟩:=hw'
        have hdx:=below_regrown w7 dq oq
        rw [← hw''] at hdx
        replace hb:=hb.trans (hdx.mono hb.size)
        clear hw'' hdx b10 b11 b12 b14 b20 b21 b22 b23 b24 b26 b27 brc hq
        go_wp2
        go_ret
        exact ⟨ret_bool HN.out.symm,hb⟩
       case pos =>
        have g1:(m:Int)≤7:=by omega
        by_cases f2:x.last.drawn.size≤m
        case neg =>
         have g2:¬ (x.last.drawn.size:Int)≤(m:Int):=by omega
         have HN:Hid (ans=false):=Lh (by rw [HA.out,decide_eq_false f2];simp)
         clear f1 f2
         refine wp_region_quiet_below (by kernel_rfl) (by kernel_rfl) ?_
         simp only [List.append_eq,List.cons_append,List.nil_append]
         repeat (go_big_quiet_step ((first | (go_at_call 96;exact Calls.regrown_of (HMK.out _ (HX.out.kept (below_regrown _ _ _)))) | (go_at_call 97;exact Calls.regrown_of (HSC.out _ (HG.out.kept (below_regrown _ _ _)) (HX.out.kept (below_regrown _ _ _)))))))
         refine wpQuiet_nil ?_
         intro wy hw'
         obtain ⟨⟨dq,oq⟩,hw''⟩:=hw'
         have hdx:=below_regrown w7 dq oq
         rw [← hw''] at hdx
         replace hb:=hb.trans (hdx.mono hb.size)
         clear hw'' hdx b10 b11 b12 b14 b20 b21 b22 b23 b24 b26 b27 brc hq
         go_wp2
         go_ret
         exact ⟨ret_bool HN.out.symm,hb⟩
        case pos =>
         have g2:(x.last.drawn.size:Int)≤(m:Int):=by omega
         by_cases f3:(mv.size:Int) - x.last.drawn.size+m≤7
         case neg =>
          have HN:Hid (ans=false):=Lh (by rw [HA.out,decide_eq_false f3];simp)
          clear f1 f2
          refine wp_region_quiet_below (by kernel_rfl) (by kernel_rfl) ?_
          simp only [List.append_eq,List.cons_append,List.nil_append]
          repeat (go_big_quiet_step ((first | (go_at_call 96;exact Calls.regrown_of (HMK.out _ (HX.out.kept (below_regrown _ _ _)))) | (go_at_call 97;exact Calls.regrown_of (HSC.out _ (HG.out.kept (below_regrown _ _ _)) (HX.out.kept (below_regrown _ _ _)))))))
          refine wpQuiet_nil ?_
          intro wy hw'
          obtain ⟨⟨dq,oq⟩,hw''⟩:=hw'
          have hdx:=below_regrown w7 dq oq
          rw [← hw''] at hdx
          replace hb:=hb.trans (hdx.mono hb.size)
          clear hw'' hdx b10 b11 b12 b14 b20 b21 b22 b23 b24 b26 b27 brc hq
          go_wp2
          go_ret
          exact ⟨ret_bool HN.out.symm,hb⟩
         case pos =>
          cases bq with
          | false =>
           have HN:Hid (ans=false):=Lh (by rw [HA.out];simp)
           clear f1 f2
           refine wp_region_quiet_below (by kernel_rfl) (by kernel_rfl) ?_
           simp only [List.append_eq,List.cons_append,List.nil_append]
           repeat (go_big_quiet_step ((first | (go_at_call 96;exact Calls.regrown_of (HMK.out _ (HX.out.kept (below_regrown _ _ _)))) | (go_at_call 97;exact Calls.regrown_of (HSC.out _ (HG.out.kept (below_regrown _ _ _)) (HX.out.kept (below_regrown _ _ _)))))))
           refine wpQuiet_nil ?_
           intro wy hw'
           obtain ⟨⟨dq,oq⟩,hw''⟩:=hw'
           have hdx:=below_regrown w7 dq oq
           rw [← hw''] at hdx
           replace hb:=hb.trans (hdx.mono hb.size)
           clear hw'' hdx b10 b11 b12 b14 b20 b21 b22 b23 b24 b26 b27 brc hq
           go_wp2
           go_ret
           exact ⟨ret_bool HN.out.symm,hb⟩
          | true =>
           by_cases f4:x.last.score=sc
           case neg =>
            have g4:(x.last.score == sc)=false:=beq_eq_false_iff_ne.2 f4
            have HN:Hid (ans=false):=Lh (by rw [HA.out,decide_eq_false f4];simp)
            clear f1 f2
            refine wp_region_quiet_below (by kernel_rfl) (by kernel_rfl) ?_
            simp only [List.append_eq,List.cons_append,List.nil_append]
            repeat (go_big_quiet_step ((first | (go_at_call 96;exact Calls.regrown_of (HMK.out _ (HX.out.kept (below_regrown _ _ _)))) | (go_at_call 97;exact Calls.regrown_of (HSC.out _ (HG.out.kept (below_regrown _ _ _)) (HX.out.kept (below_regrown _ _ _)))))))
            refine wpQuiet_nil ?_
            intro wy hw'
            obtain ⟨⟨dq,oq⟩,hw''⟩:=hw'
            have hdx:=below_regrown w7 dq oq
            rw [← hw''] at hdx
            replace hb:=hb.trans (hdx.mono hb.size)
            clear hw'' hdx b10 b11 b12 b14 b20 b21 b22 b23 b24 b26 b27 brc hq
            go_wp2
            go_ret
            exact ⟨ret_bool HN.out.symm,hb⟩
           case pos =>
            have g4:(x.last.score == sc)=true:=beq_iff_eq.2 f4
            have HN:Hid (ans=decide (x.last.score≤20000)):=Lh (by rw [HA.out,decide_eq_true f1,decide_eq_true f2,decide_eq_true f3,decide_eq_true f4];simp)
            clear f1 f2 f4
            refine wp_region_quiet_below (by kernel_rfl) (by kernel_rfl) ?_
            simp only [List.append_eq,List.cons_append,List.nil_append]
            repeat (go_big_quiet_step ((first | (go_at_call 96;exact Calls.regrown_of (HMK.out _ (HX.out.kept (below_regrown _ _ _)))) | (go_at_call 97;exact Calls.regrown_of (HSC.out _ (HG.out.kept (below_regrown _ _ _)) (HX.out.kept (below_regrown _ _ _)))))))
            refine wpQuiet_nil ?_
            intro wy hw'
            obtain ⟨⟨dq,oq⟩,hw''⟩:=hw'
            have hdx:=below_regrown w7 dq oq
            rw [← hw''] at hdx
            replace hb:=hb.trans (hdx.mono hb.size)
            clear hw'' hdx b10 b11 b12 b14 b20 b21 b22 b23 b24 b26 b27 brc hq
            go_wp2
            go_ret
            exact ⟨ret_bool HN.out.symm,hb⟩
end Go.Proofs.YtalnbgcdhcnjfaaGreatDoor
