/- Contracts: the reference's ValidGame; the program's tests of games: whether the tiles are all tiles, whether the last play fits. Go's tables of unicode and unicode/utf8 hold what is laid (CEnv), internal/bytealg's MaxLen a number (EnvL). · Contracts: the program's test of the last play of a game. Go's tables of unicode and unicode/utf8 hold what is laid (CEnv). -/
import Derived.Test.YtalnbgcdhcnjfaaGreatDoorGmR
import Derived.Test.YtalnbgcdhcnjfaaGreatDoorGmI
import Derived.Test.YtalnbgcdhcnjfaaGreatDoorScL
set_option maxRecDepth 100000
set_option maxHeartbeats 8000000
namespace Go.Proofs.YtalnbgcdhcnjfaaGreatDoor
open Go.ChangeShapes Go.WideShapes Go.ChangeAt Go.RowKit Go.Sort

theorem tilesFit_any (x:Gam) (p:GaA) (w:World) (ha:x.At p w) (hk:x.board.ok=true) (hs:x.Sided) (hbg:bagOk x.bag.data.toList=true) (hL:EnvL w) :
  Calls Tryz.prog 44 #[.agg (gcells x p).toArray] w fun e w'=>e=.returned (.bool x.fits)∧Below w.heap.size w w':=by
 have HG:=Lh (GAt.new w x p 51 ha)
 have hb:Below w.heap.size w (w.alloc (.cells (gcells x p).toArray 51)):=(Below.refl _ _).alloc (Nat.le_refl _) _
 have HEL:=Lh (hL.kept hb)
 have hr0:=hs.rack 0 (by omega)
 have hr1:=hs.rack 1 (by omega)
 have hl0:(x.rack 0).size≤7:=by have:=(rack_pile hr0).2;simpa using this
 have hl1:(x.rack 1).size≤7:=by have:=(rack_pile hr1).2;simpa using this
 obtain ⟨hbt,hbl⟩:=bag_parts hbg
 have hbz:x.bag.size≤120:=by simpa using hbl
 have hlt2:=lets_tiles hk
 have h225:=board_225 hk
 have hlc:(lettersL x.board.cells.data.toList).length≤225:=by
  have:=lettersL_len x.board.cells.data.toList
  have h3:x.board.cells.data.toList.length=x.board.cells.size:=by simp
  omega
 have hln:x.lets.length≤225:=by unfold Gam.lets;rw [List.length_map];exact hlc
 have hsl:(srtL x.lets).length≤225:=by rw [srt_len hlt2];exact hln
 have hjt:x.joinI.all tileB=true:=by
  unfold Gam.joinI
  rw [List.all_append,List.all_append,List.all_append,srt_all,rack_tl hr0,rack_tl hr1,hbt]
  rfl
 have HLO:Hid (∀ W,EnvL W→Calls Tryz.prog 79 #[.agg #[.int .i64 x.board.size,.string x.board.premium,.string x.board.cells]] W fun e w'=>e=.returned (.string (mkB (lettersL x.board.cells.data.toList)))∧Below W.heap.size W w'):=Lh (fun W h=>lettersOn_any x.board W h225 h)
 have HTO:Hid (∀ W,Calls Tryz.prog 78 #[.string (mkB (lettersL x.board.cells.data.toList))] W fun e w'=>e=.returned (.string (mkB (srtL x.lets)))∧Below W.heap.size W w'):=Lh (fun W=>by
  have h:=tilesOf_any (mkB (lettersL x.board.cells.data.toList)) W (by rw [mkB_size];omega) (by rw [mkB_data];exact letters_let hk)
  rw [mkB_data] at h
  exact h)
 have hjd:(x.bag++x.rack 0++x.rack 1++mkB (srtL x.lets)).data.toList=x.joinI:=by
  unfold Gam.joinI
  rw [cat_mk,cat_mk,cat_mk,mkB_data,mkB_data,mkB_data,mkB_data]
 have HSO:Hid (∀ W,Calls Tryz.prog 80 #[.string (x.bag++x.rack 0++x.rack 1++mkB (srtL x.lets))] W fun e w'=>e=.returned (.string (mkB (srtL x.joinI)))∧Below W.heap.size W w'):=Lh (fun W=>by
  have h:=sorted_any (x.bag++x.rack 0++x.rack 1++mkB (srtL x.lets)) W (by
   simp only [ByteArray.size_append,mkB_size]
   omega) (by rw [hjd];exact hjt)
  rw [hjd] at h
  exact h)
 have HAL:Hid (∀ W,GAt W w.heap.size x p→Calls Tryz.prog 81 #[.agg #[.string x.setup.tiles.letters,.slice p.setup.tiles.values.a x.setup.tiles.values.length p.setup.tiles.values.c,.slice p.setup.tiles.counts.a x.setup.tiles.counts.length p.setup.tiles.counts.c,.int .i64 x.setup.tiles.blanks]] W fun e w'=>e=.returned (.string (mkB (allL x.setup.tiles)))∧Below W.heap.size W w'):=Lh (fun W h=>allTiles_any x.setup.tiles p.setup.tiles W h.at_.1.1 hs.tiles)
 have HCM:Hid (((mkB (srtL x.joinI)).toList == (mkB (allL x.setup.tiles)).toList)=x.fits):=Lh (by rw [mk_cmp];rfl)
 have hz1:x.bag.size+(x.rack 0).size≤9223372036854775807:=by omega
 have hz2:x.bag.size+(x.rack 0).size+(x.rack 1).size≤9223372036854775807:=by omega
 have hz3:x.bag.size+(x.rack 0).size+(x.rack 1).size+(mkB (srtL x.lets)).size≤9223372036854775807:=by rw [mkB_size];omega
 obtain ⟨rb,ro,hra,hrc⟩:=(HG.out.at_.2.1).open (show 0 < x.racks.length by have:=hs.racks;omega)
 have rc0:(w.alloc (.cells (gcells x p).toArray 51)).cell? ⟨rb,ro+0,none⟩=some (.string (x.rack 0)):=words_cell hrc (show 0 < x.racks.length by have:=hs.racks;omega)
 have rc1:(w.alloc (.cells (gcells x p).toArray 51)).cell? ⟨rb,ro+1,none⟩=some (.string (x.rack 1)):=words_cell hrc (show 1 < x.racks.length by have:=hs.racks;omega)
 rw [Nat.add_zero] at rc0
 have c14:=HG.out.cell (i:=14) rfl
 rw [hra,hs.racks] at c14
 clear ha hk hs hbg hL hr0 hr1 hbt hbl hlt2 h225 hlc hln hsl hjt hjd hrc hra hl0 hl1 hbz
 generalize x.rack 0=r0 at *
 generalize x.rack 1=r1 at *
 generalize mkB (srtL x.lets)=T at *
 generalize mkB (lettersL x.board.cells.data.toList)=U at *
 generalize mkB (srtL x.joinI)=S1 at *
 generalize mkB (allL x.setup.tiles)=S2 at *
 generalize x.fits=fv at *
 have hcm:=HCM.out
 clear HCM
 obtain ⟨cs,hcs⟩:∃ cs,cs=gcells x p:=⟨_,rfl⟩
 rw [← hcs]
 rw [← hcs] at HG hb HEL rc0 rc1 c14
 clear hcs
 go_enter Tryz.func44,Tryz.ntmps44
 go_upto_region 1 with fail
 generalize w.alloc (.cells cs.toArray 51)=w1 at *
 have b0:=cell_regrown rc0
 have b1:=cell_regrown rc1
 have b14:=cell_regrown c14
 have b13:=cell_regrown (HG.out.cell (i:=13) rfl)
 have b10:=cell_regrown (HG.out.cell (i:=10) rfl)
 have b11:=cell_regrown (HG.out.cell (i:=11) rfl)
 have b12:=cell_regrown (HG.out.cell (i:=12) rfl)
 clear rc0 rc1 c14
 refine wp_region_quiet_below (by kernel_rfl) (by kernel_rfl) ?_
 repeat (go_big_quiet_step ((first | (go_at_call 79;exact Calls.regrown_of (HLO.out _ (HEL.out.kept (below_regrown _ _ _)))) | (go_at_call 78;exact Calls.regrown_of (HTO.out _)))))
 refine wpQuiet_nil ?_
 intro wx hw'
 obtain ⟨⟨dq,oq⟩,hw''⟩:=hw'
 have hd:=below_regrown w1 dq oq
 rw [← hw''] at hd
 clear hw'' b0 b1 b13 b14 b10 b11 b12
 replace hb:=hb.trans (hd.mono hb.size)
 replace HG:=Lh (HG.out.kept hd)
 clear hd
 go_upto_region 2 with fail
 have b0:=cell_regrown (HG.out.cell (i:=0) rfl)
 have b1:=cell_regrown (HG.out.cell (i:=1) rfl)
 have b2:=cell_regrown (HG.out.cell (i:=2) rfl)
 have b3:=cell_regrown (HG.out.cell (i:=3) rfl)
 refine wp_region_quiet_below (by kernel_rfl) (by kernel_rfl) ?_
 repeat (go_big_quiet_step ((first | (go_at_call 80;exact Calls.regrown_of (HSO.out _)) | (go_at_call 81;exact Calls.regrown_of (HAL.out _ (HG.out.kept (below_regrown _ _ _)))))))
 refine wpQuiet_nil ?_
 intro wy hw'
 obtain ⟨⟨dq2,oq2⟩,hw''⟩:=hw'
 have hd:=below_regrown wx dq2 oq2
 rw [← hw''] at hd
 clear hw'' b0 b1 b2 b3
 replace hb:=hb.trans (hd.mono hb.size)
 clear hd
 go_wp2
 go_ret
 exact ⟨rfl,hb⟩
end Go.Proofs.YtalnbgcdhcnjfaaGreatDoor

namespace Go.Proofs.YtalnbgcdhcnjfaaGreatDoor
open Go.ChangeShapes Go.WideShapes Go.ChangeAt Go.RowKit Go.Sort

theorem play_no0 {x:Gam} (hs:x.Sided) (h:withinB x.last.player 0 1=false):x.playOk=false:=play_no1 fun e=>by
 have h1:=hs.p0
 have h2:=hs.p1
 rw [within_not] at h
 omega
theorem play_no6 {x:Gam} (h:decide ((x.before.made x.last.play).cells=x.board.cells)=false):x.playOk=false:=by unfold Gam.playOk;rw [h];simp
theorem play_no7 {x:Gam} (h:¬ x.placed≤7):x.playOk=false:=by unfold Gam.playOk;rw [decide_eq_false h];simp
theorem play_no8 {x:Gam} (h:¬ x.last.drawn.size≤x.placed):x.playOk=false:=by unfold Gam.playOk;rw [decide_eq_false h];simp
theorem play_no9 {x:Gam} (h:¬ (x.mover.size:Int) - x.last.drawn.size+x.placed≤7):x.playOk=false:=by unfold Gam.playOk;rw [decide_eq_false h];simp
theorem play_no10 {x:Gam} (h:hasT x.mover.data.toList x.last.drawn.data.toList=false):x.playOk=false:=by unfold Gam.playOk;rw [h];simp
theorem play_end {x:Gam} (h1:x.last.player=1 - x.player) (h2:x.before.okPlay x.last.play=true) (h3:decide ((x.before.made x.last.play).cells=x.board.cells)=true) (h4:x.placed≤7) (h5:bagOk x.last.drawn.data.toList=true) (h6:x.last.drawn.size≤x.placed) (h7:(x.mover.size:Int) - x.last.drawn.size+x.placed≤7) (h8:hasT x.mover.data.toList x.last.drawn.data.toList=true) :
  x.playOk=(decide (x.last.score=x.before.score x.last.play x.setup.tiles) && (decide (x.last.score≤20000) && (withinB x.last.zeros 0 5 && decide (x.zeros=0)))):=by
 unfold Gam.playOk
 rw [decide_eq_true h1,h2,h3,decide_eq_true h4,h5,decide_eq_true h6,decide_eq_true h7,h8]
 rfl
theorem GAt.grown' {w w':World} {g X:Nat} {x:Gam} {p:GaA} (h:GAt w g x p) (hg:w.grownBy w' (some X)) (hne:g≠X) (ha:x.At p w'):GAt w' g x p :=
 ⟨fun j v hv=>hg.cell (h.cells j v hv) (by simpa using hne),ha⟩
theorem playFits_any (x:Gam) (p:GaA) (w:World) (ha:x.At p w) (hf:x.fit) (hs:x.Sided) (hwz:x.last.play.word.size≤1048576) (hE:CEnv w) :
  Calls Tryz.prog 82 #[.agg (gcells x p).toArray] w fun e w'=>e=.returned (.bool x.playOk)∧Below w.heap.size w w':=by
 obtain ⟨⟨hfs,_,_⟩,hfb,_,_,_,_,⟨hfp,hfbe,hfd⟩⟩:=hf
 have hbf:x.before.fit:=⟨hfb.1,hfbe⟩
 have HG:=Lh (GAt.new w x p 51 ha)
 have hb:Below w.heap.size w (w.alloc (.cells (gcells x p).toArray 51)):=(Below.refl _ _).alloc (Nat.le_refl _) _
 have HE:=Lh (hE.kept hb)
 have HWI:Hid (∀ W,Calls Tryz.prog 42 #[.int .i64 x.last.player,.int .i64 0,.int .i64 1] W fun e w'=>e=.returned (.bool (withinB x.last.player 0 1))∧Below W.heap.size W w'):=Lh (fun W=>below_of_eq (within_any _ _ _ W))
 have HWZ:Hid (∀ W,Calls Tryz.prog 42 #[.int .i64 x.last.zeros,.int .i64 0,.int .i64 5] W fun e w'=>e=.returned (.bool (withinB x.last.zeros 0 5))∧Below W.heap.size W w'):=Lh (fun W=>below_of_eq (within_any _ _ _ W))
 have HVP:Hid (∀ W,CEnv W→Calls Tryz.prog 111 #[.agg #[.int .i64 x.board.size,.string x.board.premium,.string x.last.before],.agg #[.int .i64 x.last.play.row,.int .i64 x.last.play.col,.bool x.last.play.down,.string x.last.play.word]] W fun e w'=>e=.returned (.bool (x.before.okPlay x.last.play))∧Below W.heap.size W w'):=Lh (fun W h=>ValidPlay_any x.before x.last.play W hbf hwz h)
 have wr1:IntKind.i64.wrap (1 - x.player)=1 - x.player:=IntWalk.i64_in _ (by have:=hs.p0;have:=hs.p1;omega)
 have HSD:=Lh hs
 have HFD:=Lh hfd
 have hgq:Tryz.prog.eqGuardType Tryz.prog.depth 44=false:=by kernel_rfl
 have HN0:=Lh (fun a=>play_no0 (x:=x) hs a)
 have HN1:=Lh (fun a=>play_no1 (x:=x) a)
 have HN2:=Lh (fun a=>play_no2 (x:=x) a)
 have HN5:=Lh (fun a=>play_no5 (x:=x) a)
 have HN6:=Lh (fun a=>play_no6 (x:=x) a)
 have HN7:=Lh (fun a=>play_no7 (x:=x) a)
 have HN8:=Lh (fun a=>play_no8 (x:=x) a)
 have HN9:=Lh (fun a=>play_no9 (x:=x) a)
 have HN10:=Lh (fun a=>play_no10 (x:=x) a)
 have HEN:=Lh (fun a b c d e f g h=>play_end (x:=x) a b c d e f g h)
 have HMD:Hid (x.before.okPlay x.last.play=true→∀ W,Calls Tryz.prog 112 #[.agg #[.int .i64 x.board.size,.string x.board.premium,.string x.last.before],.agg #[.int .i64 x.last.play.row,.int .i64 x.last.play.col,.bool x.last.play.down,.string x.last.play.word]] W fun e w'=>e=.returned (.agg #[.int .i64 (x.before.made x.last.play).size,.string (x.before.made x.last.play).premium,.string (x.before.made x.last.play).cells])∧Below W.heap.size W w'):=Lh (fun h W=>by
  obtain ⟨n,hp⟩:=okPlay_good h
  exact made_any x.before x.last.play n W hp)
 have HBQ:Hid (∀ W,(binOp .neq 44 (.agg #[.int .i64 (x.before.made x.last.play).size,.string (x.before.made x.last.play).premium,.string (x.before.made x.last.play).cells]) (.agg #[.int .i64 x.board.size,.string x.board.premium,.string x.board.cells])).run Tryz.prog W=.ok (.bool (!decide ((x.before.made x.last.play).cells=x.board.cells))) W):=Lh (fun W=>by rw [neq_board,made_eq])
 have HA0:=Lh ha
 have HE0:=Lh hE
 clear ha hs hwz hE hbf hfp hfbe hfb hfs hfd
 generalize hans:x.playOk=ans at *
 clear hans
 obtain ⟨cs,hcs⟩:∃ cs,cs=gcells x p:=⟨_,rfl⟩
 rw [← hcs]
 rw [← hcs] at HG hb HE
 clear hcs
 go_enter Tryz.func82,Tryz.ntmps82
 go_upto_region 1 with fail
 generalize w.alloc (.cells cs.toArray 51)=w1 at *
 have c19:=HG.out.cell (i:=19) rfl
 have c20:=HG.out.cell (i:=20) rfl
 have c21:=HG.out.cell (i:=21) rfl
 have c22:=HG.out.cell (i:=22) rfl
 have c23:=HG.out.cell (i:=23) rfl
 have c24:=HG.out.cell (i:=24) rfl
 have c25:=HG.out.cell (i:=25) rfl
 have c26:=HG.out.cell (i:=26) rfl
 have c27:=HG.out.cell (i:=27) rfl
 have c28:=HG.out.cell (i:=28) rfl
 have VL:=Lh (VarAt.new w1 49 [.int .i64 x.last.kind,.int .i64 x.last.player,.int .i64 x.last.play.row,.int .i64 x.last.play.col,.bool x.last.play.down,.string x.last.play.word,.string x.last.before,.string x.last.drawn,.int .i64 x.last.score,.int .i64 x.last.zeros])
 go_upto_region 2 with fail
 clear c19 c20 c21 c22 c23 c24 c25 c26 c27 c28
 have hd:Below w1.heap.size w1 (w1.alloc (.cells #[.int .i64 x.last.kind,.int .i64 x.last.player,.int .i64 x.last.play.row,.int .i64 x.last.play.col,.bool x.last.play.down,.string x.last.play.word,.string x.last.before,.string x.last.drawn,.int .i64 x.last.score,.int .i64 x.last.zeros] 49)):=(Below.refl _ _).alloc (Nat.le_refl _) _
 have hz1:w.heap.size < w1.heap.size:=HG.out.lt
 have hz2:w1.heap.size < (w1.alloc (.cells #[.int .i64 x.last.kind,.int .i64 x.last.player,.int .i64 x.last.play.row,.int .i64 x.last.play.col,.bool x.last.play.down,.string x.last.play.word,.string x.last.before,.string x.last.drawn,.int .i64 x.last.score,.int .i64 x.last.zeros] 49)).heap.size:=by simp
 replace hb:=hb.trans (hd.mono hb.size)
 replace HG:=Lh (HG.out.kept hd)
 replace HE:=Lh (HE.out.kept hd)
 clear hd
 generalize w1.alloc (.cells #[.int .i64 x.last.kind,.int .i64 x.last.player,.int .i64 x.last.play.row,.int .i64 x.last.play.col,.bool x.last.play.down,.string x.last.play.word,.string x.last.before,.string x.last.drawn,.int .i64 x.last.score,.int .i64 x.last.zeros] 49)=w2 at *
 generalize w1.heap.size=Y at *
 have c10:=HG.out.cell (i:=10) rfl
 have c11:=HG.out.cell (i:=11) rfl
 have c12:=HG.out.cell (i:=12) rfl
 go_upto_region 3 with fail
 clear c10 c11 c12
 have VB:=VarAt.new w2 44 [.int .i64 x.board.size,.string x.board.premium,.string x.board.cells]
 have hd:Below w2.heap.size w2 (w2.alloc (.cells #[.int .i64 x.board.size,.string x.board.premium,.string x.board.cells] 44)):=(Below.refl _ _).alloc (Nat.le_refl _) _
 replace hb:=hb.trans (hd.mono hb.size)
 replace HG:=Lh (HG.out.kept hd)
 replace HE:=Lh (HE.out.kept hd)
 replace VL:=Lh (VL.out.kept hd)
 clear hd
 generalize w2.alloc (.cells #[.int .i64 x.board.size,.string x.board.premium,.string x.board.cells] 44)=w3 at *
 generalize w2.heap.size=X at *
 have l6:=VL.out.cell (i:=6) rfl
 have q2:=VB.cell (i:=2) rfl
 have f2:=VB.free 2
 go_upto_region 4 with fail
 clear l6 q2 f2
 obtain ⟨oX,kX⟩:=VB.set 2 (.string x.last.before)
 have HX:Hid (VarAt (w3.setCell ⟨X,2,none⟩ (.string x.last.before)) X 44 [.int .i64 x.board.size,.string x.board.premium,.string x.last.before]):=Lh oX
 have hb4:=hb.grown kX hb.size (fun q h=>by cases h;omega)
 have hG4:GAt (w3.setCell ⟨X,2,none⟩ (.string x.last.before)) w.heap.size x p:=by
  exact HG.out.grown' kX (by omega) (Gam.At.kept HA0.out hb4)
 have HG4:=Lh hG4
 have VL4:=Lh (VL.out.grown kX (by simp;omega))
 have HE4:Hid (CEnv (w3.setCell ⟨X,2,none⟩ (.string x.last.before))):=Lh (HE0.out.kept hb4)
 clear VB oX kX hG4 HG VL hb HE
 generalize w3.setCell ⟨X,2,none⟩ (.string x.last.before)=w4 at *
 have HG:=HG4
 have VL:=VL4
 have HE:=HE4
 have hb:=hb4
 clear HG4 VL4 HE4 hb4
 have a10:=cell_regrown (HG.out.cell (i:=10) rfl)
 have a11:=cell_regrown (HG.out.cell (i:=11) rfl)
 have a12:=cell_regrown (HG.out.cell (i:=12) rfl)
 have a17:=cell_regrown (HG.out.cell (i:=17) rfl)
 have l1:=cell_regrown (VL.out.cell (i:=1) rfl)
 have l2:=cell_regrown (VL.out.cell (i:=2) rfl)
 have l3:=cell_regrown (VL.out.cell (i:=3) rfl)
 have l4:=cell_regrown (VL.out.cell (i:=4) rfl)
 have l5:=cell_regrown (VL.out.cell (i:=5) rfl)
 have x0:=cell_regrown (HX.out.cell (i:=0) rfl)
 have x1:=cell_regrown (HX.out.cell (i:=1) rfl)
 have x2:=cell_regrown (HX.out.cell (i:=2) rfl)
 cases e0:withinB x.last.player 0 1 with
 | false =>
  have HN:=Lh (HN0.out e0)
  rw [e0] at HWI
  clear e0
  refine wp_region_quiet_below (by kernel_rfl) (by kernel_rfl) ?_
  repeat (go_big_quiet_step ((first | (go_at_call 42;exact Calls.regrown_of (HWI.out _)) | (go_at_call 111;exact Calls.regrown_of (HVP.out _ (HE.out.kept (below_regrown _ _ _)))) | (go_at_call 112;exact Calls.regrown_of (HMD.out _)))))
  refine wpQuiet_nil ?_
  intro wx hw'
  obtain ⟨⟨dq,oq⟩,hw''⟩:=hw'
  have hd:=below_regrown w4 dq oq
  rw [← hw''] at hd
  clear hw'' a10 a11 a12 a17 l1 l2 l3 l4 l5 x0 x1 x2
  replace hb:=hb.trans (hd.mono hb.size)
  replace HG:=Lh (HG.out.kept hd)
  replace VL:=Lh (VL.out.kept hd)
  replace HX:=Lh (HX.out.kept hd)
  clear hd
  go_wp2
  go_ret
  exact ⟨ret_bool HN.out.symm,hb⟩
 | true =>
  rw [e0] at HWI
  have HW01:=Lh (within_iff.1 e0)
  clear e0
  by_cases e1:x.last.player=1 - x.player
  case neg =>
   have HN:=Lh (HN1.out e1)
   have e1':(x.last.player != 1 - x.player)=true:=by rw [bne_iff_ne];exact e1
   clear e1
   refine wp_region_quiet_below (by kernel_rfl) (by kernel_rfl) ?_
   repeat (go_big_quiet_step ((first | (go_at_call 42;exact Calls.regrown_of (HWI.out _)) | (go_at_call 111;exact Calls.regrown_of (HVP.out _ (HE.out.kept (below_regrown _ _ _)))) | (go_at_call 112;exact Calls.regrown_of (HMD.out _)))))
   refine wpQuiet_nil ?_
   intro wx hw'
   obtain ⟨⟨dq,oq⟩,hw''⟩:=hw'
   have hd:=below_regrown w4 dq oq
   rw [← hw''] at hd
   clear hw'' a10 a11 a12 a17 l1 l2 l3 l4 l5 x0 x1 x2
   replace hb:=hb.trans (hd.mono hb.size)
   replace HG:=Lh (HG.out.kept hd)
   replace VL:=Lh (VL.out.kept hd)
   replace HX:=Lh (HX.out.kept hd)
   clear hd
   go_wp2
   go_ret
   exact ⟨ret_bool HN.out.symm,hb⟩
  case pos =>
   have HE1:=Lh e1
   have e1':(x.last.player != 1 - x.player)=false:=by rw [e1];simp
   clear e1
   cases e2:x.before.okPlay x.last.play with
   | false =>
    have HN:=Lh (HN2.out e2)
    rw [e2] at HVP
    clear e2
    refine wp_region_quiet_below (by kernel_rfl) (by kernel_rfl) ?_
    repeat (go_big_quiet_step ((first | (go_at_call 42;exact Calls.regrown_of (HWI.out _)) | (go_at_call 111;exact Calls.regrown_of (HVP.out _ (HE.out.kept (below_regrown _ _ _)))) | (go_at_call 112;exact Calls.regrown_of (HMD.out _)))))
    refine wpQuiet_nil ?_
    intro wx hw'
    obtain ⟨⟨dq,oq⟩,hw''⟩:=hw'
    have hd:=below_regrown w4 dq oq
    rw [← hw''] at hd
    clear hw'' a10 a11 a12 a17 l1 l2 l3 l4 l5 x0 x1 x2
    replace hb:=hb.trans (hd.mono hb.size)
    replace HG:=Lh (HG.out.kept hd)
    replace VL:=Lh (VL.out.kept hd)
    replace HX:=Lh (HX.out.kept hd)
    clear hd
    go_wp2
    go_ret
    exact ⟨ret_bool HN.out.symm,hb⟩
   | true =>
    have HE2:=Lh e2
    rw [e2] at HVP
    replace HMD:=Lh (HMD.out e2)
    clear e2
    cases e6:decide ((x.before.made x.last.play).cells=x.board.cells) with
    | false =>
     have HN:=Lh (HN6.out e6)
     rw [e6] at HBQ
     clear e6
     generalize x.before.made x.last.play=md at *
     obtain ⟨m0,m1,m2⟩:=md
     simp only at HMD HBQ
     have hq:=HBQ.out
     refine wp_region_quiet_below (by kernel_rfl) (by kernel_rfl) ?_
     repeat (go_big_quiet_step ((first | (go_at_call 42;exact Calls.regrown_of (HWI.out _)) | (go_at_call 111;exact Calls.regrown_of (HVP.out _ (HE.out.kept (below_regrown _ _ _)))) | (go_at_call 112;exact Calls.regrown_of (HMD.out _)))))
     refine wpQuiet_nil ?_
     intro wx hw'
     obtain ⟨⟨dq,oq⟩,hw''⟩:=hw'
     have hd:=below_regrown w4 dq oq
     rw [← hw''] at hd
     clear hw'' a10 a11 a12 a17 l1 l2 l3 l4 l5 x0 x1 x2
     replace hb:=hb.trans (hd.mono hb.size)
     replace HG:=Lh (HG.out.kept hd)
     replace VL:=Lh (VL.out.kept hd)
     replace HX:=Lh (HX.out.kept hd)
     clear hd
     go_wp2
     go_ret
     exact ⟨ret_bool HN.out.symm,hb⟩
    | true =>
     have HE6:=Lh e6
     rw [e6] at HBQ
     clear e6
     replace HEN:=Lh (fun d e f g h=>HEN.out HE1.out HE2.out HE6.out d e f g h)
     obtain ⟨n,hp⟩:=okPlay_good HE2.out
     have hs12:=hp.twelve
     have hfl:x.placed≤x.last.play.word.size:=freshL_len _ _ _ _
     have HNS:Hid (∀ W,Calls Tryz.prog 113 #[.agg #[.int .i64 x.board.size,.string x.board.premium,.string x.last.before],.agg #[.int .i64 x.last.play.row,.int .i64 x.last.play.col,.bool x.last.play.down,.string x.last.play.word]] W (NewPost x.last.play (x.before.fresh x.last.play) W)):=Lh (fun W=>newSquares_any x.before x.last.play n W hp)
     have HSC:Hid (∀ W,GAt W w.heap.size x p→Calls Tryz.prog 115 #[.agg #[.string x.setup.tiles.letters,.slice p.setup.tiles.values.a x.setup.tiles.values.length p.setup.tiles.values.c,.slice p.setup.tiles.counts.a x.setup.tiles.counts.length p.setup.tiles.counts.c,.int .i64 x.setup.tiles.blanks],.agg #[.int .i64 x.board.size,.string x.board.premium,.string x.last.before],.agg #[.int .i64 x.last.play.row,.int .i64 x.last.play.col,.bool x.last.play.down,.string x.last.play.word]] W fun e w'=>e=.returned (.int .i64 (x.before.score x.last.play x.setup.tiles))∧Below W.heap.size W w'):=Lh (fun W h=>scorePlay_any x.setup.tiles p.setup.tiles x.before x.last.play n W h.at_.1.1 (Tls.good HSD.out.tiles) hp)
     obtain ⟨k,hk,hk2⟩:∃ k:Nat,x.last.player=(k:Int)∧k < 2:=by
      have h1:=HW01.out
      exact ⟨x.last.player.toNat,by omega,by omega⟩
     have hmv:x.mover=x.rack k:=by unfold Gam.mover;rw [hk,Int.toNat_natCast]
     have hrk:=HSD.out.rack k hk2
     have hms:(x.rack k).size≤7:=by have:=(rack_pile hrk).2;simpa using this
     have hrl:x.racks.length=2:=HSD.out.racks
     have HPL:Hid ((x.before.fresh x.last.play).length=x.placed):=Lh rfl
     have HK:=Lh hk
     have HMV:=Lh hmv
     have HRL:=Lh hrl
     clear hk hmv hrl
     generalize hmd:x.before.made x.last.play=md at *
     clear hmd
     obtain ⟨m0,m1,m2⟩:=md
     simp only at HMD HBQ
     have hq:=HBQ.out
     refine wp_region_quiet_below (by kernel_rfl) (by kernel_rfl) ?_
     repeat (go_big_quiet_step ((first | (go_at_call 42;exact Calls.regrown_of (HWI.out _)) | (go_at_call 111;exact Calls.regrown_of (HVP.out _ (HE.out.kept (below_regrown _ _ _)))) | (go_at_call 112;exact Calls.regrown_of (HMD.out _)))))
     refine wpQuiet_nil ?_
     intro wx hw'
     obtain ⟨⟨dq,oq⟩,hw''⟩:=hw'
     have hd:=below_regrown w4 dq oq
     rw [← hw''] at hd
     clear hw'' a10 a11 a12 a17 l1 l2 l3 l4 l5 x0 x1 x2
     replace hb:=hb.trans (hd.mono hb.size)
     replace HG:=Lh (HG.out.kept hd)
     replace VL:=Lh (VL.out.kept hd)
     replace HX:=Lh (HX.out.kept hd)
     clear hd
     clear HBQ hq HWI HVP HMD HN0 HN1 HN2 HN6 e1'
     have x0:=HX.out.cell (i:=0) rfl
     have x1:=HX.out.cell (i:=1) rfl
     have x2:=HX.out.cell (i:=2) rfl
     have l2:=VL.out.cell (i:=2) rfl
     have l3:=VL.out.cell (i:=3) rfl
     have l4:=VL.out.cell (i:=4) rfl
     have l5:=VL.out.cell (i:=5) rfl
     go_wp2_with fail
     refine (HNS.out _).mono ?_
     rintro e w6 ⟨gs,ds,gi,di,rfl,hgg,hx,hxi,hd⟩
     clear hgg hx hxi HNS x0 x1 x2 l2 l3 l4 l5
     replace hb:=hb.trans (hd.mono hb.size)
     replace HG:=Lh (HG.out.kept hd)
     replace VL:=Lh (VL.out.kept hd)
     replace HX:=Lh (HX.out.kept hd)
     clear hd
     rw [HPL.out]
     have hrl:=HRL.out
     obtain ⟨rb,ro,hra,hrc⟩:=(HG.out.at_.2.1).open (show k < x.racks.length by omega)
     have rc:w6.cell? ⟨rb,ro+k,none⟩=some (.string (x.rack k)):=words_cell hrc (show k < x.racks.length by omega)
     have c14:=HG.out.cell (i:=14) rfl
     rw [hra,hrl] at c14
     have l1:=VL.out.cell (i:=1) rfl
     rw [HK.out] at l1
     have hki:(k:Int) < 2:=by omega
     rw [HMV.out] at HEN HN9 HN10
     have hqr:=rack_tiles hrk
     clear hra hrc hrl hrk
     have HWO:Hid (x.last.drawn.size≤120→x.last.drawn.data.toList.all tileB=true→∀ W,Calls Tryz.prog 114 #[.string (x.rack k),.string x.last.drawn] W fun e w'=>e=.returned (.tuple #[.string (mkB (restL (x.rack k).data.toList x.last.drawn.data.toList)),.bool (hasT (x.rack k).data.toList x.last.drawn.data.toList)])∧Below W.heap.size W w'):=Lh (fun h1 h2 W=>without_any (x.rack k) x.last.drawn W (by omega) (by omega) hqr h2)
     have HVB:Hid (∀ W,Calls Tryz.prog 41 #[.string x.last.drawn] W fun e w'=>e=.returned (.bool (bagOk x.last.drawn.data.toList))∧W=w'):=Lh (fun W=>ValidBag_any _ W HFD.out)
     clear hqr hp
     generalize mkB (restL (x.rack k).data.toList x.last.drawn.data.toList)=rs at *
     generalize x.placed=m at *
     generalize x.before.score x.last.play x.setup.tiles=sc at *
     go_upto_region 7 with fail
     go_quiet (fail)
     have hd:Below w6.heap.size w6 (w6.drewN nq):=(Drew.drewN (Drew.refl _) nq).below _
     clear rc c14 l1
     replace hb:=hb.trans (hd.mono hb.size)
     replace HG:=Lh (HG.out.kept hd)
     replace VL:=Lh (VL.out.kept hd)
     replace HX:=Lh (HX.out.kept hd)
     clear hd
     generalize w6.drewN nq=w7 at *
     have l7:=VL.out.cell (i:=7) rfl
     by_cases f1:m≤7
     case neg =>
      have HN:=Lh (HN7.out f1)
      have g1:(7:Int) < (m:Int):=by omega
      clear f1
      go_wp2
      go_ret
      exact ⟨ret_bool HN.out.symm,hb⟩
     case pos =>
      have g1:¬ (7:Int) < (m:Int):=by omega
      cases f2:bagOk x.last.drawn.data.toList with
      | false =>
       have HN:=Lh (HN5.out f2)
       rw [f2] at HVB
       clear f2 f1
       go_wp2_with fail
       refine (HVB.out _).mono ?_
       rintro e w' ⟨rfl,rfl⟩
       go_wp2
       go_ret
       exact ⟨ret_bool HN.out.symm,hb⟩
      | true =>
       obtain ⟨hdt,hdl⟩:=bag_parts f2
       have hds:x.last.drawn.size≤120:=by simpa using hdl
       replace HWO:=Lh (HWO.out hds hdt)
       have F2:=Lh f2
       rw [f2] at HVB
       clear f2 hdt hdl
       by_cases f3:x.last.drawn.size≤m
       case neg =>
        have HN:=Lh (HN8.out f3)
        have g3:(m:Int) < (x.last.drawn.size:Int):=by omega
        clear f3 f1
        go_wp2_with fail
        refine (HVB.out _).mono ?_
        rintro e w' ⟨rfl,rfl⟩
        go_wp2
        go_ret
        exact ⟨ret_bool HN.out.symm,hb⟩
       case pos =>
        have g3:¬ (m:Int) < (x.last.drawn.size:Int):=by omega
        have wr2:IntKind.i64.wrap (((x.rack k).size:Int) - (x.last.drawn.size:Int))=((x.rack k).size:Int) - x.last.drawn.size:=IntWalk.i64_in _ (by omega)
        have wr3:IntKind.i64.wrap (((x.rack k).size:Int) - (x.last.drawn.size:Int)+(m:Int))=((x.rack k).size:Int) - x.last.drawn.size+m:=IntWalk.i64_in _ (by omega)
        by_cases f4:((x.rack k).size:Int) - x.last.drawn.size+m≤7
        case neg =>
         have HN:=Lh (HN9.out (by omega))
         have g4:(7:Int) < ((x.rack k).size:Int) - x.last.drawn.size+m:=by omega
         clear f4 f3 f1
         go_wp2_with fail
         refine (HVB.out _).mono ?_
         rintro e w' ⟨rfl,rfl⟩
         go_wp2
         go_ret
         exact ⟨ret_bool HN.out.symm,hb⟩
        case pos =>
         have g4:¬ (7:Int) < ((x.rack k).size:Int) - x.last.drawn.size+m:=by omega
         replace HEN:=Lh (fun h=>HEN.out f1 F2.out f3 f4 h)
         clear f4 f3 f1 F2 HN5 HN7 HN8 HN9
         go_wp2_with fail
         refine (HVB.out _).mono ?_
         rintro e w' ⟨rfl,rfl⟩
         go_wp2_with fail
         refine (HWO.out _).mono ?_
         rintro e w9 ⟨rfl,hd⟩
         clear l7 g1 g3 g4 wr2 wr3 HVB HWO
         replace hb:=hb.trans (hd.mono hb.size)
         replace HG:=Lh (HG.out.kept hd)
         replace VL:=Lh (VL.out.kept hd)
         replace HX:=Lh (HX.out.kept hd)
         clear hd
         cases f5:hasT (x.rack k).data.toList x.last.drawn.data.toList with
         | false =>
          have HN:=Lh (HN10.out f5)
          clear f5
          go_wp2
          go_ret
          exact ⟨ret_bool HN.out.symm,hb⟩
         | true =>
          replace HEN:=Lh (HEN.out f5)
          clear f5 HN10
          go_upto_region 13 with fail
          have a0:=cell_regrown (HG.out.cell (i:=0) rfl)
          have a1:=cell_regrown (HG.out.cell (i:=1) rfl)
          have a2:=cell_regrown (HG.out.cell (i:=2) rfl)
          have a3:=cell_regrown (HG.out.cell (i:=3) rfl)
          have a18:=cell_regrown (HG.out.cell (i:=18) rfl)
          have l2:=cell_regrown (VL.out.cell (i:=2) rfl)
          have l3:=cell_regrown (VL.out.cell (i:=3) rfl)
          have l4:=cell_regrown (VL.out.cell (i:=4) rfl)
          have l5:=cell_regrown (VL.out.cell (i:=5) rfl)
          have l8:=cell_regrown (VL.out.cell (i:=8) rfl)
          have l9:=cell_regrown (VL.out.cell (i:=9) rfl)
          have x0:=cell_regrown (HX.out.cell (i:=0) rfl)
          have x1:=cell_regrown (HX.out.cell (i:=1) rfl)
          have x2:=cell_regrown (HX.out.cell (i:=2) rfl)
          by_cases f6:x.last.score=sc
          case neg =>
           have g6:(x.last.score == sc)=false:=beq_eq_false_iff_ne.2 f6
           have HN:Hid (ans=false):=Lh (by rw [HEN.out,decide_eq_false f6];rfl)
           clear f6
           refine wp_region_quiet_below (by kernel_rfl) (by kernel_rfl) ?_
           repeat (go_big_quiet_step ((first | (go_at_call 42;exact Calls.regrown_of (HWZ.out _)) | (go_at_call 115;exact Calls.regrown_of (HSC.out _ (HG.out.kept (below_regrown _ _ _)))))))
           refine wpQuiet_nil ?_
           intro wy hw'
           obtain ⟨⟨dq,oq⟩,hw''⟩:=hw'
           have hd:=below_regrown w9 dq oq
           rw [← hw''] at hd
           replace hb:=hb.trans (hd.mono hb.size)
           clear hw'' hd a0 a1 a2 a3 a18 l2 l3 l4 l5 l8 l9 x0 x1 x2
           go_wp2
           go_ret
           exact ⟨ret_bool HN.out.symm,hb⟩
          case pos =>
           have g6:(x.last.score == sc)=true:=beq_iff_eq.2 f6
           have HN6:Hid (ans=(decide (x.last.score≤20000) && (withinB x.last.zeros 0 5 && decide (x.zeros=0)))):=Lh (by rw [HEN.out,decide_eq_true f6];rfl)
           clear f6
           by_cases f7:x.last.score≤20000
           case neg =>
            have HN:Hid (ans=false):=Lh (by rw [HN6.out,decide_eq_false f7];rfl)
            refine wp_region_quiet_below (by kernel_rfl) (by kernel_rfl) ?_
            repeat (go_big_quiet_step ((first | (go_at_call 42;exact Calls.regrown_of (HWZ.out _)) | (go_at_call 115;exact Calls.regrown_of (HSC.out _ (HG.out.kept (below_regrown _ _ _)))))))
            refine wpQuiet_nil ?_
            intro wy hw'
            obtain ⟨⟨dq,oq⟩,hw''⟩:=hw'
            have hd:=below_regrown w9 dq oq
            rw [← hw''] at hd
            replace hb:=hb.trans (hd.mono hb.size)
            clear hw'' hd a0 a1 a2 a3 a18 l2 l3 l4 l5 l8 l9 x0 x1 x2
            go_wp2
            go_ret
            exact ⟨ret_bool HN.out.symm,hb⟩
           case pos =>
            cases f8:withinB x.last.zeros 0 5 with
            | false =>
             have HN:Hid (ans=false):=Lh (by rw [HN6.out,f8];simp)
             rw [f8] at HWZ
             clear f8
             refine wp_region_quiet_below (by kernel_rfl) (by kernel_rfl) ?_
             repeat (go_big_quiet_step ((first | (go_at_call 42;exact Calls.regrown_of (HWZ.out _)) | (go_at_call 115;exact Calls.regrown_of (HSC.out _ (HG.out.kept (below_regrown _ _ _)))))))
             refine wpQuiet_nil ?_
             intro wy hw'
             obtain ⟨⟨dq,oq⟩,hw''⟩:=hw'
             have hd:=below_regrown w9 dq oq
             rw [← hw''] at hd
             replace hb:=hb.trans (hd.mono hb.size)
             clear hw'' hd a0 a1 a2 a3 a18 l2 l3 l4 l5 l8 l9 x0 x1 x2
             go_wp2
             go_ret
             exact ⟨ret_bool HN.out.symm,hb⟩
            | true =>
             by_cases f9:x.zeros=0
             case neg =>
              have g9:(x.zeros == 0)=false:=beq_eq_false_iff_ne.2 f9
              have HN:Hid (ans=false):=Lh (by rw [HN6.out,decide_eq_false f9];simp)
              rw [f8] at HWZ
              clear f8 f9
              refine wp_region_quiet_below (by kernel_rfl) (by kernel_rfl) ?_
              repeat (go_big_quiet_step ((first | (go_at_call 42;exact Calls.regrown_of (HWZ.out _)) | (go_at_call 115;exact Calls.regrown_of (HSC.out _ (HG.out.kept (below_regrown _ _ _)))))))
              refine wpQuiet_nil ?_
              intro wy hw'
              obtain ⟨⟨dq,oq⟩,hw''⟩:=hw'
              have hd:=below_regrown w9 dq oq
              rw [← hw''] at hd
              replace hb:=hb.trans (hd.mono hb.size)
              clear hw'' hd a0 a1 a2 a3 a18 l2 l3 l4 l5 l8 l9 x0 x1 x2
              go_wp2
              go_ret
              exact ⟨ret_bool HN.out.symm,hb⟩
             case pos =>
              have g9:(x.zeros == 0)=true:=beq_iff_eq.2 f9
              have HN:Hid (ans=true):=Lh (by rw [HN6.out,decide_eq_true f9,f8,decide_eq_true f7];rfl)
              rw [f8] at HWZ
              clear f8 f9
              refine wp_region_quiet_below (by kernel_rfl) (by kernel_rfl) ?_
              repeat (go_big_quiet_step ((first | (go_at_call 42;exact Calls.regrown_of (HWZ.out _)) | (go_at_call 115;exact Calls.regrown_of (HSC.out _ (HG.out.kept (below_regrown _ _ _)))))))
              refine wpQuiet_nil ?_
              intro wy hw'
              obtain ⟨⟨dq,oq⟩,hw''⟩:=hw'
              have hd:=below_regrown w9 dq oq
              rw [← hw''] at hd
              replace hb:=hb.trans (hd.mono hb.size)
              clear hw'' hd a0 a1 a2 a3 a18 l2 l3 l4 l5 l8 l9 x0 x1 x2
              go_wp2
              go_ret
              exact ⟨ret_bool HN.out.symm,hb⟩
end Go.Proofs.YtalnbgcdhcnjfaaGreatDoor
