/- Contracts: the withdrawal of the last play: the program. Go's tables of unicode and unicode/utf8 hold what is laid (CEnv), internal/bytealg's MaxLen a number (EnvL). -/
import Derived.Test.YtkjhapbjdjcipaaGreatDoorGwS
import Derived.Test.YtkjhapbjdjcipaaGreatDoorLgH
set_option maxRecDepth 100000
set_option maxHeartbeats 8000000
namespace Go.Proofs.YtkjhapbjdjcipaaGreatDoor
open Go.ChangeShapes Go.WideShapes Go.ChangeAt Go.RowKit Go.Sort

theorem lst_play {w:World} {X:Nat} {m:Lst} (h:VarAt w X 46 (lstCells m)):w.rangeAt X 2 [.int .i64 m.play.row,.int .i64 m.play.col,.bool m.play.down,.string m.play.word]:=by
 intro j v hv
 match j,hv with
 | 0,hv=>cases hv;exact h.cell (i:=2) rfl
 | 1,hv=>cases hv;exact h.cell (i:=3) rfl
 | 2,hv=>cases hv;exact h.cell (i:=4) rfl
 | 3,hv=>cases hv;exact h.cell (i:=5) rfl
theorem Gam.Wd.rackB_srt {x:Gam} (h:x.Wd):srtL (restL x.mover.data.toList x.last.drawn.data.toList++srtL (x.before.tiles x.last.play))=x.rackB :=
 srt_congr (List.Perm.append_left _ (srt_perm h.tiles_all))
theorem step_store0 {P:Program} {w:World} {ops:Array Oper} {o:Oper} {act:Act} {K:Act→World→Prop} {Q:Exit→Act→World→Prop} {E:Prop} (hgd:o.guard=none) (hds:o.dst=none) (ty:TypeId) (x y:Operand) (ho:o.op=.store ty x y)
  (b off:Nat) (cells:Array Value) (hx:act.eval x=.pointer (some ⟨b,off,none⟩)) (hy:act.eval y=.agg cells)
  (ht:w.there b off cells.size) (hi:(P.info? ty).map (·.size)=some cells.size) (h1:cells.all (·.oneCell')=true)
  (h:K act (w.setCells b off cells.toList)):if Region.wanted o (yielded ops act.tmps)=true then Oper.wp P o act w K Q else E :=
 step_store hgd ty x y ho b off cells hx hy ht hi h1 (by rw [hds];exact h)
theorem withdraw_any (x:Gam) (q:GaA) (g base:Nat) (w:World) (hg:GBox w base g x q) (hx:x.Wd) :
  Calls Tryz.prog 54 #[.pointer (some ⟨g,0,none⟩)] w fun e w'=>e=.returned (.tuple #[])∧GBox w' base g x.back q∧Below base w w':=by
 have HB:=Lh hg
 have HX:=Lh hx
 obtain ⟨n,hp⟩:=hx.play
 obtain ⟨hdt,hdl⟩:=bag_parts hx.drawn
 obtain ⟨hmp,hml⟩:=hx.mover_pile
 obtain ⟨hmt,_,_⟩:=pile_parts hmp
 have hs12:=hp.twelve
 have hrl:=hx.racks
 have hsl:=hx.scores
 have hds:x.last.drawn.size≤120:=by simpa using hdl
 have hbs:x.bag.size≤120:=by simpa using (bag_parts hx.bag).2
 have hms:x.mover.size≤7:=by simpa using hml
 have hsc:=hx.score
 have hzr:=hx.zeros
 obtain ⟨k,hk,hk2⟩:∃ k:Nat,x.last.player=(k:Int)∧k < 2:=⟨x.last.player.toNat,by have:=hx.player;omega,by have:=hx.player;omega⟩
 have htk:x.last.player.toNat=k:=by omega
 have hmv:x.mover=x.rack k:=by unfold Gam.mover;rw [htk]
 have hsr:-50000≤x.scores.getD k 0∧x.scores.getD k 0≤50000:=by
  match k,hk2 with
  | 0,_=>exact hx.score0
  | 1,_=>exact hx.score1
 have hrestl:=hx.rackB_len.2
 have htl:(srtL (x.before.tiles x.last.play)).length≤7:=by rw [srt_len hx.tiles_all,tiles_len];exact hx.placed
 have HTK:Hid (∀ W,Calls Tryz.prog 84 #[.string (x.rack k),.string x.last.drawn] W fun e w'=>e=.returned (.tuple #[.string (mkB (restL x.mover.data.toList x.last.drawn.data.toList)),.bool true])∧Below W.heap.size W w'):=Lh (fun W=>by
  have h3:=without_any x.mover x.last.drawn W (by omega) (by omega) hmt hdt
  rw [HX.out.has,hmv] at h3
  rw [hmv]
  exact h3)
 have HPT:Hid (∀ W,Calls Tryz.prog 102 #[.agg #[.int .i64 x.before.size,.string x.before.premium,.string x.before.cells],.agg #[.int .i64 x.last.play.row,.int .i64 x.last.play.col,.bool x.last.play.down,.string x.last.play.word]] W (StrPost W (srtL (x.before.tiles x.last.play)))):=Lh (fun W=>placedTiles_any x.before x.last.play n W hp)
 have HSN:Hid (∀ W,Calls Tryz.prog 85 #[.string (mkB (restL x.mover.data.toList x.last.drawn.data.toList)++mkB (srtL (x.before.tiles x.last.play)))] W (StrPost W x.rackB)):=Lh (fun W=>by
  have e0:(mkB (restL x.mover.data.toList x.last.drawn.data.toList)++mkB (srtL (x.before.tiles x.last.play))).data.toList=restL x.mover.data.toList x.last.drawn.data.toList++srtL (x.before.tiles x.last.play):=by rw [cat_mk,mkB_data,mkB_data,mkB_data]
  have h:=sorted_any (mkB (restL x.mover.data.toList x.last.drawn.data.toList)++mkB (srtL (x.before.tiles x.last.play))) W (by rw [ByteArray.size_append,mkB_size,mkB_size];omega) (by rw [e0,List.all_append,Bool.and_eq_true];exact ⟨rest_all,srt_all⟩)
  rw [e0,HX.out.rackB_srt] at h
  exact h)
 have hst:=HX.out.score_at (j:=0) (by decide)
 have hst1:=HX.out.score_at (j:=1) (by decide)
 have HST:Hid (∀ (b:Bool) (W:World),GBox W base g x.back1 q→Calls Tryz.prog 42 #[.pointer (some ⟨g,0,none⟩),.bool b] W fun e w'=>e=.returned (.tuple #[])∧GBox w' base g (if b=true then x.back1.settled else x.back1) q∧Below base W w'):=Lh (fun b W h=>settle_any x.back1 q g base b W h HX.out.cf (by show (x.scores.set _ _).length=2;rw [List.length_set,hsl]) hst hst1)
 have EQB:Hid (x.back1={ x with board:=x.before,bag:=x.last.drawn++x.bag,racks:=x.racks.set k (mkB x.rackB),scores:=x.scores.set k (x.scores.getD k 0 - x.last.score),zeros:=x.last.zeros+1,last:=Lst.turn 3 x.last.player }):=Lh (by unfold Gam.back1;rw [htk])
 have hrz:(mkB (restL x.mover.data.toList x.last.drawn.data.toList)).size+(mkB (srtL (x.before.tiles x.last.play))).size≤9223372036854775807:=by rw [mkB_size,mkB_size];omega
 have HK:=Lh hk
 clear hg hx hp hdt hdl hmp hml hmt hrestl hmv htk hst hst1 htl HX hms hk
 unfold StrPost at HPT HSN
 generalize hrb:mkB x.rackB=rb0 at *
 generalize hrr:mkB (restL x.mover.data.toList x.last.drawn.data.toList)=rr at *
 generalize hpb:mkB (srtL (x.before.tiles x.last.play))=pb at *
 clear hrb hrr hpb
 go_enter Tryz.func54,Tryz.ntmps54
 have c19:=HB.out.cell (i:=19) rfl
 have c20:=HB.out.cell (i:=20) rfl
 have c21:=HB.out.cell (i:=21) rfl
 have c22:=HB.out.cell (i:=22) rfl
 have c23:=HB.out.cell (i:=23) rfl
 have c24:=HB.out.cell (i:=24) rfl
 have c25:=HB.out.cell (i:=25) rfl
 have c26:=HB.out.cell (i:=26) rfl
 have c27:=HB.out.cell (i:=27) rfl
 have c28:=HB.out.cell (i:=28) rfl
 go_upto_region 1 with fail
 clear c19 c20 c21 c22 c23 c24 c25 c26 c27 c28
 change Code.wp _ _ _ _ (w.alloc (.cells (lstCells x.last).toArray 46))
 have VX:=Lh (VarAt.new w 46 (lstCells x.last))
 have hd:Below w.heap.size w (w.alloc (.cells (lstCells x.last).toArray 46)):=(Below.refl _ _).alloc (Nat.le_refl _) _
 have hb:=hd.mono HB.out.size
 have hgX:g≠w.heap.size:=by have:=HB.out.var.lt;omega
 have hXb:=HB.out.size
 have hRX:∀ gb,q.racks.a=some ⟨gb,0,none⟩→gb < w.heap.size:=fun gb h=>by
  obtain ⟨g9,e9,_,h9,_⟩:=HB.out.rows.racks.block (show 0 < x.racks.length by omega)
  rw [h] at e9
  cases e9
  exact h9
 have hSX:∀ gb,q.scores.a=some ⟨gb,0,none⟩→gb < w.heap.size:=fun gb h=>by
  obtain ⟨g9,e9,_,h9,_⟩:=HB.out.rows.scores.block (show 0 < x.scores.length by omega)
  rw [h] at e9
  cases e9
  exact h9
 replace HB:=Lh (HB.out.kept hd)
 clear hd
 generalize w.alloc (.cells (lstCells x.last).toArray 46)=w1 at *
 generalize w.heap.size=X at *
 -- the board
 have c10:=HB.out.cell (i:=10) rfl
 have c11:=HB.out.cell (i:=11) rfl
 have c12:=HB.out.cell (i:=12) rfl
 go_upto_region 2 with fail
 clear c10 c11 c12
 change Code.wp _ _ _ _ (w1.alloc (.cells (Brd.enc x.board).toArray 41))
 have VB0:=VarAt.new w1 41 (Brd.enc x.board)
 have hd:Below w1.heap.size w1 (w1.alloc (.cells (Brd.enc x.board).toArray 41)):=(Below.refl _ _).alloc (Nat.le_refl _) _
 have hgB:g≠w1.heap.size:=by have:=HB.out.var.lt;omega
 have hXB:X < w1.heap.size:=VX.out.lt
 have hBb:=HB.out.size
 have x6:=(VX.out.kept hd).cell (i:=6) rfl
 have q2:=VB0.cell (i:=2) rfl
 have f2:=VB0.free 2
 obtain ⟨oB,kB⟩:=VB0.set 2 (.string x.last.before)
 have hdB:=below_grown hd hd.size kB (Nat.le_refl _)
 have VB:Hid (VarAt ((w1.alloc (.cells (Brd.enc x.board).toArray 41)).setCell ⟨w1.heap.size,2,none⟩ (.string x.last.before)) w1.heap.size 41 (Brd.enc x.before)):=Lh oB
 clear oB kB hd VB0
 generalize w1.alloc (.cells (Brd.enc x.board).toArray 41)=w2 at *
 generalize hBq:w1.heap.size=B at *
 go_upto_region 3 with fail
 clear x6 q2 f2
 have hdB:Below w1.heap.size w1 (w2.setCell ⟨B,2,none⟩ (.string x.last.before)):=by rw [hBq];exact hdB
 replace hb:=hb.trans (hdB.mono HB.out.size)
 replace HB:=Lh (HB.out.kept hdB)
 replace VX:=Lh (VX.out.kept hdB)
 clear hdB hBq
 generalize w2.setCell ⟨B,2,none⟩ (.string x.last.before)=w3 at *
 -- what is left of the rack
 obtain ⟨gr,grq,_,grl,hro⟩:=HB.out.rows.racks.block (show 0 < x.racks.length by omega)
 have grX:=hRX gr grq
 have brc:w3.cell? ⟨gr,k,none⟩=some (.string (x.rack k)):=row_cellT hro (show k < x.racks.length by omega)
 have b14:=HB.out.cell (i:=14) rfl
 rw [grq,hrl] at b14
 replace b14:=cell_regrown b14
 have x1:=VX.out.cell (i:=1) rfl
 rw [HK.out] at x1
 have y1:=cell_regrown x1
 have y7:=cell_regrown (VX.out.cell (i:=7) rfl)
 replace brc:=cell_regrown brc
 have hki:(k:Int) < 2:=by omega
 clear x1 hro
 refine wp_region_quiet_below (by kernel_rfl) (by kernel_rfl) ?_
 repeat (go_big_quiet_step ((first | (go_at_call 84;exact Calls.regrown_of (HTK.out _)))))
 refine wpQuiet_nil ?_
 intro w4 hw'
 obtain ⟨⟨dq,oq⟩,hw''⟩:=hw'
 have hd:=below_regrown w3 dq oq
 rw [← hw''] at hd
 clear hw'' b14 y1 y7 brc HTK
 replace hb:=hb.trans (hd.mono HB.out.size)
 replace HB:=Lh (HB.out.kept hd)
 replace VX:=Lh (VX.out.kept hd)
 replace VB:=Lh (VB.out.kept hd)
 clear hd
 go_upto_region 4 with fail
 -- the new rack
 have hd:Below w4.heap.size w4 w4.drew:=(Below.refl _ _).drew
 replace hb:=hb.trans (hd.mono HB.out.size)
 replace HB:=Lh (HB.out.kept hd)
 replace VX:=Lh (VX.out.kept hd)
 replace VB:=Lh (VB.out.kept hd)
 clear hd
 have HSF:Hid (∀ (y:Gam) (W:World),(∃ c,(gcells y q)[14]?=some c∧c=.slice q.racks.a 2 q.racks.c)→GBox W base g y q→VarAt W X 46 (lstCells x.last)→VarAt W B 41 (Brd.enc x.before)→W.cell? ⟨g,14,none⟩=some (.slice (some ⟨gr,0,none⟩) 2 q.racks.c)∧W.cell? ⟨X,1,none⟩=some (.int .i64 k)∧W.rangeAt B 0 (Brd.enc x.before)∧W.rangeAt X 2 [.int .i64 x.last.play.row,.int .i64 x.last.play.col,.bool x.last.play.down,.string x.last.play.word]):=Lh (fun y W hy h1 h2 h3=>by
  obtain ⟨c,hy1,hy2⟩:=hy
  subst hy2
  rw [grq] at hy1
  refine ⟨h1.cell hy1,?_,h3.range,lst_play h2⟩
  have:=h2.cell (i:=1) rfl
  rw [HK.out] at this
  exact this)
 have hc14:∃ c,(gcells x q)[14]?=some c∧c=.slice q.racks.a 2 q.racks.c:=⟨_,rfl,by rw [hrl]⟩
 refine wp_region_held_drew (S:=fun W=>W.cell? ⟨g,14,none⟩=some (.slice (some ⟨gr,0,none⟩) 2 q.racks.c)∧W.cell? ⟨X,1,none⟩=some (.int .i64 k)∧W.rangeAt B 0 (Brd.enc x.before)∧W.rangeAt X 2 [.int .i64 x.last.play.row,.int .i64 x.last.play.col,.bool x.last.play.down,.string x.last.play.word]) (by kernel_rfl) (HSF.out x _ hc14 HB.out VX.out VB.out) (fun hHeld=>?_)
 generalize w4.drew=wd at *
 refine slotA 0 31 (.pointer (some ⟨g,0,none⟩)) ?_
 simp only [S3]
 refine slotA 1 32 (.pointer (some ⟨g,0,none⟩)) ?_
 simp only [S3]
 refine slotA 2 33 (.pointer (some ⟨g,14,none⟩)) ?_
 simp only [S3]
 refine slotA 3 34 (.slice (some ⟨gr,0,none⟩) 2 q.racks.c) ?_ (hy:=Or.inl ⟨by rfl,fun w' hS=>by have c9:=hS.1;go_simp⟩)
 simp only [S3]
 refine slotA 4 35 (.pointer (some ⟨X,1,none⟩)) ?_
 simp only [S3]
 refine slotA 5 36 (.int .i64 k) ?_ (hy:=Or.inl ⟨by rfl,fun w' hS=>by have c9:=hS.2.1;go_simp⟩)
 simp only [S3]
 refine slotA 6 37 (.string rr) ?_
 simp only [S3]
 refine slotA 7 38 (.agg (Brd.enc x.before).toArray) ?_ (hy:=yieldsIf_load_mid (by rfl) 41 _ rfl B 0 rfl (Brd.enc x.before) _ (fun _ h=>h.2.2.1) Tryz.underlying41 rfl (by kernel_rfl))
 simp only [S3]
 refine slotA 8 39 (.pointer (some ⟨X,2,none⟩)) ?_
 simp only [S3]
 refine slotA 9 40 (.agg #[.int .i64 x.last.play.row,.int .i64 x.last.play.col,.bool x.last.play.down,.string x.last.play.word]) ?_ (hy:=yieldsIf_load_mid (by rfl) 44 _ rfl X 2 rfl [.int .i64 x.last.play.row,.int .i64 x.last.play.col,.bool x.last.play.down,.string x.last.play.word] _ (fun _ h=>h.2.2.2) Tryz.underlying44 rfl (by kernel_rfl))
 simp only [S3]
 refine wpAnyH_ready (rs:=[10]) (by kernel_rfl) (by simp) ?_
 refine AllReadyH.cons (o:=_) rfl (fun K hK=>?_) AllReadyH.nil
 go_simp
 refine (HPT.out _).mono ?_
 rintro e wa ⟨rfl,hd⟩
 replace hb:=hb.trans (hd.mono HB.out.size)
 replace HB:=Lh (HB.out.kept hd)
 replace VX:=Lh (VX.out.kept hd)
 replace VB:=Lh (VB.out.kept hd)
 clear hd hHeld HPT
 go_wp2_with fail
 refine hK.out _ _ (HSF.out x _ hc14 HB.out VX.out VB.out) (fun hHeld=>?_)
 clear hK K
 refine slotA 11 42 (.string (rr++pb)) ?_
 simp only [S3]
 refine wpAnyH_ready (rs:=[12]) (by kernel_rfl) (by simp) ?_
 refine AllReadyH.cons (o:=_) rfl (fun K hK=>?_) AllReadyH.nil
 go_simp
 refine (HSN.out _).mono ?_
 rintro e wb ⟨rfl,hd⟩
 replace hb:=hb.trans (hd.mono HB.out.size)
 replace HB:=Lh (HB.out.kept hd)
 replace VX:=Lh (VX.out.kept hd)
 replace VB:=Lh (VB.out.kept hd)
 clear hd hHeld HSN hrz
 go_wp2_with fail
 refine hK.out _ _ (HSF.out x _ hc14 HB.out VX.out VB.out) (fun hHeld=>?_)
 clear hK K
 refine slotA 13 44 (.pointer (some ⟨gr,k,none⟩)) ?_
 simp only [S3]
 refine wpAnyH_ready (rs:=[14]) (by kernel_rfl) (by simp) ?_
 refine AllReadyH.cons (o:=_) rfl (fun K hK=>?_) AllReadyH.nil
 obtain ⟨gr2,e2,_,_,hro⟩:=HB.out.rows.racks.block (show 0 < x.racks.length by omega)
 rw [grq] at e2
 cases e2
 have ct:=row_cellT hro (k:=k) (by omega)
 have cf:=hro.frozenAt k
 have kR:=(TZ.setAt hro k rb0 HB.out.size).2.2
 obtain ⟨B2,b2⟩:=HB.out.rackSet grq (by omega) k rb0
 have VX2:=VX.out.grown kR (by intro e;have:=Option.some.inj e;omega)
 have VB2:=VB.out.grown kR (by intro e;have:=Option.some.inj e;omega)
 go_simp
 refine hK.out _ _ (HSF.out _ _ ⟨_,rfl,by show Value.slice q.racks.a (x.racks.set k rb0).length q.racks.c=_;rw [List.length_set,hrl]⟩ B2 VX2 VB2) (fun hHeld2=>?_)
 clear hK K hHeld HSF ct cf hro hc14 kR
 refine wpAnyH_done (by kernel_rfl) ?_ _
 clear hHeld2
 replace HB:=Lh B2
 replace hb:=hb.trans b2
 replace VX:=Lh VX2
 replace VB:=Lh VB2
 clear B2 b2 VX2 VB2
 generalize wb.setCell ⟨gr,k,none⟩ (.string rb0)=w5 at *
 go_upto_region 5 with fail
 -- the board and the bag
 have hd:Below w5.heap.size w5 w5.drew:=(Below.refl _ _).drew
 replace hb:=hb.trans (hd.mono HB.out.size)
 replace HB:=Lh (HB.out.kept hd)
 replace VX:=Lh (VX.out.kept hd)
 replace VB:=Lh (VB.out.kept hd)
 clear hd
 have HSF:Hid (∀ (W:World),VarAt W X 46 (lstCells x.last)→VarAt W B 41 (Brd.enc x.before)→W.rangeAt B 0 (Brd.enc x.before)∧W.cell? ⟨X,7,none⟩=some (.string x.last.drawn)):=Lh (fun W h2 h3=>⟨h3.range,h2.cell rfl⟩)
 have hz4:x.last.drawn.size+x.bag.size≤9223372036854775807:=by omega
 have c13:=HB.out.cell (i:=13) (v:=.string x.bag) rfl
 refine wp_region_held_drew (S:=fun W=>W.rangeAt B 0 (Brd.enc x.before)∧W.cell? ⟨X,7,none⟩=some (.string x.last.drawn)) (by kernel_rfl) (HSF.out _ VX.out VB.out) (fun hHeld=>?_)
 generalize w5.drew=w6 at *
 refine slotA 0 45 (.pointer (some ⟨g,0,none⟩)) ?_
 simp only [S3]
 refine slotA 1 46 (.pointer (some ⟨g,0,none⟩)) ?_
 simp only [S3]
 refine slotA 2 47 (.agg (Brd.enc x.before).toArray) ?_ (hy:=yieldsIf_load_mid (by rfl) 41 _ rfl B 0 rfl (Brd.enc x.before) _ (fun _ h=>h.1) Tryz.underlying41 rfl (by kernel_rfl))
 simp only [S3]
 refine slotA 3 48 (.pointer (some ⟨X,7,none⟩)) ?_
 simp only [S3]
 refine slotA 4 49 (.string x.last.drawn) ?_ (hy:=Or.inl ⟨by rfl,fun w' hS=>by have c9:=hS.2;go_simp⟩)
 simp only [S3]
 refine slotA 5 50 (.pointer (some ⟨g,0,none⟩)) ?_
 simp only [S3]
 refine slotA 6 51 (.pointer (some ⟨g,0,none⟩)) ?_
 simp only [S3]
 refine slotA 7 52 (.pointer (some ⟨g,13,none⟩)) ?_
 simp only [S3]
 refine wpAnyH_ready (rs:=[8]) (by kernel_rfl) (by simp) ?_
 refine AllReadyH.cons (o:=_) rfl (fun K hK=>?_) AllReadyH.nil
 go_simp
 refine hK.out _ _ (HSF.out _ VX.out VB.out) (fun hHeld2=>?_)
 clear hK K hHeld c13
 refine slotA 9 54 (.string (x.last.drawn++x.bag)) ?_
 simp only [S3]
 refine slotA 10 55 (.pointer (some ⟨g,0,none⟩)) ?_
 simp only [S3]
 refine slotA 11 56 (.pointer (some ⟨g,10,none⟩)) ?_
 simp only [S3]
 refine wpAnyH_ready (rs:=[12]) (by kernel_rfl) (by simp) ?_
 refine AllReadyH.cons (o:=_) rfl (fun K hK=>?_) AllReadyH.nil
 have tR:w6.there g 10 3:=fun j hj=>HB.out.var.there (n:=30) rfl (10+j) (by omega) |> fun h=>by simpa using h
 have kR:=set_cells g _ (Brd.enc x.before) 10 w6 _ HB.out.var
 obtain ⟨B2,b2⟩:=HB.out.puts (y:={ x with board:=x.before,racks:=x.racks.set k rb0 }) 10 (Brd.enc x.before) rfl ⟨⟨rfl,rfl,rfl⟩,rfl,rfl,rfl⟩
 have VX2:=VX.out.grown kR (by intro e;exact hgX (Option.some.inj e).symm)
 have VB2:=VB.out.grown kR (by intro e;exact hgB (Option.some.inj e).symm)
 refine step_store0 rfl rfl 41 (.tmp 56) (.tmp 47) rfl g 10 (Brd.enc x.before).toArray rfl rfl tR size_board (all_oneCell_toArray (board_one _)) ?_
 refine hK.out _ _ (HSF.out _ VX2 VB2) (fun hHeld=>?_)
 clear hK K hHeld2 tR kR
 replace HB:=Lh B2
 replace hb:=hb.trans b2
 replace VX:=Lh VX2
 replace VB:=Lh VB2
 clear B2 b2 VX2 VB2
 change wpAnyH _ _ _ _ _ _ _ _ (w6.setCells g 10 (Brd.enc x.before))
 change _∧_ at hHeld
 generalize w6.setCells g 10 (Brd.enc x.before)=w7 at *
 refine slotA 13 57 (.pointer (some ⟨g,0,none⟩)) ?_
 simp only [S3]
 refine slotA 14 58 (.pointer (some ⟨g,13,none⟩)) ?_
 simp only [S3]
 have c13:=HB.out.cell (i:=13) (v:=.string x.bag) rfl
 have f13:=HB.out.free 13
 refine wpAnyH_ready (rs:=[15]) (by kernel_rfl) (by simp) ?_
 refine AllReadyH.cons (o:=_) rfl (fun K hK=>?_) AllReadyH.nil
 have kR:=(HB.out.var.set 13 (.string (x.last.drawn++x.bag))).2
 obtain ⟨B2,b2⟩:=HB.out.put (y:={ x with board:=x.before,bag:=x.last.drawn++x.bag,racks:=x.racks.set k rb0 }) 13 (.string (x.last.drawn++x.bag)) rfl ⟨⟨rfl,rfl,rfl⟩,rfl,rfl,rfl⟩
 have VX2:=VX.out.grown kR (by intro e;exact hgX (Option.some.inj e).symm)
 have VB2:=VB.out.grown kR (by intro e;exact hgB (Option.some.inj e).symm)
 go_simp
 refine hK.out _ _ (HSF.out _ VX2 VB2) (fun hHeld2=>?_)
 clear hK K hHeld kR c13 f13 HSF
 refine wpAnyH_done (by kernel_rfl) ?_ _
 clear hHeld2
 replace HB:=Lh B2
 replace hb:=hb.trans b2
 replace VX:=Lh VX2
 clear B2 b2 VX2 VB2 VB hz4
 generalize w7.setCell ⟨g,13,none⟩ (.string (x.last.drawn++x.bag))=w8 at *
 go_upto_region 6 with fail
 -- the scores
 have hd:Below w8.heap.size w8 w8.drew:=(Below.refl _ _).drew
 replace hb:=hb.trans (hd.mono HB.out.size)
 replace HB:=Lh (HB.out.kept hd)
 replace VX:=Lh (VX.out.kept hd)
 clear hd
 obtain ⟨gs,gsq,_,_,hso⟩:=HB.out.rows.scores.block (show 0 < x.scores.length by omega)
 have gsX:=hSX gs gsq
 have c15:=HB.out.cell (i:=15) (v:=.slice q.scores.a 2 q.scores.c) (by show some (Value.slice q.scores.a x.scores.length q.scores.c)=_;rw [hsl])
 rw [gsq] at c15
 have d1:=VX.out.cell (i:=1) rfl
 rw [HK.out] at d1
 have d8:=VX.out.cell (i:=8) (v:=.int .i64 x.last.score) rfl
 have ct:w8.drew.cell? ⟨gs,k,none⟩=some (.int .i64 (x.scores.getD k 0)):=row_cell2 hso (show k < x.scores.length by omega)
 have cf:=hso.frozenAt k
 have kR:=(IZ.setAt hso k (x.scores.getD k 0 - x.last.score) HB.out.size).2.2
 obtain ⟨B2,b2⟩:=HB.out.score gsq (by show 0 < x.scores.length;omega) k (x.scores.getD k 0 - x.last.score)
 have VX2:=VX.out.grown kR (by intro e;have:=Option.some.inj e;omega)
 have wr0:IntKind.i64.wrap (x.scores.getD k 0 - x.last.score)=x.scores.getD k 0 - x.last.score:=IntWalk.i64_in _ (by omega)
 clear kR hso
 refine wp_region_still_tail 11 (by kernel_rfl) (by kernel_rfl) ?_
 simp only [List.take_succ_cons,List.take_zero,List.drop_succ_cons,List.drop_zero]
 change wpStill _ _ w8.drew (fun a'=>wpList _ _ _ _ a' w8.drew) _ _
 generalize w8.drew=wd at *
 generalize x.scores.getD k 0=sk at *
 repeat still_step
 refine wpStill_nil ?_
 go_upto_region 7 with fail
 clear d1 d8 ct cf wr0 c15
 replace HB:=Lh B2
 replace hb:=hb.trans b2
 replace VX:=Lh VX2
 clear B2 b2 VX2
 generalize wd.setCell ⟨gs,k,none⟩ (.int .i64 (sk - x.last.score))=w15 at *
 -- the turns without points
 have d9:=VX.out.cell (i:=9) (v:=.int .i64 x.last.zeros) rfl
 have c18:=HB.out.cell (i:=18) (v:=.int .i64 x.zeros) rfl
 have f18:=HB.out.free 18
 have wr0:IntKind.i64.wrap (x.last.zeros+1)=x.last.zeros+1:=IntWalk.i64_in _ (by omega)
 obtain ⟨B2,b2⟩:=HB.out.put (y:={ x with board:=x.before,bag:=x.last.drawn++x.bag,racks:=x.racks.set k rb0,scores:=x.scores.set k (sk - x.last.score),zeros:=x.last.zeros+1 }) 18 (.int .i64 (x.last.zeros+1)) rfl ⟨⟨rfl,rfl,rfl⟩,rfl,rfl,rfl⟩
 replace VX:=Lh (VX.out.beside HB.out hgX 18 (.int .i64 (x.last.zeros+1)))
 replace HB:=Lh B2
 replace hb:=hb.trans b2
 clear B2 b2
 go_upto_region 8 with fail
 clear d9 c18 f18 wr0
 generalize w15.setCell ⟨g,18,none⟩ (.int .i64 (x.last.zeros+1))=w16 at *
 -- the last action
 have d1:=VX.out.cell (i:=1) rfl
 have tR:w16.there g 19 10:=fun j hj=>HB.out.var.there (n:=30) rfl (19+j) (by omega) |> fun h=>by simpa using h
 obtain ⟨B2,b2⟩:=HB.out.puts (y:={ x with board:=x.before,bag:=x.last.drawn++x.bag,racks:=x.racks.set k rb0,scores:=x.scores.set k (sk - x.last.score),zeros:=x.last.zeros+1,last:=Lst.turn 3 x.last.player }) 19 (lstCells (Lst.turn 3 x.last.player)) rfl ⟨⟨rfl,rfl,rfl⟩,rfl,rfl,rfl⟩
 replace HB:=Lh B2
 replace hb:=hb.trans b2
 clear B2 b2 VX
 go_upto_region 9 with (refine wpList_store_mid rfl 46 _ _ rfl g 19 (lstCells (Lst.turn 3 x.last.player)).toArray rfl rfl tR (size_last _) (all_oneCell_toArray (lstCells_one _)) ?_)
 change Code.wp _ _ _ _ (w16.setCells g 19 (lstCells (Lst.turn 3 x.last.player)))
 clear d1 tR
 generalize w16.setCells g 19 (lstCells (Lst.turn 3 x.last.player))=w17 at *
 rw [← EQB.out] at HB
 have c18:w17.cell? ⟨g,18,none⟩=some (.int .i64 (x.last.zeros+1)):=HB.out.cell rfl
 by_cases h6:x.last.zeros+1=6
 ·have HY:=Lh (Gam.back_yes (x:=x) h6)
  rw [h6] at c18
  go_wp2_with fail
  refine (HST.out true _ HB.out).mono ?_
  rintro e w18 ⟨rfl,hg,hd⟩
  have HB9:Hid (GBox w18 base g x.back1.settled q):=Lh hg
  replace hb:=hb.trans hd
  clear hg hd HST HB
  go_wp2
  go_end0
  exact ⟨rfl,by rw [HY.out];exact HB9.out,hb⟩
 ·have HY:=Lh (Gam.back_no (x:=x) h6)
  have b6:(x.last.zeros+1 == 6)=false:=by simpa using h6
  clear h6
  generalize x.last.zeros+1=z1 at c18 b6
  go_wp2_with fail
  refine (HST.out false _ HB.out).mono ?_
  rintro e w18 ⟨rfl,hg,hd⟩
  have HB9:Hid (GBox w18 base g x.back1 q):=Lh hg
  replace hb:=hb.trans hd
  clear hg hd HST HB
  go_wp2
  go_end0
  exact ⟨rfl,by rw [HY.out];exact HB9.out,hb⟩
theorem implWithdraw_any (x:Gam) (p:GaA) (w:World) (ha:x.At p w) (hf:x.fit) (hs:x.small) (htz:x.setup.tiles.letters.size≤1048576) (hwz:x.last.play.word.size≤1048576) (hE:CEnv w) (hL:EnvL w) :
  Calls Tryz.prog 15 #[.agg (gcells x p).toArray] w (TurnPost x.withdrawOf w):=by
 have hb:Below w.heap.size w ((w.alloc (.cells (gcells x p).toArray 48)).alloc (.cells gnil.toArray 48)):=((Below.refl _ _).alloc (Nat.le_refl _) _).alloc (by simp) _
 have HG:Hid (GAt ((w.alloc (.cells (gcells x p).toArray 48)).alloc (.cells gnil.toArray 48)) w.heap.size x p):=Lh ((GAt.new w x p 48 ha).kept ((Below.refl _ _).alloc (Nat.le_refl _) _))
 have VI:=Lh (VarAt.kept (VarAt.new w 48 (gcells x p)) ((Below.refl _ _).alloc (Nat.le_refl _) (.cells gnil.toArray 48)))
 have VO:Hid (VarAt ((w.alloc (.cells (gcells x p).toArray 48)).alloc (.cells gnil.toArray 48)) (w.heap.size+1) 48 gnil):=by
  have:=VarAt.new (w.alloc (.cells (gcells x p).toArray 48)) 48 gnil
  rw [World.size_alloc] at this
  exact Lh this
 have HAC:Hid (∀ W,x.At p W→CEnv W→EnvL W→Calls Tryz.prog 39 #[.agg (gcells x p).toArray,.int .i64 0] W fun e w'=>e=.returned (.int .i64 (x.begin 0))∧Below W.heap.size W w'):=Lh (fun W h h2 h3=>actionCode_any x p 0 W h hf htz hwz h2 h3)
 have HCP:Hid (∀ W,x.At p W→Calls Tryz.prog 53 #[.agg (gcells x p).toArray] W (CopPost x W)):=Lh (fun W h=>copyGame_any x p W h hs)
 have HE:=Lh (hE.kept hb)
 have HL:=Lh (hL.kept hb)
 have HSZ:=Lh (size_game x p)
 clear ha hf hs htz hwz hE hL
 obtain ⟨gc,hgc⟩:∃ gc,gc=gcells x p:=⟨_,rfl⟩
 rw [← hgc]
 rw [← hgc] at HG VI VO hb HE HL HSZ HAC HCP
 clear hgc
 by_cases h0:x.begin 0=0
 ·rw [h0] at HAC
  by_cases hk:x.last.kind=1
  ·have HY:=Lh (Gam.with3 h0 hk)
   have HWD:=Lh (Gam.wd h0 hk)
   have HWI:Hid (∀ q g base W,GBox W base g x q→Calls Tryz.prog 54 #[.pointer (some ⟨g,0,none⟩)] W fun e w'=>e=.returned (.tuple #[])∧GBox w' base g x.back q∧Below base W w'):=Lh (fun q g base W h=>withdraw_any x q g base W h HWD.out)
   clear h0 HWD
   go_enter Tryz.func15,Tryz.ntmps15
   go_upto_region 1 with fail
   change Code.wp _ _ _ _ ((w.alloc (.cells gc.toArray 48)).alloc (.cells gnil.toArray 48))
   generalize (w.alloc (.cells gc.toArray 48)).alloc (.cells gnil.toArray 48)=w1 at *
   have RG:=VI.out.range
   refine wp_region_list ?_
   refine wpList_load_mid rfl 48 _ rfl w.heap.size 0 rfl gc _ RG Tryz.underlying48 rfl HSZ.out ?_
   clear RG
   go_wp2_with fail
   refine (HAC.out _ HG.out.at_ HE.out HL.out).mono ?_
   rintro e w2 ⟨rfl,hd⟩
   replace hb:=hb.trans (hd.mono hb.size)
   replace HG:=Lh (HG.out.kept hd)
   replace VI:=Lh (VI.out.kept hd)
   replace VO:=Lh (VO.out.kept hd)
   clear hd
   clear HAC HE HL
   have c19:=HG.out.cell (i:=19) rfl
   rw [hk] at c19
   clear hk
   go_upto_region 6 with fail
   clear c19
   have RG:=VI.out.range
   refine wp_region_list ?_
   refine wpList_load_mid rfl 48 _ rfl w.heap.size 0 rfl gc _ RG Tryz.underlying48 rfl HSZ.out ?_
   clear RG
   go_wp2_with fail
   refine (HCP.out _ HG.out.at_).mono ?_
   rintro e w3 ⟨q,rfl,hg,hd⟩
   have hbase:w.heap.size+2≤w2.heap.size:=VO.out.lt
   have HB:=Lh (hg.mono hbase)
   replace hb:=hb.trans (hd.mono hb.size)
   replace VO:=Lh (VO.out.kept hd)
   clear hd
   clear hg hbase HCP HG VI HSZ
   generalize w2.heap.size=g at *
   go_upto_region 7 with fail
   go_wp2_with fail
   refine (HWI.out _ _ _ _ HB.out).mono ?_
   rintro e w5 ⟨rfl,hg,hd⟩
   have HB5:=Lh hg
   replace VO:=Lh (VO.out.front hd (Nat.lt_succ_self _))
   replace hb:=hb.trans (hd.mono (Nat.le_add_right _ _))
   clear hg hd HWI HB
   generalize x.back=Y at *
   have RY:=HB5.out.var.range
   have tR:=gnil_there VO.out
   have hvl:=VO.out.lt
   obtain ⟨o6,k6⟩:=VO.out.put (gcells Y q) rfl
   have HZ:=Lh (HB5.out.rows.store k6 (Nat.lt_succ_self _))
   have HO:=Lh HB5.out.off
   have hb6:=hb.grown k6 hb.size (fun k h=>by cases h;omega)
   have rZ:=o6.range
   clear o6 k6 hb VO hvl
   go_upto_region 8 with fail
   refine wp_region_list ?_
   refine wpList_plain rfl (fun K hK=>?_)
   go_simp
   refine hK _ _ ?_
   clear hK K
   refine wpList_plain rfl (fun K hK=>?_)
   go_simp
   refine hK _ _ ?_
   clear hK K
   refine wpList_load_mid rfl 48 _ rfl g 0 rfl (gcells Y q) _ RY Tryz.underlying48 rfl (size_game _ _) ?_
   simp only [Act.put,S3]
   refine wpList_store_mid rfl 48 _ _ rfl (w.heap.size+1) 0 (gcells Y q).toArray rfl rfl tR (size_game _ _) (all_oneCell_toArray (gcells_all1 _ _)) ?_
   change wpList _ _ _ _ _ (w5.setCells (w.heap.size+1) 0 (gcells Y q))
   generalize w5.setCells (w.heap.size+1) 0 (gcells Y q)=wZ at *
   clear RY tR
   have HV:=Lh (run_loadVar_mid (P:=Tryz.prog) wZ (w.heap.size+1) 0 48 (gcells Y q) _ rZ Tryz.underlying48 rfl (size_game _ _))
   clear rZ HB5
   go_wp2
   refine bodyPost_ret (results_cell_tmp_var Tryz.results15 _ _ _ _ rfl HV.out) rfl ?_
   exact turn_some HY.out rfl HZ.out HO.out (Nat.le_add_right _ 2) hb6
  ·have HW:=Lh (Gam.with2 h0 hk)
   have hne:(x.last.kind != 1)=true:=by simpa using hk
   clear h0 hk HCP
   go_enter Tryz.func15,Tryz.ntmps15
   go_upto_region 1 with fail
   change Code.wp _ _ _ _ ((w.alloc (.cells gc.toArray 48)).alloc (.cells gnil.toArray 48))
   generalize (w.alloc (.cells gc.toArray 48)).alloc (.cells gnil.toArray 48)=w1 at *
   have RG:=VI.out.range
   refine wp_region_list ?_
   refine wpList_load_mid rfl 48 _ rfl w.heap.size 0 rfl gc _ RG Tryz.underlying48 rfl HSZ.out ?_
   clear RG
   go_wp2_with fail
   refine (HAC.out _ HG.out.at_ HE.out HL.out).mono ?_
   rintro e w2 ⟨rfl,hd⟩
   replace hb:=hb.trans (hd.mono hb.size)
   replace HG:=Lh (HG.out.kept hd)
   replace VI:=Lh (VI.out.kept hd)
   replace VO:=Lh (VO.out.kept hd)
   clear hd
   clear HAC HE HL
   have c19:=HG.out.cell (i:=19) rfl
   generalize x.last.kind=kd at *
   clear HG VI HSZ
   go_upto_region 5 with fail
   have tR:=gnil_there VO.out
   obtain ⟨o6,k6⟩:=VO.out.put gnil rfl
   have hb6:=hb.grown k6 hb.size (fun k h=>by cases h;omega)
   have rZ:=o6.range
   clear o6 k6 hb VO
   refine wp_region_list ?_
   refine wpList_built rfl 48 rfl gnil.toArray built_game ?_
   simp only [Act.put,S3]
   refine wpList_store_mid rfl 48 _ _ rfl (w.heap.size+1) 0 gnil.toArray rfl rfl tR size_nil (all_oneCell_toArray gnil_one) ?_
   change wpList _ _ _ _ _ (w2.setCells (w.heap.size+1) 0 gnil)
   generalize w2.setCells (w.heap.size+1) 0 gnil=wZ at *
   clear tR
   have HV:=Lh (run_loadVar_mid (P:=Tryz.prog) wZ (w.heap.size+1) 0 48 gnil _ rZ Tryz.underlying48 rfl size_nil)
   clear rZ
   go_wp2
   refine bodyPost_ret (results_cell_tmp_var Tryz.results15 _ _ _ _ rfl HV.out) rfl ?_
   exact turn_none HW.out rfl hb6
 ·have HW:=Lh (Gam.with1 h0)
  have hne:(x.begin 0 != 0)=true:=by simpa using h0
  generalize x.begin 0=c at *
  clear h0 HCP
  go_enter Tryz.func15,Tryz.ntmps15
  go_upto_region 1 with fail
  change Code.wp _ _ _ _ ((w.alloc (.cells gc.toArray 48)).alloc (.cells gnil.toArray 48))
  generalize (w.alloc (.cells gc.toArray 48)).alloc (.cells gnil.toArray 48)=w1 at *
  have RG:=VI.out.range
  refine wp_region_list ?_
  refine wpList_load_mid rfl 48 _ rfl w.heap.size 0 rfl gc _ RG Tryz.underlying48 rfl HSZ.out ?_
  clear RG
  go_wp2_with fail
  refine (HAC.out _ HG.out.at_ HE.out HL.out).mono ?_
  rintro e w2 ⟨rfl,hd⟩
  replace hb:=hb.trans (hd.mono hb.size)
  replace HG:=Lh (HG.out.kept hd)
  replace VI:=Lh (VI.out.kept hd)
  replace VO:=Lh (VO.out.kept hd)
  clear hd
  clear HAC HE HL
  clear HG VI HSZ
  go_upto_region 3 with fail
  have tR:=gnil_there VO.out
  obtain ⟨o6,k6⟩:=VO.out.put gnil rfl
  have hb6:=hb.grown k6 hb.size (fun k h=>by cases h;omega)
  have rZ:=o6.range
  clear o6 k6 hb VO
  refine wp_region_list ?_
  refine wpList_built rfl 48 rfl gnil.toArray built_game ?_
  refine wpList_plain rfl (fun K hK=>?_)
  simp only [Act.put,S3]
  go_simp
  refine hK _ _ ?_
  clear hK K
  refine wpList_store_mid rfl 48 _ _ rfl (w.heap.size+1) 0 gnil.toArray rfl rfl tR size_nil (all_oneCell_toArray gnil_one) ?_
  change wpList _ _ _ _ _ (w2.setCells (w.heap.size+1) 0 gnil)
  generalize w2.setCells (w.heap.size+1) 0 gnil=wZ at *
  clear tR
  have HV:=Lh (run_loadVar_mid (P:=Tryz.prog) wZ (w.heap.size+1) 0 48 gnil _ rZ Tryz.underlying48 rfl size_nil)
  clear rZ
  go_wp2
  refine bodyPost_ret (results_cell_tmp_var Tryz.results15 _ _ _ _ rfl HV.out) rfl ?_
  exact turn_none HW.out rfl hb6
theorem implWithdrawPlay_any (x:Gam) (p:GaA) (w:World) (ha:x.At p w) (hf:x.fit) (hsm:x.small) (htz:x.setup.tiles.letters.size≤1048576) (hwz:x.last.play.word.size≤1048576) (hE:CEnv w) (hL:EnvL w) :
  Calls Tryz.prog 15 #[.agg (gcells x p).toArray] w fun e w'=>∃ q:GaA,e=.returned (.tuple #[.agg (gcells x.withdrawOf.1 q).toArray,.int .i64 x.withdrawOf.2])∧x.withdrawOf.1.Z q w.heap.size w'∧x.withdrawOf.1.Off q∧Below w.heap.size w w' :=
 implWithdraw_any x p w ha hf hsm htz hwz hE hL
end Go.Proofs.YtkjhapbjdjcipaaGreatDoor
