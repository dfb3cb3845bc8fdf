/- Contracts: the withdrawal of the last play, in a box: the reference. A valid game whose last action is a play. -/
import Derived.Test.YtkjhapbjdjcipaaGreatDoorGwP
import Derived.Test.YtkjhapbjdjcipaaGreatDoorGpQ
import Derived.Test.YtkjhapbjdjcipaaGreatDoorGmQ
set_option maxRecDepth 100000
set_option maxHeartbeats 8000000
namespace Go.Proofs.YtkjhapbjdjcipaaGreatDoor
open Go.ChangeShapes Go.WideShapes Go.ChangeAt Go.RowKit Go.Sort

theorem size_board:(Tryz.prog.info? 41).map (·.size)=some 3:=by kernel_rfl
theorem board_one (b:Brd):∀ v∈Brd.enc b,v.oneCell'=true:=by
 intro v hv
 simp only [Brd.enc,List.mem_cons,List.not_mem_nil,or_false] at hv
 rcases hv with rfl | rfl | rfl<;>rfl
theorem row_cell2 {w:World} {base c gb:Nat} {ms:List Int} (h:w.ownsRow base 2 1 (.slice (some ⟨gb,0,none⟩) ms.length c) ms.length (ms.flatMap I64.enc)) {k:Nat} (hk:k < ms.length):w.cell? ⟨gb,k,none⟩=some (.int .i64 (ms.getD k 0)):=by
 obtain ⟨b,o,e,hc⟩:=num_cell (own_slice I64.enc_len h rfl) hk
 cases e
 rwa [Nat.zero_add] at hc
theorem row_cellT {w:World} {base c gb:Nat} {ms:List ByteArray} (h:w.ownsRow base 9 1 (.slice (some ⟨gb,0,none⟩) ms.length c) ms.length (ms.flatMap Tx.enc)) {k:Nat} (hk:k < ms.length):w.cell? ⟨gb,k,none⟩=some (.string (ms.getD k ⟨#[]⟩)):=by
 obtain ⟨b,o,e,hc⟩:=(own_slice Tx.enc_len h rfl).open (by omega)
 cases e
 have:=words_cell hc hk
 rwa [Nat.zero_add] at this
/-- a variable beside a box that is written -/
theorem VarAt.beside {w:World} {g X:Nat} {t:TypeId} {cs:List Value} {base:Nat} {x:Gam} {q:GaA} (h:VarAt w X t cs) (hg:GBox w base g x q) (hne:g≠X) (o:Nat) (v:Value):VarAt (w.setCell ⟨g,o,none⟩ v) X t cs :=
 h.grown (hg.var.set o v).2 (by intro e;cases e;exact hne rfl)
theorem VarAt.beside2 {w:World} {g X:Nat} {t:TypeId} {cs:List Value} {base:Nat} {x:Gam} {q:GaA} (h:VarAt w X t cs) (hg:GBox w base g x q) (hne:g≠X) (o:Nat) (vs:List Value):VarAt (w.setCells g o vs) X t cs :=
 h.grown (set_cells g _ vs o w _ hg.var) (by intro e;cases e;exact hne rfl)
theorem l19Withdraw_any (x:Gam) (q:GaA) (g base:Nat) (w:World) (hg:GBox w base g x q) (hx:x.Wd) :
  Calls Tryz.prog 52 #[.pointer (some ⟨g,0,none⟩)] w fun e w'=>e=.returned (.tuple #[])∧∃ q',GBox w' base g x.back q'∧Below base w w':=by
 obtain ⟨i0,hi0,hi1,hi2,hi3⟩:=info_parts infoTx
 have HB:=Lh hg
 have HX:=Lh hx
 obtain ⟨n,hp⟩:=hx.play
 obtain ⟨hdt,hdl⟩:=bag_parts hx.drawn
 obtain ⟨hmp,hml⟩:=hx.mover_pile
 have hs12:=hp.twelve
 have hrl:=hx.racks
 have hsl:=hx.scores
 have hcl:=hx.clocks
 have hds:x.last.drawn.size≤120:=by simpa using hdl
 have hbs:x.bag.size≤120:=by simpa using (bag_parts hx.bag).2
 have hms:x.mover.size≤7:=by simpa using hml
 have hfr7:=hx.placed
 have hsc:=hx.score
 have hzr:=hx.zeros
 obtain ⟨k,hk,hk2⟩:∃ k:Nat,x.last.player=(k:Int)∧k < 2:=⟨x.last.player.toNat,by have:=hx.player;omega,by have:=hx.player;omega⟩
 have htk:x.last.player.toNat=k:=by omega
 have hmv:x.mover=x.rack k:=by unfold Gam.mover;rw [htk]
 have hsr:-50000≤x.scores.getD k 0∧x.scores.getD k 0≤50000:=by
  match k,hk2 with
  | 0,_=>exact hx.score0
  | 1,_=>exact hx.score1
 have hrest:=hx.rest (srt_sort _) (srt_perm hdt)
 have hrestl:(takeR (srtL x.last.drawn.data.toList) x.mover.data.toList).length≤7:=by rw [← hrest.2.length_eq];exact hx.rackB_len.2
 have HBD:Hid (∀ (q:GaA) (W:World),GAt W g x q→Calls Tryz.prog 95 #[.pointer (some ⟨g,0,none⟩),.string x.last.before] W fun e w'=>e=.returned (.agg #[.int .i64 x.before.size,.string x.before.premium,.string x.before.cells])∧Below W.heap.size W w'):=Lh (fun q W h=>l18Board_any x q g x.last.before W h)
 have HFL:Hid (∀ X W,BAt W X 0 x.before→Calls Tryz.prog 96 #[.pointer (some ⟨X,0,none⟩),.agg #[.int .i64 x.last.play.row,.int .i64 x.last.play.col,.bool x.last.play.down,.string x.last.play.word]] W fun e w'=>e=.returned (flatV x.before x.last.play)∧Below W.heap.size W w'):=Lh (fun X W h=>l12Flat_any x.before x.last.play n X 0 W hp.good h)
 have HPL:Hid (∀ X W,BAt W X 0 (x.before.flat x.last.play.down)→Calls Tryz.prog 98 #[.pointer (some ⟨X,0,none⟩),.agg #[.int .i64 x.last.play.flat.row,.int .i64 x.last.play.flat.col,.bool x.last.play.flat.down,.string x.last.play.word]] W (StrPost W (placedB x.last.play.word (x.before.fresh x.last.play)))):=Lh (fun X W h=>by
  refine l12Placed_of (x.before.flat x.last.play.down) x.last.play.flat.row x.last.play.flat.col x.last.play.flat.down x.last.play.word (x.before.fresh x.last.play) X W h (Lh (fun W2 h2=>?_)) (fun i hi=>(freshL_lt hi).1) (by omega)
  have:=l12Fresh_any (x.before.flat x.last.play.down) n x.last.play.flat.row x.last.play.flat.col x.last.play.flat.down x.last.play.word X 0 W2 (hp.good.flat x.last.play.down) h2 hp.twelve (by rw [Ply.flat_row];exact hp.r0) (by rw [Ply.flat_row];exact hp.r1) (by rw [Ply.flat_col];exact hp.c0) (by rw [Ply.flat_col];exact hp.c1)
  rw [Ply.flat_row,Ply.flat_col] at this ⊢
  exact this)
 have HTI:Hid (∀ W,Calls Tryz.prog 97 #[.string (mkB (placedB x.last.play.word (x.before.fresh x.last.play)))] W (SortPost W (x.before.tiles x.last.play))):=Lh (fun W=>by
  have:=l03Tiles_any (mkB (placedB x.last.play.word (x.before.fresh x.last.play))) W (by rw [mkB_size,placedB_len];omega)
  rw [mkB_data] at this
  exact this)
 have HSO:Hid (∀ W,Calls Tryz.prog 71 #[.string x.last.drawn] W fun e w'=>e=.returned (.string (mkB (srtL x.last.drawn.data.toList)))∧Below W.heap.size W w'):=Lh (fun W=>(l03Sort_any x.last.drawn W (by omega)).mono fun e w' ⟨R,h1,h2,h3,h4⟩=>⟨by rw [h1,srt_of hdt h2 h3],h4⟩)
 have HTK:Hid (∀ W,Calls Tryz.prog 70 #[.string (x.rack k),.string (mkB (srtL x.last.drawn.data.toList))] W fun e w'=>e=.returned (.tuple #[.string (mkB (takeR (srtL x.last.drawn.data.toList) x.mover.data.toList)),.bool true])∧Below W.heap.size W w'):=Lh (fun W=>by
  have h3:=l03TakeF_any x.mover (mkB (srtL x.last.drawn.data.toList)) W (by omega) (by rw [mkB_size,srt_len hdt];omega)
  rw [mkB_data,hrest.1,decide_eq_true rfl,hmv] at h3
  rw [hmv]
  exact h3)
 have htl:(x.before.tiles x.last.play).length≤7:=by rw [tiles_len];exact hfr7
 have HSN:Hid (∀ (P:List UInt8),P.Perm (x.before.tiles x.last.play)→∀ W,Calls Tryz.prog 71 #[.string (mkB (takeR (srtL x.last.drawn.data.toList) x.mover.data.toList)++mkB P)] W (StrPost W x.rackB)):=Lh (fun P hP W=>by
  have e0:(mkB (takeR (srtL x.last.drawn.data.toList) x.mover.data.toList)++mkB P).data.toList=takeR (srtL x.last.drawn.data.toList) x.mover.data.toList++P:=by rw [cat_mk,mkB_data,mkB_data,mkB_data]
  have hpl:=hP.length_eq
  have h:=l03Sort_any (mkB (takeR (srtL x.last.drawn.data.toList) x.mover.data.toList)++mkB P) W (by rw [ByteArray.size_append,mkB_size,mkB_size];omega)
  rw [e0] at h
  exact h.mono fun e w' ⟨R,g1,g2,g3,g4⟩=>⟨by rw [g1,HX.out.rackB_of (srt_sort _) (srt_perm hdt) hP g2 g3],g4⟩)
 have HPZ:Hid (∀ P:List UInt8,P.Perm (x.before.tiles x.last.play)→P.length≤7):=Lh (fun P h=>by rw [h.length_eq];exact htl)
 have hst:=HX.out.score_at (j:=0) (by decide)
 have hst1:=HX.out.score_at (j:=1) (by decide)
 have HST:Hid (∀ (q:GaA) (W:World),GBox W base g x.back1 q→Calls Tryz.prog 76 #[.pointer (some ⟨g,0,none⟩)] W fun e w'=>e=.returned (.tuple #[])∧∃ q',GBox w' base g x.back1.settled q'∧Below base W w'):=Lh (fun q W h=>l18Settle_any x.back1 q g base W h HX.out.cf (by show (x.scores.set _ _).length=2;rw [List.length_set,hsl]) hst hst1)
 have HOI:Hid (∀ (q:GaA) (W:World),SliceAt W 1 I64.enc q.scores.a x.scores→Calls Tryz.prog 73 #[.slice q.scores.a 2 q.scores.c] W (NumsPost W x.scores)):=Lh (fun q W h=>by
  have:=l00Own_any x.scores q.scores.a q.scores.c W h (by omega)
  rw [hsl] at this
  exact this)
 have EQB:Hid (x.back1={ x with board:=x.before,bag:=x.last.drawn++x.bag,racks:=x.racks.set k (mkB x.rackB),scores:=x.scores.set k (x.scores.getD k 0 - x.last.score),zeros:=x.last.zeros+1,last:=Lst.turn 3 x.last.player }):=Lh (by unfold Gam.back1;rw [htk])
 have hrz:(mkB (takeR (srtL x.last.drawn.data.toList) x.mover.data.toList)).size≤7:=by rw [mkB_size];exact hrestl
 have HK:=Lh hk
 clear hg hx hp hdt hdl hmp hml hrest hrestl hmv htk hst hst1 htl HX hms hk
 generalize hrb:mkB x.rackB=rb0 at *
 generalize hrr:mkB (takeR (srtL x.last.drawn.data.toList) x.mover.data.toList)=rr at *
 generalize hsd:mkB (srtL x.last.drawn.data.toList)=sd at *
 generalize hpb:mkB (placedB x.last.play.word (x.before.fresh x.last.play))=pb at *
 unfold StrPost at HPL HSN
 rw [hrb] at HSN
 rw [hpb] at HPL
 clear hrb hrr hsd hpb
 go_enter Tryz.func52,Tryz.ntmps52
 -- the last play,in a variable
 have c19:=HB.out.cell (i:=19) rfl
 have c20:=HB.out.cell (i:=20) rfl
 have c21:=HB.out.cell (i:=21) rfl
 have c22:=HB.out.cell (i:=22) rfl
 have c23:=HB.out.cell (i:=23) rfl
 have c24:=HB.out.cell (i:=24) rfl
 have c25:=HB.out.cell (i:=25) rfl
 have c26:=HB.out.cell (i:=26) rfl
 have c27:=HB.out.cell (i:=27) rfl
 have c28:=HB.out.cell (i:=28) rfl
 go_upto_region 1 with fail
 clear c19 c20 c21 c22 c23 c24 c25 c26 c27 c28
 change Code.wp _ _ _ _ (w.alloc (.cells (lstCells x.last).toArray 46))
 have VX:=Lh (VarAt.new w 46 (lstCells x.last))
 have hd:Below w.heap.size w (w.alloc (.cells (lstCells x.last).toArray 46)):=(Below.refl _ _).alloc (Nat.le_refl _) _
 have hb:=hd.mono HB.out.size
 have hgX:g≠w.heap.size:=by have:=HB.out.var.lt;omega
 have hbX:=HB.out.size
 replace HB:=Lh (HB.out.kept hd)
 clear hd
 generalize w.alloc (.cells (lstCells x.last).toArray 46)=w1 at *
 generalize w.heap.size=X at *
 -- the board ahead of it
 have x6:=VX.out.cell (i:=6) rfl
 go_wp2_with fail
 refine (HBD.out _ _ HB.out.gat).mono ?_
 rintro e w2 ⟨rfl,hd⟩
 clear x6 HBD
 replace hb:=hb.trans (hd.mono HB.out.size)
 replace HB:=Lh (HB.out.kept hd)
 replace VX:=Lh (VX.out.kept hd)
 clear hd
 have hd:Below w2.heap.size w2 (w2.alloc (.cells (Brd.enc x.before).toArray 41)):=(Below.refl _ _).alloc (Nat.le_refl _) _
 have VB:=Lh (VarAt.new w2 41 (Brd.enc x.before))
 have HBA:Hid (BAt (w2.alloc (.cells (Brd.enc x.before).toArray 41)) w2.heap.size 0 x.before):=Lh (BAt.new w2 x.before 41)
 have hgB:g≠w2.heap.size:=by have:=HB.out.var.lt;omega
 replace hb:=hb.trans (hd.mono HB.out.size)
 replace HB:=Lh (HB.out.kept hd)
 replace VX:=Lh (VX.out.kept hd)
 clear hd
 go_upto_region 2 with fail
 change Code.wp _ _ _ _ (w2.alloc (.cells (Brd.enc x.before).toArray 41))
 generalize w2.alloc (.cells (Brd.enc x.before).toArray 41)=w3 at *
 generalize w2.heap.size=B at *
 -- turned across
 have x2:=VX.out.cell (i:=2) rfl
 have x3:=VX.out.cell (i:=3) rfl
 have x4:=VX.out.cell (i:=4) rfl
 have x5:=VX.out.cell (i:=5) rfl
 go_wp2_with fail
 refine (HFL.out _ _ HBA.out).mono ?_
 rintro e w4 ⟨rfl,hd⟩
 unfold flatV
 clear HFL x2 x3 x4 x5 HBA
 replace hb:=hb.trans (hd.mono HB.out.size)
 replace HB:=Lh (HB.out.kept hd)
 replace VX:=Lh (VX.out.kept hd)
 replace VB:=Lh (VB.out.kept hd)
 clear hd
 generalize hff:x.before.flat x.last.play.down=f at *
 generalize hfr:x.last.play.flat.row=fr0 at *
 generalize hfc:x.last.play.flat.col=fc at *
 generalize hfd:x.last.play.flat.down=fd at *
 clear hff hfr hfc hfd
 have HF:Hid (BAt ((w4.alloc (.cells #[.int .i64 f.size,.string f.premium,.string f.cells] 41)).alloc (.cells #[.int .i64 fr0,.int .i64 fc,.bool fd,.string x.last.play.word] 44)) w4.heap.size 0 f):=Lh ((BAt.new w4 f 41).kept ((Below.refl _ _).alloc (Nat.le_refl _) _))
 have VQ:Hid (VarAt ((w4.alloc (.cells #[.int .i64 f.size,.string f.premium,.string f.cells] 41)).alloc (.cells #[.int .i64 fr0,.int .i64 fc,.bool fd,.string x.last.play.word] 44)) (w4.heap.size+1) 44 [.int .i64 fr0,.int .i64 fc,.bool fd,.string x.last.play.word]):=Lh (by
  have:=VarAt.new (w4.alloc (.cells #[.int .i64 f.size,.string f.premium,.string f.cells] 41)) 44 [.int .i64 fr0,.int .i64 fc,.bool fd,.string x.last.play.word]
  simp only [World.size_alloc] at this
  exact this)
 have hd:Below w4.heap.size w4 ((w4.alloc (.cells #[.int .i64 f.size,.string f.premium,.string f.cells] 41)).alloc (.cells #[.int .i64 fr0,.int .i64 fc,.bool fd,.string x.last.play.word] 44)):=((Below.refl _ _).alloc (Nat.le_refl _) _).alloc (by simp) _
 have hgF:g≠w4.heap.size:=by have:=HB.out.var.lt;omega
 have hgQ:g≠w4.heap.size+1:=by have:=HB.out.var.lt;omega
 replace hb:=hb.trans (hd.mono HB.out.size)
 replace HB:=Lh (HB.out.kept hd)
 replace VX:=Lh (VX.out.kept hd)
 replace VB:=Lh (VB.out.kept hd)
 clear hd
 go_upto_region 3 with fail
 generalize (w4.alloc (.cells #[.int .i64 f.size,.string f.premium,.string f.cells] 41)).alloc (.cells #[.int .i64 fr0,.int .i64 fc,.bool fd,.string x.last.play.word] 44)=w5 at *
 generalize w4.heap.size=F at *
 -- what is left of the rack
 obtain ⟨gr,grq,_,_,hro⟩:=HB.out.rows.racks.block (show 0 < x.racks.length by omega)
 have brc:w5.cell? ⟨gr,k,none⟩=some (.string (x.rack k)):=row_cellT hro (show k < x.racks.length by omega)
 have b14:=HB.out.cell (i:=14) rfl
 rw [grq,hrl] at b14
 replace b14:=cell_regrown b14
 have x1:=VX.out.cell (i:=1) rfl
 rw [HK.out] at x1
 have y1:=cell_regrown x1
 have y7:=cell_regrown (VX.out.cell (i:=7) rfl)
 replace brc:=cell_regrown brc
 have hki:(k:Int) < 2:=by omega
 clear grq x1 hro
 refine wp_region_quiet_below (by kernel_rfl) (by kernel_rfl) ?_
 repeat (go_big_quiet_step ((first | (go_at_call 71;exact Calls.regrown_of (HSO.out _)) | (go_at_call 70;exact Calls.regrown_of (HTK.out _)))))
 refine wpQuiet_nil ?_
 intro w6 hw'
 obtain ⟨⟨dq,oq⟩,hw''⟩:=hw'
 have hd:=below_regrown w5 dq oq
 rw [← hw''] at hd
 clear hw'' b14 y1 y7 brc HSO HTK
 replace hb:=hb.trans (hd.mono HB.out.size)
 replace HB:=Lh (HB.out.kept hd)
 replace VX:=Lh (VX.out.kept hd)
 replace VB:=Lh (VB.out.kept hd)
 replace VQ:=Lh (VQ.out.kept hd)
 replace HF:=Lh (HF.out.kept hd)
 clear hd
 go_upto_region 4 with fail
 -- the board is put back
 have q0:=VB.out.cell (i:=0) rfl
 have q1:=VB.out.cell (i:=1) rfl
 have q2:=VB.out.cell (i:=2) rfl
 have tR:w6.there g 10 3:=fun j hj=>HB.out.var.there (n:=30) rfl (10+j) (by omega) |> fun h=>by simpa using h
 obtain ⟨B2,b2⟩:=HB.out.puts (y:={ x with board:=x.before }) 10 (Brd.enc x.before) rfl ⟨⟨rfl,rfl,rfl⟩,rfl,rfl,rfl⟩
 replace VX:=Lh (VX.out.beside2 HB.out hgX 10 (Brd.enc x.before))
 replace VQ:=Lh (VQ.out.beside2 HB.out hgQ 10 (Brd.enc x.before))
 replace HF:=Lh (HF.out.grown (set_cells g _ (Brd.enc x.before) 10 w6 _ HB.out.var) (by intro e;cases e;exact hgF rfl))
 replace HB:=Lh B2
 replace hb:=hb.trans b2
 clear B2 b2 VB
 go_upto_region 5 with (refine wpList_store_mid rfl 41 _ _ rfl g 10 (Brd.enc x.before).toArray rfl rfl tR size_board (all_oneCell_toArray (board_one _)) ?_)
 change Code.wp _ _ _ _ (w6.setCells g 10 (Brd.enc x.before))
 clear q0 q1 q2 tR
 generalize w6.setCells g 10 (Brd.enc x.before)=w7 at *
 -- the bag
 have hd:Below w7.heap.size w7 w7.drew:=(Below.refl _ _).drew
 replace hb:=hb.trans (hd.mono HB.out.size)
 replace HB:=Lh (HB.out.kept hd)
 replace VX:=Lh (VX.out.kept hd)
 replace VQ:=Lh (VQ.out.kept hd)
 replace HF:=Lh (HF.out.kept hd)
 clear hd
 have x7:=VX.out.cell (i:=7) (v:=.string x.last.drawn) rfl
 have c13:=HB.out.cell (i:=13) (v:=.string x.bag) rfl
 have f13:=HB.out.free 13
 have hcat:(9223372036854775807 < x.last.drawn.size+x.bag.size)=False:=eq_false (by omega)
 refine wp_region_still_tail 8 (by kernel_rfl) (by kernel_rfl) ?_
 simp only [List.take_succ_cons,List.take_zero,List.drop_succ_cons,List.drop_zero]
 change wpStill _ _ w7.drew (fun a'=>wpList _ _ _ _ a' w7.drew) _ _
 generalize w7.drew=w8 at *
 repeat still_step
 refine wpStill_nil ?_
 obtain ⟨B2,b2⟩:=HB.out.put (y:={ x with board:=x.before,bag:=x.last.drawn++x.bag }) 13 (.string (x.last.drawn++x.bag)) rfl ⟨⟨rfl,rfl,rfl⟩,rfl,rfl,rfl⟩
 replace VX:=Lh (VX.out.beside HB.out hgX 13 (.string (x.last.drawn++x.bag)))
 replace VQ:=Lh (VQ.out.beside HB.out hgQ 13 (.string (x.last.drawn++x.bag)))
 replace HF:=Lh (HF.out.grown (HB.out.var.set 13 (.string (x.last.drawn++x.bag))).2 (by intro e;cases e;exact hgF rfl))
 replace HB:=Lh B2
 replace hb:=hb.trans b2
 clear B2 b2
 go_upto_region 6 with fail
 clear x7 c13 f13 hcat
 generalize w8.setCell ⟨g,13,none⟩ (.string (x.last.drawn++x.bag))=w9 at *
 -- a row of the call's own for the racks
 have hx:Below w9.heap.size w9 (w9.alloc (.cells #[] 9)):=(Below.refl _ _).alloc (Nat.le_refl _) _
 have HO:=Lh (own_empty w9 9)
 have HB6:=Lh (HB.out.kept hx)
 have HS:=Lh HB6.out.rows.at.2.1
 have c14:=HB6.out.cell (i:=14) rfl
 clear HB6
 go_wp2_with (at_builtin;go_must (refine wpList_copy Tx.enc_len tx_one rfl (.tmp 53) (.tmp 57) 25 rfl w9.heap.size 9 i0 _ 16 Tryz.underlying25 hi0 hi1 hi2 hi3 rfl (by decide) w9.heap.size HO.out x.racks q.racks.a q.racks.c HS.out ?c0 ?c1 rfl ?c2 ?_))
 intro g2 cap w10 ho hgr _
 have hbo:=below_grown hx (by simp) hgr (Nat.le_refl _)
 have HO2:=Lh ho
 clear ho hgr hx HO HS c14
 go_upto_region 7 with fail
 -- the new rack
 have hd:Below w10.heap.size w10 w10.drew:=(Below.refl _ _).drew
 replace hbo:=hbo.trans (hd.mono hbo.size)
 replace HO2:=Lh (own_below HO2.out hd)
 clear hd
 have HSF:Hid (∀ W,Below w9.heap.size w9 W→W.cell? ⟨X,1,none⟩=some (.int .i64 k)∧W.rangeAt (F+1) 0 [.int .i64 fr0,.int .i64 fc,.bool fd,.string x.last.play.word]):=Lh (fun W h=>⟨by have:=(VX.out.kept h).cell (i:=1) rfl;rw [HK.out] at this;exact this,(VQ.out.kept h).range⟩)
 refine wp_region_held_drew (S:=fun w'=>w'.cell? ⟨X,1,none⟩=some (.int .i64 k)∧w'.rangeAt (F+1) 0 [.int .i64 fr0,.int .i64 fc,.bool fd,.string x.last.play.word]) (by kernel_rfl) (HSF.out _ hbo) (fun hHeld=>?_)
 generalize w10.drew=wd at *
 refine slotA 0 59 (.slice (some ⟨g2,0,none⟩) 2 cap) ?_
 simp only [S3]
 refine slotA 1 60 (.pointer (some ⟨X,1,none⟩)) ?_
 simp only [S3]
 refine slotA 2 61 (.int .i64 k) ?_ (hy:=Or.inl ⟨by rfl,fun w' hS=>by have c9:=hS.1;go_simp⟩)
 simp only [S3]
 refine slotA 3 62 (.string rr) ?_
 simp only [S3]
 refine slotA 4 63 (.agg #[.int .i64 fr0,.int .i64 fc,.bool fd,.string x.last.play.word]) ?_ (hy:=yieldsIf_load_mid (by rfl) 44 _ rfl (F+1) 0 rfl [.int .i64 fr0,.int .i64 fc,.bool fd,.string x.last.play.word] _ (fun _ h=>h.2) Tryz.underlying44 rfl (by kernel_rfl))
 simp only [S3]
 refine wpAnyH_ready (rs:=[5]) (by kernel_rfl) (by simp) ?_
 refine AllReadyH.cons (o:=_) rfl (fun K hK=>?_) AllReadyH.nil
 go_simp
 refine (HPL.out _ _ (HF.out.kept hbo)).mono ?_
 rintro e wa ⟨rfl,hd⟩
 replace hbo:=hbo.trans (hd.mono hbo.size)
 replace HO2:=Lh (own_below HO2.out hd)
 clear hd hHeld
 go_wp2_with fail
 refine hK.out _ _ (HSF.out _ hbo) (fun hHeld=>?_)
 clear hK K
 refine wpAnyH_ready (rs:=[6]) (by kernel_rfl) (by simp) ?_
 refine AllReadyH.cons (o:=_) rfl (fun K hK=>?_) AllReadyH.nil
 go_simp
 refine (HTI.out _).mono ?_
 rintro e wb ⟨P,rfl,_,hP,hd⟩
 have hz4:rr.size+(mkB P).size≤9223372036854775807:=by
  have:=HPZ.out P hP
  rw [mkB_size]
  omega
 have HSP:=Lh (HSN.out P hP)
 replace hbo:=hbo.trans (hd.mono hbo.size)
 replace HO2:=Lh (own_below HO2.out hd)
 clear hd hHeld HTI HPL HF hP HSN HPZ
 generalize mkB P=mp at *
 go_wp2_with fail
 refine hK.out _ _ (HSF.out _ hbo) (fun hHeld=>?_)
 clear hK K
 refine slotA 7 66 (.string (rr++mp)) ?_
 simp only [S3]
 refine wpAnyH_ready (rs:=[8]) (by kernel_rfl) (by simp) ?_
 refine AllReadyH.cons (o:=_) rfl (fun K hK=>?_) AllReadyH.nil
 go_simp
 refine (HSP.out _).mono ?_
 rintro e wc ⟨rfl,hd⟩
 replace hbo:=hbo.trans (hd.mono hbo.size)
 replace HO2:=Lh (own_below HO2.out hd)
 clear hd hHeld HSP hz4
 go_wp2_with fail
 refine hK.out _ _ (HSF.out _ hbo) (fun hHeld=>?_)
 clear hK K
 refine slotA 9 68 (.pointer (some ⟨g2,k,none⟩)) ?_
 simp only [S3]
 refine wpAnyH_ready (rs:=[10]) (by kernel_rfl) (by simp) ?_
 refine AllReadyH.cons (o:=_) rfl (fun K hK=>?_) AllReadyH.nil
 have HO3:wc.ownsRow w9.heap.size 9 1 (.slice (some ⟨g2,0,none⟩) x.racks.length cap) x.racks.length (x.racks.flatMap Tx.enc):=by rw [hrl];exact HO2.out
 have ct:=row_cellT HO3 (k:=k) (by omega)
 have cf:=HO3.frozenAt k
 obtain ⟨z1,w1r,_⟩:=TZ.setAt HO3 k rb0 hbo.size
 have hbz:=hbo.trans (w1r.below)
 have hg2:=(HO3.lt g2 rfl).1
 go_simp
 refine hK.out _ _ (HSF.out _ hbz) (fun hHeld2=>?_)
 clear hK K hHeld HSF ct cf w1r HO3 HO2 hbo
 refine wpAnyH_done (by kernel_rfl) ?_ _
 clear hHeld2 VQ
 generalize wc.setCell ⟨g2,k,none⟩ (.string rb0)=w11 at *
 obtain ⟨of,og⟩:=HB.out.front (b:=effA (some (⟨g2,0,none⟩:Addr)) (x.racks.set k rb0)) (fun j hj=>by
  unfold effA at hj
  split at hj
  ·cases hj
  ·cases hj
   exact hg2)
 have hb9:=HB.out.size
 replace HB:=Lh (HB.out.kept hbz)
 replace VX:=Lh (VX.out.kept hbz)
 replace hb:=hb.trans (hbz.mono hb9)
 clear hbz
 -- the row is put into the box
 have c14:=HB.out.cell (i:=14) (v:=.slice q.racks.a 2 q.racks.c) (by show some (Value.slice q.racks.a x.racks.length q.racks.c)=_;rw [hrl])
 have f14:=HB.out.free 14
 obtain ⟨B4,b4⟩:=HB.out.newRacks ⟨some ⟨g2,0,none⟩,cap⟩ (x.racks.set k rb0) (z1.mono hb9) of og
 rw [List.length_set,hrl] at B4 b4
 replace VX:=Lh (VX.out.beside HB.out hgX 14 (.slice (some ⟨g2,0,none⟩) 2 cap))
 replace HB:=Lh B4
 replace hb:=hb.trans b4
 clear B4 b4 z1 of og hg2 hb9
 go_upto_region 9 with fail
 clear c14 f14
 generalize w11.setCell ⟨g,14,none⟩ (.slice (some ⟨g2,0,none⟩) 2 cap)=w12 at *
 -- a row of the call's own for the scores
 have c15:=HB.out.cell (i:=15) (v:=.slice q.scores.a 2 q.scores.c) (by show some (Value.slice q.scores.a x.scores.length q.scores.c)=_;rw [hsl])
 go_wp2_with fail
 refine (HOI.out q _ HB.out.rows.at.2.2.1).mono ?_
 rintro e w13 ⟨g3,cap3,rfl,ho,hd⟩
 rw [hsl]
 clear c15 HOI
 go_upto_region 10 with fail
 have hbo:=hd.trans ((Below.refl w12.heap.size w13).drew)
 have HO3:=own_below ho ((Below.refl w13.heap.size w13).drew)
 clear hd ho
 have VXd:=VX.out.kept hbo
 have d1:=VXd.cell (i:=1) rfl
 rw [HK.out] at d1
 have d8:=VXd.cell (i:=8) rfl
 have ct:=row_cell2 HO3 (k:=k) (by omega)
 have cf:=HO3.frozenAt k
 obtain ⟨z1,w1r,_⟩:=IZ.setAt HO3 k (x.scores.getD k 0 - x.last.score) hbo.size
 have hbz:=hbo.trans (w1r.below)
 have hg3:=(HO3.lt g3 rfl).1
 have wr0:IntKind.i64.wrap (x.scores.getD k 0 - x.last.score)=x.scores.getD k 0 - x.last.score:=IntWalk.i64_in _ (by omega)
 clear w1r HO3 VXd hbo
 refine wp_region_still_tail 8 (by kernel_rfl) (by kernel_rfl) ?_
 simp only [List.take_succ_cons,List.take_zero,List.drop_succ_cons,List.drop_zero]
 change wpStill _ _ w13.drew (fun a'=>wpList _ _ _ _ a' w13.drew) _ _
 generalize w13.drew=wd at *
 generalize x.scores.getD k 0=sk at *
 repeat still_step
 refine wpStill_nil ?_
 go_upto_region 11 with fail
 clear d1 d8 ct cf wr0
 generalize wd.setCell ⟨g3,k,none⟩ (.int .i64 (sk - x.last.score))=w14 at *
 obtain ⟨of,og⟩:=HB.out.front (b:=effA (some (⟨g3,0,none⟩:Addr)) (x.scores.set k (sk - x.last.score))) (fun j hj=>by
  unfold effA at hj
  split at hj
  ·cases hj
  ·cases hj
   exact hg3)
 have hb9:=HB.out.size
 replace HB:=Lh (HB.out.kept hbz)
 replace VX:=Lh (VX.out.kept hbz)
 replace hb:=hb.trans (hbz.mono hb9)
 clear hbz
 have c15:=HB.out.cell (i:=15) (v:=.slice q.scores.a 2 q.scores.c) (by show some (Value.slice q.scores.a x.scores.length q.scores.c)=_;rw [hsl])
 have f15:=HB.out.free 15
 obtain ⟨B4,b4⟩:=HB.out.newScores ⟨some ⟨g3,0,none⟩,cap3⟩ (x.scores.set k (sk - x.last.score)) (z1.mono hb9) of og
 rw [List.length_set,hsl] at B4 b4
 replace VX:=Lh (VX.out.beside HB.out hgX 15 (.slice (some ⟨g3,0,none⟩) 2 cap3))
 replace HB:=Lh B4
 replace hb:=hb.trans b4
 clear B4 b4 z1 of og hg3 hb9
 go_upto_region 12 with fail
 clear c15 f15
 generalize w14.setCell ⟨g,15,none⟩ (.slice (some ⟨g3,0,none⟩) 2 cap3)=w15 at *
 -- the turns without points
 have d9:=VX.out.cell (i:=9) rfl
 have c18:=HB.out.cell (i:=18) (v:=.int .i64 x.zeros) rfl
 have f18:=HB.out.free 18
 have wr0:IntKind.i64.wrap (x.last.zeros+1)=x.last.zeros+1:=IntWalk.i64_in _ (by omega)
 obtain ⟨B2,b2⟩:=HB.out.put (y:={ x with board:=x.before,bag:=x.last.drawn++x.bag,racks:=x.racks.set k rb0,scores:=x.scores.set k (sk - x.last.score),zeros:=x.last.zeros+1 }) 18 (.int .i64 (x.last.zeros+1)) rfl ⟨⟨rfl,rfl,rfl⟩,rfl,rfl,rfl⟩
 replace VX:=Lh (VX.out.beside HB.out hgX 18 (.int .i64 (x.last.zeros+1)))
 replace HB:=Lh B2
 replace hb:=hb.trans b2
 clear B2 b2
 go_upto_region 13 with fail
 clear d9 c18 f18 wr0
 generalize w15.setCell ⟨g,18,none⟩ (.int .i64 (x.last.zeros+1))=w16 at *
 -- the last action
 have d1:=VX.out.cell (i:=1) rfl
 have tR:w16.there g 19 10:=fun j hj=>HB.out.var.there (n:=30) rfl (19+j) (by omega) |> fun h=>by simpa using h
 obtain ⟨B2,b2⟩:=HB.out.puts (y:={ x with board:=x.before,bag:=x.last.drawn++x.bag,racks:=x.racks.set k rb0,scores:=x.scores.set k (sk - x.last.score),zeros:=x.last.zeros+1,last:=Lst.turn 3 x.last.player }) 19 (lstCells (Lst.turn 3 x.last.player)) rfl ⟨⟨rfl,rfl,rfl⟩,rfl,rfl,rfl⟩
 replace HB:=Lh B2
 replace hb:=hb.trans b2
 clear B2 b2 VX
 go_upto_region 14 with (refine wpList_store_mid rfl 46 _ _ rfl g 19 (lstCells (Lst.turn 3 x.last.player)).toArray rfl rfl tR (size_last _) (all_oneCell_toArray (lstCells_one _)) ?_)
 change Code.wp _ _ _ _ (w16.setCells g 19 (lstCells (Lst.turn 3 x.last.player)))
 clear d1 tR
 generalize w16.setCells g 19 (lstCells (Lst.turn 3 x.last.player))=w17 at *
 rw [← EQB.out] at HB
 have c18:w17.cell? ⟨g,18,none⟩=some (.int .i64 (x.last.zeros+1)):=HB.out.cell rfl
 by_cases h6:x.last.zeros+1=6
 ·have HY:=Lh (Gam.back_yes (x:=x) h6)
  rw [h6] at c18
  go_wp2_with fail
  refine (HST.out _ _ HB.out).mono ?_
  rintro e w18 ⟨rfl,q9,hg,hd⟩
  have HB9:=Lh hg
  replace hb:=hb.trans hd
  clear hg hd HST HB
  go_wp2
  go_end0
  exact ⟨rfl,q9,by rw [HY.out];exact HB9.out,hb⟩
 ·have HY:=Lh (Gam.back_no (x:=x) h6)
  have b6:(x.last.zeros+1 == 6)=false:=by simpa using h6
  clear h6 HST
  generalize x.last.zeros+1=z1 at c18 b6
  go_wp2
  go_end0
  have HB9:=HB.out
  rw [← HY.out] at HB9
  first | exact ⟨rfl,_,HB9,hb⟩ | exact ⟨rfl,⟨_,HB9⟩,hb⟩
theorem specWithdraw_any (x:Gam) (p:GaA) (w:World) (ha:x.At p w) (hf:x.fit) (hs:x.small) :
  Calls Tryz.prog 14 #[.agg (gcells x p).toArray] w (TurnPost x.withdrawOf w):=by
 have hb:Below w.heap.size w ((w.alloc (.cells (gcells x p).toArray 48)).alloc (.cells gnil.toArray 48)):=((Below.refl _ _).alloc (Nat.le_refl _) _).alloc (by simp) _
 have HG:Hid (GAt ((w.alloc (.cells (gcells x p).toArray 48)).alloc (.cells gnil.toArray 48)) w.heap.size x p):=Lh ((GAt.new w x p 48 ha).kept ((Below.refl _ _).alloc (Nat.le_refl _) _))
 have VO:Hid (VarAt ((w.alloc (.cells (gcells x p).toArray 48)).alloc (.cells gnil.toArray 48)) (w.heap.size+1) 48 gnil):=by
  have:=VarAt.new (w.alloc (.cells (gcells x p).toArray 48)) 48 gnil
  rw [World.size_alloc] at this
  exact Lh this
 have HBG:Hid (∀ W,GAt W w.heap.size x p→Calls Tryz.prog 28 #[.pointer (some ⟨w.heap.size,0,none⟩),.int .i64 0] W fun e w'=>e=.returned (.int .i64 (x.begin 0))∧Below W.heap.size W w'):=Lh (fun W h=>l18Begin_any x p w.heap.size 0 W h hf)
 have HOW:Hid (∀ W,GAt W w.heap.size x p→Calls Tryz.prog 31 #[.pointer (some ⟨w.heap.size,0,none⟩)] W (GamPost x W)):=Lh (fun W h=>l18Own_any x p w.heap.size W h hs)
 clear ha hf hs
 obtain ⟨gc,hgc⟩:∃ gc,gc=gcells x p:=⟨_,rfl⟩
 rw [← hgc]
 rw [← hgc] at HG VO hb
 clear hgc
 by_cases h0:x.begin 0=0
 ·rw [h0] at HBG
  by_cases hk:x.last.kind=1
  ·have HY:=Lh (Gam.with3 h0 hk)
   have HWD:=Lh (Gam.wd h0 hk)
   have HWI:Hid (∀ q g base W,GBox W base g x q→Calls Tryz.prog 52 #[.pointer (some ⟨g,0,none⟩)] W fun e w'=>e=.returned (.tuple #[])∧∃ q',GBox w' base g x.back q'∧Below base W w'):=Lh (fun q g base W h=>l19Withdraw_any x q g base W h HWD.out)
   clear h0 HWD
   go_enter Tryz.func14,Tryz.ntmps14
   go_upto_region 1 with fail
   change Code.wp _ _ _ _ ((w.alloc (.cells gc.toArray 48)).alloc (.cells gnil.toArray 48))
   generalize (w.alloc (.cells gc.toArray 48)).alloc (.cells gnil.toArray 48)=w1 at *
   go_wp2_with fail
   refine (HBG.out _ HG.out).mono ?_
   rintro e w2 ⟨rfl,hd⟩
   replace hb:=hb.trans (hd.mono hb.size)
   replace HG:=Lh (HG.out.kept hd)
   replace VO:=Lh (VO.out.kept hd)
   clear hd
   clear HBG
   have c19:=HG.out.cell (i:=19) rfl
   rw [hk] at c19
   clear hk
   go_upto_region 6 with fail
   clear c19
   go_wp2_with fail
   refine (HOW.out _ HG.out).mono ?_
   rintro e w3 ⟨q,rfl,hz,ho,hd⟩
   have hbase:w.heap.size+2≤w2.heap.size:=VO.out.lt
   have hd0:=hd.size
   replace hb:=hb.trans (hd.mono hb.size)
   replace VO:=Lh (VO.out.kept hd)
   clear hd
   obtain ⟨B4,b4⟩:=GBox.made (hz.mono hbase) ho (Nat.le_trans hbase hd0)
   have tR:=gnil_there (VarAt.new w3 48 gnil)
   have HB:=Lh B4
   replace VO:=Lh (VO.out.kept b4)
   replace hb:=hb.trans (b4.mono hb.size)
   clear B4 b4 hz ho hbase hd0 HOW HG
   go_upto_region 7 with (refine wpList_store_mid rfl 48 _ _ rfl w3.heap.size 0 (gcells x q).toArray rfl rfl tR (size_game _ _) (all_oneCell_toArray (gcells_all1 _ _)) ?_)
   change Code.wp _ _ _ _ ((w3.alloc (.cells gnil.toArray 48)).setCells w3.heap.size 0 (gcells x q))
   clear tR
   generalize (w3.alloc (.cells gnil.toArray 48)).setCells w3.heap.size 0 (gcells x q)=w4 at *
   generalize w3.heap.size=g at *
   go_wp2_with fail
   refine (HWI.out _ _ _ _ HB.out).mono ?_
   rintro e w5 ⟨rfl,q5,hg,hd⟩
   have HB5:=Lh hg
   replace VO:=Lh (VO.out.front hd (Nat.lt_succ_self _))
   replace hb:=hb.trans (hd.mono (Nat.le_add_right _ _))
   clear hg hd HWI HB
   generalize x.back=Y at *
   have RY:=HB5.out.var.range
   have tR:=gnil_there VO.out
   have hvl:=VO.out.lt
   obtain ⟨o6,k6⟩:=VO.out.put (gcells Y q5) rfl
   have HZ:=Lh (HB5.out.rows.store k6 (Nat.lt_succ_self _))
   have HO:=Lh HB5.out.off
   have hb6:=hb.grown k6 hb.size (fun k h=>by cases h;omega)
   have rZ:=o6.range
   clear o6 k6 hb VO hvl
   go_upto_region 8 with fail
   refine wp_region_list ?_
   refine wpList_load_mid rfl 48 _ rfl g 0 rfl (gcells Y q5) _ RY Tryz.underlying48 rfl (size_game _ _) ?_
   simp only [Act.put,S3]
   refine wpList_store_mid rfl 48 _ _ rfl (w.heap.size+1) 0 (gcells Y q5).toArray rfl rfl tR (size_game _ _) (all_oneCell_toArray (gcells_all1 _ _)) ?_
   change wpList _ _ _ _ _ (w5.setCells (w.heap.size+1) 0 (gcells Y q5))
   generalize w5.setCells (w.heap.size+1) 0 (gcells Y q5)=wZ at *
   clear RY tR
   have HV:=Lh (run_loadVar_mid (P:=Tryz.prog) wZ (w.heap.size+1) 0 48 (gcells Y q5) _ rZ Tryz.underlying48 rfl (size_game _ _))
   clear rZ HB5
   go_wp2
   refine bodyPost_ret (results_cell_tmp_var Tryz.results14 _ _ _ _ rfl HV.out) rfl ?_
   exact turn_some HY.out rfl HZ.out HO.out (Nat.le_add_right _ 2) hb6
  ·have HW:=Lh (Gam.with2 h0 hk)
   have hne:(x.last.kind != 1)=true:=by simpa using hk
   clear h0 hk HOW
   go_enter Tryz.func14,Tryz.ntmps14
   go_upto_region 1 with fail
   change Code.wp _ _ _ _ ((w.alloc (.cells gc.toArray 48)).alloc (.cells gnil.toArray 48))
   generalize (w.alloc (.cells gc.toArray 48)).alloc (.cells gnil.toArray 48)=w1 at *
   go_wp2_with fail
   refine (HBG.out _ HG.out).mono ?_
   rintro e w2 ⟨rfl,hd⟩
   replace hb:=hb.trans (hd.mono hb.size)
   replace HG:=Lh (HG.out.kept hd)
   replace VO:=Lh (VO.out.kept hd)
   clear hd
   clear HBG
   have c19:=HG.out.cell (i:=19) rfl
   generalize x.last.kind=kd at *
   clear HG
   go_upto_region 5 with fail
   have tR:=gnil_there VO.out
   obtain ⟨o6,k6⟩:=VO.out.put gnil rfl
   have hb6:=hb.grown k6 hb.size (fun k h=>by cases h;omega)
   have rZ:=o6.range
   clear o6 k6 hb VO
   refine wp_region_list ?_
   refine wpList_built rfl 48 rfl gnil.toArray built_game ?_
   refine wpList_plain rfl (fun K hK=>?_)
   simp only [Act.put,S3]
   go_simp
   refine hK _ _ ?_
   clear hK K
   refine wpList_store_mid rfl 48 _ _ rfl (w.heap.size+1) 0 gnil.toArray rfl rfl tR size_nil (all_oneCell_toArray gnil_one) ?_
   change wpList _ _ _ _ _ (w2.setCells (w.heap.size+1) 0 gnil)
   generalize w2.setCells (w.heap.size+1) 0 gnil=wZ at *
   clear tR
   have HV:=Lh (run_loadVar_mid (P:=Tryz.prog) wZ (w.heap.size+1) 0 48 gnil _ rZ Tryz.underlying48 rfl size_nil)
   clear rZ
   go_wp2
   refine bodyPost_ret (results_cell_tmp_var Tryz.results14 _ _ _ _ rfl HV.out) rfl ?_
   exact turn_none HW.out rfl hb6
 ·have HW:=Lh (Gam.with1 h0)
  have hne:(x.begin 0 != 0)=true:=by simpa using h0
  have hn2:(x.begin 0 == 0)=false:=by simpa using h0
  generalize x.begin 0=c at *
  clear h0 HOW
  go_enter Tryz.func14,Tryz.ntmps14
  go_upto_region 1 with fail
  change Code.wp _ _ _ _ ((w.alloc (.cells gc.toArray 48)).alloc (.cells gnil.toArray 48))
  generalize (w.alloc (.cells gc.toArray 48)).alloc (.cells gnil.toArray 48)=w1 at *
  go_wp2_with fail
  refine (HBG.out _ HG.out).mono ?_
  rintro e w2 ⟨rfl,hd⟩
  replace hb:=hb.trans (hd.mono hb.size)
  replace HG:=Lh (HG.out.kept hd)
  replace VO:=Lh (VO.out.kept hd)
  clear hd
  clear HBG
  clear HG
  go_upto_region 5 with fail
  have tR:=gnil_there VO.out
  obtain ⟨o6,k6⟩:=VO.out.put gnil rfl
  have hb6:=hb.grown k6 hb.size (fun k h=>by cases h;omega)
  have rZ:=o6.range
  clear o6 k6 hb VO
  refine wp_region_list ?_
  refine wpList_built rfl 48 rfl gnil.toArray built_game ?_
  refine wpList_plain rfl (fun K hK=>?_)
  simp only [Act.put,S3]
  go_simp
  refine hK _ _ ?_
  clear hK K
  refine wpList_store_mid rfl 48 _ _ rfl (w.heap.size+1) 0 gnil.toArray rfl rfl tR size_nil (all_oneCell_toArray gnil_one) ?_
  change wpList _ _ _ _ _ (w2.setCells (w.heap.size+1) 0 gnil)
  generalize w2.setCells (w.heap.size+1) 0 gnil=wZ at *
  clear tR
  have HV:=Lh (run_loadVar_mid (P:=Tryz.prog) wZ (w.heap.size+1) 0 48 gnil _ rZ Tryz.underlying48 rfl size_nil)
  clear rZ
  go_wp2
  refine bodyPost_ret (results_cell_tmp_var Tryz.results14 _ _ _ _ rfl HV.out) rfl ?_
  exact turn_none HW.out rfl hb6
theorem specWithdrawPlay_any (x:Gam) (p:GaA) (w:World) (ha:x.At p w) (hf:x.fit) (hsm:x.small) :
  Calls Tryz.prog 14 #[.agg (gcells x p).toArray] w fun e w'=>∃ q:GaA,e=.returned (.tuple #[.agg (gcells x.withdrawOf.1 q).toArray,.int .i64 x.withdrawOf.2])∧x.withdrawOf.1.At q w'∧Below w.heap.size w w' :=
 (specWithdraw_any x p w ha hf hsm).mono (by
  rintro e w' ⟨q,h1,h2,_,h3⟩
  exact ⟨q,h1,h2.at,h3⟩)
end Go.Proofs.YtkjhapbjdjcipaaGreatDoor
