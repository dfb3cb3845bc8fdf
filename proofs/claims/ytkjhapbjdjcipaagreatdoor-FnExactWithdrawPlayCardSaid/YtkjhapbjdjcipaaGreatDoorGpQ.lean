/- Contracts: a turn without points and the end of a game, in a box: the reference. A valid game whose action may begin. · Contracts: the clock, a turn without points: the reference. A valid game whose action may begin. · Contracts: a pass: the reference, and both sides in the form that the law wants. Texts fit; of the program: Go's tables of unicode and unicode/utf8 hold what is laid (CEnv), internal/bytealg's MaxLen a number (EnvL). -/
import Derived.Test.YtkjhapbjdjcipaaGreatDoorGpM
set_option maxRecDepth 100000
set_option maxHeartbeats 8000000
namespace Go.Proofs.YtkjhapbjdjcipaaGreatDoor
open Go.ChangeShapes Go.WideShapes Go.ChangeAt Go.RowKit Go.Sort

theorem own_two (w:World) (a b:Int):(w.alloc (.cells #[.int .i64 a,.int .i64 b] 2)).ownsRow w.heap.size 2 1 (.slice (some ⟨w.heap.size,0,none⟩) 2 2) 2 ([a,b].flatMap I64.enc) :=
 ⟨rfl,.inr ⟨w.heap.size,2,#[.int .i64 a,.int .i64 b],rfl,Nat.le_refl _,heap_alloc_new w _,Nat.le_refl _,by unfold maxLen;omega,rfl,rfl⟩⟩
theorem l18Settle_any (x:Gam) (q:GaA) (g base:Nat) (w:World) (hg:GBox w base g x q) (hc:x.Cf) (hl:x.scores.length=2) (hs0:-200000≤x.scores.getD 0 0∧x.scores.getD 0 0≤200000) (hs1:-200000≤x.scores.getD 1 0∧x.scores.getD 1 0≤200000) :
  Calls Tryz.prog 76 #[.pointer (some ⟨g,0,none⟩)] w fun e w'=>e=.returned (.tuple #[])∧∃ q',GBox w' base g x.settled q'∧Below base w w':=by
 have HB:=Lh hg
 have r0:=hc.chg_range (k:=0) (by omega)
 have r1:=hc.chg_range (k:=1) (by omega)
 have HFC:=Lh (l18Change_any x q g w hg.gat hc)
 have EQB:Hid (x.settled={ x with scores:=[x.scores.getD 0 0+x.chg 0,x.scores.getD 1 0+x.chg 1],over:=true }):=Lh rfl
 have HCH:Hid (x.change=[x.chg 0,x.chg 1]):=Lh rfl
 have EX:Hid (x={ x with scores:=[x.scores.getD 0 0,x.scores.getD 1 0] }):=Lh (by rw [← two_list hl])
 clear hg hc hl
 generalize x.chg 0=c0 at *
 generalize x.chg 1=c1 at *
 generalize x.scores.getD 0 0=n0 at *
 generalize x.scores.getD 1 0=n1 at *
 go_enter Tryz.func76,Tryz.ntmps76
 go_wp2_with fail
 refine HFC.out.mono ?_
 rintro e w2 ⟨gn,cap,rfl,ho,hd⟩
 rw [Gam.change_len]
 rw [Gam.change_len,HCH.out] at ho
 clear HFC HCH
 go_upto_region 1 with fail
 have hd2:=hd.trans ((Below.refl w.heap.size w2).drew)
 have ho2:=own_below ho (Below.refl w2.heap.size w2).drew
 have HN:=Lh ho2
 have HB2:Hid (GBox w2.drew base g { x with scores:=[n0,n1] } q):=Lh (EX.out ▸ HB.out.kept hd2)
 have hb:=hd2.mono HB.out.size
 obtain ⟨gs,hq,t0,t1,_,_⟩:=clock_cell HB2.out.rows.scores rfl
 have ss0:w2.drew.cell? ⟨gs,0,none⟩=some (.int .i64 n0):=t0
 have ss1:w2.drew.cell? ⟨gs,1,none⟩=some (.int .i64 n1):=t1
 have d0:=HN.out.cellAt 0 (by show 0 < 2;decide)
 have d1:=HN.out.cellAt 1 (by show 1 < 2;decide)
 have cc0:w2.drew.cell? ⟨gn,0,none⟩=some (.int .i64 c0):=by rw [d0];rfl
 have cc1:w2.drew.cell? ⟨gn,1,none⟩=some (.int .i64 c1):=by rw [d1];rfl
 have wr0:IntKind.i64.wrap (n0+c0)=n0+c0:=IntWalk.i64_in _ (by omega)
 have wr1:IntKind.i64.wrap (n1+c1)=n1+c1:=IntWalk.i64_in _ (by omega)
 have HQ:=Lh hq
 have HNG:Hid (gn≠g):=Lh (by intro e;subst e;have h1:=(ho.lt gn rfl).1;have h2:=HB.out.var.lt;omega)
 clear hd hd2 ho ho2 HB EX t0 t1 d0 d1 hq
 refine wp_region_held_drew (S:=fun w'=>w'.cell? ⟨gs,0,none⟩=some (.int .i64 n0)∧w'.cell? ⟨gs,1,none⟩=some (.int .i64 n1)∧w'.cell? ⟨gn,0,none⟩=some (.int .i64 c0)∧w'.cell? ⟨gn,1,none⟩=some (.int .i64 c1)) (by kernel_rfl) ⟨ss0,ss1,cc0,cc1⟩ (fun hHeld=>?_)
 have hgl:g < w2.drew.heap.size:=HB2.out.var.lt
 have hgn:=(HN.out.lt gn rfl).2
 generalize w2.drew=wd at *
 clear ss0 ss1 cc0 cc1
 refine slotA 0 5 (.pointer (some ⟨g,0,none⟩)) ?_
 simp only [S3]
 refine slotA 1 6 (.pointer (some ⟨g,0,none⟩)) ?_
 simp only [S3]
 refine slotA 2 7 (.pointer (some ⟨g,0,none⟩)) ?_
 simp only [S3]
 refine slotA 3 8 (.pointer (some ⟨g,15,none⟩)) ?_
 simp only [S3]
 refine slotA 7 12 (.slice (some ⟨gn,0,none⟩) 2 cap) ?_
 simp only [S3]
 refine slotA 8 13 (.pointer (some ⟨gn,0,none⟩)) ?_
 simp only [S3]
 refine slotA 9 14 (.int .i64 c0) ?_ (hy:=Or.inl ⟨by rfl,fun w' hS=>by have c9:=hS.2.2.1;go_simp⟩)
 simp only [S3]
 refine slotA 11 16 (.pointer (some ⟨g,0,none⟩)) ?_
 simp only [S3]
 refine slotA 12 17 (.pointer (some ⟨g,0,none⟩)) ?_
 simp only [S3]
 refine slotA 13 18 (.pointer (some ⟨g,15,none⟩)) ?_
 simp only [S3]
 refine slotA 17 22 (.slice (some ⟨gn,0,none⟩) 2 cap) ?_
 simp only [S3]
 refine slotA 18 23 (.pointer (some ⟨gn,1,none⟩)) ?_
 simp only [S3]
 refine slotA 19 24 (.int .i64 c1) ?_ (hy:=Or.inl ⟨by rfl,fun w' hS=>by have c9:=hS.2.2.2;go_simp⟩)
 simp only [S3]
 have c15:=HB2.out.cell (i:=15) (v:=.slice q.scores.a 2 q.scores.c) rfl
 rw [HQ.out] at c15
 have hgs:=block_lt hHeld.1
 have hsg:gs≠g:=by
  intro e
  have h9:=HB2.out.sep _ (show effA q.scores.a [n0,n1]∈_ from by simp [Gam.effs]) g rfl
  rw [HQ.out,e] at h9
  exact h9 rfl
 have hng:gn≠g:=HNG.out
 refine wpAnyH_ready (rs:=[4,14]) (by kernel_rfl) (by simp) ?_
 refine AllReadyH.cons (o:=_) rfl (fun K hK=>?_) (AllReadyH.cons (o:=_) rfl (fun K hK=>?_) AllReadyH.nil)
 ·go_simp
  refine hK.out _ _ hHeld (fun _=>?_)
  clear hK K
  refine slotA 5 10 (.pointer (some ⟨gs,0,none⟩)) ?_
  simp only [S3]
  refine slotA 6 11 (.int .i64 n0) ?_ (hy:=Or.inl ⟨by rfl,fun w' hS=>by have c9:=hS.1;go_simp⟩)
  simp only [S3]
  refine slotA 10 15 (.int .i64 (n0+c0)) ?_
  simp only [S3]
  refine wpAnyH_ready (rs:=[14]) (by kernel_rfl) (by simp) ?_
  refine AllReadyH.cons (o:=_) rfl (fun K hK=>?_) AllReadyH.nil
  go_simp
  refine hK.out _ _ hHeld (fun _=>?_)
  clear hK K
  refine slotA 15 20 (.pointer (some ⟨gs,1,none⟩)) ?_
  simp only [S3]
  refine slotA 16 21 (.int .i64 n1) ?_ (hy:=Or.inl ⟨by rfl,fun w' hS=>by have c9:=hS.2.1;go_simp⟩)
  simp only [S3]
  refine slotA 20 25 (.int .i64 (n1+c1)) ?_
  simp only [S3]
  refine wpAnyH_ready (rs:=[21]) (by kernel_rfl) (by simp) ?_
  refine AllReadyH.cons (o:=_) rfl (fun K hK=>?_) AllReadyH.nil
  go_simp
  have hd:Below wd.heap.size wd (wd.alloc (.cells #[.int .i64 (n0+c0),.int .i64 (n1+c1)] 2)):=(Below.refl _ _).alloc (Nat.le_refl _) _
  have hz:IZ (wd.alloc (.cells #[.int .i64 (n0+c0),.int .i64 (n1+c1)] 2)) base (some ⟨wd.heap.size,0,none⟩) 2 [n0+c0,n1+c1]:=.inr (own_mono (own_two wd _ _) HB2.out.size)
  obtain ⟨of,og⟩:=HB2.out.front (b:=effA (some (⟨wd.heap.size,0,none⟩:Addr)) [n0+c0,n1+c1]) (fun k hk=>by cases hk;exact Nat.le_refl _)
  have HB3:=Lh (HB2.out.kept hd)
  have hHeld2:(wd.alloc (.cells #[.int .i64 (n0+c0),.int .i64 (n1+c1)] 2)).cell? ⟨gs,0,none⟩=some (.int .i64 n0)∧(wd.alloc (.cells #[.int .i64 (n0+c0),.int .i64 (n1+c1)] 2)).cell? ⟨gs,1,none⟩=some (.int .i64 n1)∧(wd.alloc (.cells #[.int .i64 (n0+c0),.int .i64 (n1+c1)] 2)).cell? ⟨gn,0,none⟩=some (.int .i64 c0)∧(wd.alloc (.cells #[.int .i64 (n0+c0),.int .i64 (n1+c1)] 2)).cell? ⟨gn,1,none⟩=some (.int .i64 c1):=⟨cell_kept hHeld.1 hd,cell_kept hHeld.2.1 hd,cell_kept hHeld.2.2.1 hd,cell_kept hHeld.2.2.2 hd⟩
  obtain ⟨B4,b4⟩:=HB3.out.newScores ⟨some ⟨wd.heap.size,0,none⟩,2⟩ [n0+c0,n1+c1] hz of og
  have HB4:=Lh B4
  have hb4:=(hb.trans (hd.mono HB2.out.size)).trans b4
  have hHeld4:((wd.alloc (.cells #[.int .i64 (n0+c0),.int .i64 (n1+c1)] 2)).setCell ⟨g,15,none⟩ (.slice (some ⟨wd.heap.size,0,none⟩) 2 2)).cell? ⟨gs,0,none⟩=some (.int .i64 n0)∧((wd.alloc (.cells #[.int .i64 (n0+c0),.int .i64 (n1+c1)] 2)).setCell ⟨g,15,none⟩ (.slice (some ⟨wd.heap.size,0,none⟩) 2 2)).cell? ⟨gs,1,none⟩=some (.int .i64 n1)∧((wd.alloc (.cells #[.int .i64 (n0+c0),.int .i64 (n1+c1)] 2)).setCell ⟨g,15,none⟩ (.slice (some ⟨wd.heap.size,0,none⟩) 2 2)).cell? ⟨gn,0,none⟩=some (.int .i64 c0)∧((wd.alloc (.cells #[.int .i64 (n0+c0),.int .i64 (n1+c1)] 2)).setCell ⟨g,15,none⟩ (.slice (some ⟨wd.heap.size,0,none⟩) 2 2)).cell? ⟨gn,1,none⟩=some (.int .i64 c1) :=
   ⟨set_cell_ne hsg hHeld2.1,set_cell_ne hsg hHeld2.2.1,set_cell_ne hng hHeld2.2.2.1,set_cell_ne hng hHeld2.2.2.2⟩
  have e15:=HB3.out.cell (i:=15) (v:=.slice q.scores.a 2 q.scores.c) rfl
  have f15:=HB3.out.free 15
  clear hd hz of og HB2 B4 b4 hb HB3
  generalize wd.alloc (.cells #[.int .i64 (n0+c0),.int .i64 (n1+c1)] 2)=w5 at *
  generalize wd.heap.size=gt at *
  refine hK.out _ _ hHeld2 (fun _=>?_)
  clear hK K hHeld2
  refine slotA 22 27 (.pointer (some ⟨g,0,none⟩)) ?_
  simp only [S3]
  refine slotA 23 28 (.pointer (some ⟨g,15,none⟩)) ?_
  simp only [S3]
  refine wpAnyH_ready (rs:=[24]) (by kernel_rfl) (by simp) ?_
  refine AllReadyH.cons (o:=_) rfl (fun K hK=>?_) AllReadyH.nil
  go_simp
  refine hK.out _ _ hHeld4 (fun _=>?_)
  clear hK K hHeld4 e15 f15
  refine wpAnyH_done (by kernel_rfl) ?_ _
  generalize w5.setCell ⟨g,15,none⟩ (.slice (some ⟨gt,0,none⟩) 2 2)=w6 at *
  have e29:=HB4.out.cell (i:=29) (v:=.bool x.over) rfl
  have f29:=HB4.out.free 29
  obtain ⟨B5,b5⟩:=HB4.out.put (y:={ x with scores:=[n0+c0,n1+c1],over:=true }) 29 (.bool true) rfl ⟨⟨rfl,rfl,rfl⟩,rfl,rfl,rfl⟩
  have HB5:=Lh B5
  have hb5:=hb4.trans b5
  clear B5 b5 hb4 HB4
  go_wp2
  go_end0
  exact ⟨rfl,_,by rw [EQB.out];exact HB5.out,hb5⟩
 ·go_simp
  refine hK.out _ _ hHeld (fun _=>?_)
  clear hK K
  refine slotA 15 20 (.pointer (some ⟨gs,1,none⟩)) ?_
  simp only [S3]
  refine slotA 16 21 (.int .i64 n1) ?_ (hy:=Or.inl ⟨by rfl,fun w' hS=>by have c9:=hS.2.1;go_simp⟩)
  simp only [S3]
  refine slotA 20 25 (.int .i64 (n1+c1)) ?_
  simp only [S3]
  refine wpAnyH_ready (rs:=[4]) (by kernel_rfl) (by simp) ?_
  refine AllReadyH.cons (o:=_) rfl (fun K hK=>?_) AllReadyH.nil
  go_simp
  refine hK.out _ _ hHeld (fun _=>?_)
  clear hK K
  refine slotA 5 10 (.pointer (some ⟨gs,0,none⟩)) ?_
  simp only [S3]
  refine slotA 6 11 (.int .i64 n0) ?_ (hy:=Or.inl ⟨by rfl,fun w' hS=>by have c9:=hS.1;go_simp⟩)
  simp only [S3]
  refine slotA 10 15 (.int .i64 (n0+c0)) ?_
  simp only [S3]
  refine wpAnyH_ready (rs:=[21]) (by kernel_rfl) (by simp) ?_
  refine AllReadyH.cons (o:=_) rfl (fun K hK=>?_) AllReadyH.nil
  go_simp
  have hd:Below wd.heap.size wd (wd.alloc (.cells #[.int .i64 (n0+c0),.int .i64 (n1+c1)] 2)):=(Below.refl _ _).alloc (Nat.le_refl _) _
  have hz:IZ (wd.alloc (.cells #[.int .i64 (n0+c0),.int .i64 (n1+c1)] 2)) base (some ⟨wd.heap.size,0,none⟩) 2 [n0+c0,n1+c1]:=.inr (own_mono (own_two wd _ _) HB2.out.size)
  obtain ⟨of,og⟩:=HB2.out.front (b:=effA (some (⟨wd.heap.size,0,none⟩:Addr)) [n0+c0,n1+c1]) (fun k hk=>by cases hk;exact Nat.le_refl _)
  have HB3:=Lh (HB2.out.kept hd)
  have hHeld2:(wd.alloc (.cells #[.int .i64 (n0+c0),.int .i64 (n1+c1)] 2)).cell? ⟨gs,0,none⟩=some (.int .i64 n0)∧(wd.alloc (.cells #[.int .i64 (n0+c0),.int .i64 (n1+c1)] 2)).cell? ⟨gs,1,none⟩=some (.int .i64 n1)∧(wd.alloc (.cells #[.int .i64 (n0+c0),.int .i64 (n1+c1)] 2)).cell? ⟨gn,0,none⟩=some (.int .i64 c0)∧(wd.alloc (.cells #[.int .i64 (n0+c0),.int .i64 (n1+c1)] 2)).cell? ⟨gn,1,none⟩=some (.int .i64 c1):=⟨cell_kept hHeld.1 hd,cell_kept hHeld.2.1 hd,cell_kept hHeld.2.2.1 hd,cell_kept hHeld.2.2.2 hd⟩
  obtain ⟨B4,b4⟩:=HB3.out.newScores ⟨some ⟨wd.heap.size,0,none⟩,2⟩ [n0+c0,n1+c1] hz of og
  have HB4:=Lh B4
  have hb4:=(hb.trans (hd.mono HB2.out.size)).trans b4
  have hHeld4:((wd.alloc (.cells #[.int .i64 (n0+c0),.int .i64 (n1+c1)] 2)).setCell ⟨g,15,none⟩ (.slice (some ⟨wd.heap.size,0,none⟩) 2 2)).cell? ⟨gs,0,none⟩=some (.int .i64 n0)∧((wd.alloc (.cells #[.int .i64 (n0+c0),.int .i64 (n1+c1)] 2)).setCell ⟨g,15,none⟩ (.slice (some ⟨wd.heap.size,0,none⟩) 2 2)).cell? ⟨gs,1,none⟩=some (.int .i64 n1)∧((wd.alloc (.cells #[.int .i64 (n0+c0),.int .i64 (n1+c1)] 2)).setCell ⟨g,15,none⟩ (.slice (some ⟨wd.heap.size,0,none⟩) 2 2)).cell? ⟨gn,0,none⟩=some (.int .i64 c0)∧((wd.alloc (.cells #[.int .i64 (n0+c0),.int .i64 (n1+c1)] 2)).setCell ⟨g,15,none⟩ (.slice (some ⟨wd.heap.size,0,none⟩) 2 2)).cell? ⟨gn,1,none⟩=some (.int .i64 c1) :=
   ⟨set_cell_ne hsg hHeld2.1,set_cell_ne hsg hHeld2.2.1,set_cell_ne hng hHeld2.2.2.1,set_cell_ne hng hHeld2.2.2.2⟩
  have e15:=HB3.out.cell (i:=15) (v:=.slice q.scores.a 2 q.scores.c) rfl
  have f15:=HB3.out.free 15
  clear hd hz of og HB2 B4 b4 hb HB3
  generalize wd.alloc (.cells #[.int .i64 (n0+c0),.int .i64 (n1+c1)] 2)=w5 at *
  generalize wd.heap.size=gt at *
  refine hK.out _ _ hHeld2 (fun _=>?_)
  clear hK K hHeld2
  refine slotA 22 27 (.pointer (some ⟨g,0,none⟩)) ?_
  simp only [S3]
  refine slotA 23 28 (.pointer (some ⟨g,15,none⟩)) ?_
  simp only [S3]
  refine wpAnyH_ready (rs:=[24]) (by kernel_rfl) (by simp) ?_
  refine AllReadyH.cons (o:=_) rfl (fun K hK=>?_) AllReadyH.nil
  go_simp
  refine hK.out _ _ hHeld4 (fun _=>?_)
  clear hK K hHeld4 e15 f15
  refine wpAnyH_done (by kernel_rfl) ?_ _
  generalize w5.setCell ⟨g,15,none⟩ (.slice (some ⟨gt,0,none⟩) 2 2)=w6 at *
  have e29:=HB4.out.cell (i:=29) (v:=.bool x.over) rfl
  have f29:=HB4.out.free 29
  obtain ⟨B5,b5⟩:=HB4.out.put (y:={ x with scores:=[n0+c0,n1+c1],over:=true }) 29 (.bool true) rfl ⟨⟨rfl,rfl,rfl⟩,rfl,rfl,rfl⟩
  have HB5:=Lh B5
  have hb5:=hb4.trans b5
  clear B5 b5 hb4 HB4
  go_wp2
  go_end0
  exact ⟨rfl,_,by rw [EQB.out];exact HB5.out,hb5⟩
end Go.Proofs.YtkjhapbjdjcipaaGreatDoor

namespace Go.Proofs.YtkjhapbjdjcipaaGreatDoor
open Go.ChangeShapes Go.WideShapes Go.ChangeAt Go.RowKit Go.Sort

end Go.Proofs.YtkjhapbjdjcipaaGreatDoor

namespace Go.Proofs.YtkjhapbjdjcipaaGreatDoor
open Go.ChangeShapes Go.WideShapes Go.ChangeAt Go.RowKit Go.Sort

/-- a game is stored into a box that is made behind its rows -/
theorem GBox.made {w:World} {base:Nat} {x:Gam} {q:GaA} (hz:x.Z q base w) (ho:x.Off q) (hb:base≤w.heap.size) :
  GBox ((w.alloc (.cells gnil.toArray 48)).setCells w.heap.size 0 (gcells x q)) base w.heap.size x q∧Below w.heap.size w ((w.alloc (.cells gnil.toArray 48)).setCells w.heap.size 0 (gcells x q)):=by
 have V:=VarAt.new w 48 gnil
 obtain ⟨o6,k6⟩:=V.put (gcells x q) rfl
 have ha:Below w.heap.size w (w.alloc (.cells gnil.toArray 48)):=(Below.refl _ _).alloc (Nat.le_refl _) _
 have hw:=wrote_box k6 (Nat.le_trans hb ha.size) hb
 have hs:∀ t∈x.effs q,offA (some ⟨w.heap.size,0,none⟩) t:=fun t ht=>(off_of_lt (fun g hg=>(hz.lt t ht g hg).2) (fun g hg=>by cases hg;exact Nat.le_refl _)).symm
 exact ⟨⟨o6,(hz.kept ha).wrote hw (fun s h t ht=>by rw [List.mem_singleton.1 h];exact hs t ht),ho,hb,hs⟩,ha.grown k6 ha.size (fun k h=>by cases h;exact Nat.le_refl _)⟩
end Go.Proofs.YtkjhapbjdjcipaaGreatDoor
