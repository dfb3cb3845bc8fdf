/- Contracts: the reference's test of games. No condition but that lengths fit an int. -/
import Derived.Test.YtalnbgcdhcnjfaaGreatDoorGmS
import Derived.Test.YtalnbgcdhcnjfaaGreatDoorGmM
import Derived.Test.YtalnbgcdhcnjfaaGreatDoorGmE
set_option maxRecDepth 100000
set_option maxHeartbeats 4000000
namespace Go.Proofs.YtalnbgcdhcnjfaaGreatDoor
open Go.ChangeShapes Go.WideShapes Go.ChangeAt Go.RowKit Go.Sort

/-- the cells of a game -/
def gcells (x:Gam) (p:GaA):List Value:=[.string x.setup.tiles.letters,.slice p.setup.tiles.values.a x.setup.tiles.values.length p.setup.tiles.values.c,.slice p.setup.tiles.counts.a x.setup.tiles.counts.length p.setup.tiles.counts.c,.int .i64 x.setup.tiles.blanks,.slice p.setup.lexicon.a x.setup.lexicon.length p.setup.lexicon.c,.int .i64 x.setup.board.size,.string x.setup.board.premium,.string x.setup.board.cells,.int .i64 x.setup.seconds,.int .i64 x.setup.rule,.int .i64 x.board.size,.string x.board.premium,.string x.board.cells,.string x.bag,.slice p.racks.a x.racks.length p.racks.c,.slice p.scores.a x.scores.length p.scores.c,.slice p.clocks.a x.clocks.length p.clocks.c,.int .i64 x.player,.int .i64 x.zeros,.int .i64 x.last.kind,.int .i64 x.last.player,.int .i64 x.last.play.row,.int .i64 x.last.play.col,.bool x.last.play.down,.string x.last.play.word,.string x.last.before,.string x.last.drawn,.int .i64 x.last.score,.int .i64 x.last.zeros,.bool x.over]
/-- a game lies in a block -/
structure GAt (w:World) (g:Nat) (x:Gam) (p:GaA):Prop where
 cells:w.rangeAt g 0 (gcells x p)
 at_:x.At p w
theorem GAt.cell {w:World} {g:Nat} {x:Gam} {p:GaA} (h:GAt w g x p) {i:Nat} {v:Value} (hi:(gcells x p)[i]?=some v):w.cell? ⟨g,i,none⟩=some v:=by
 have:=h.cells i v hi
 rwa [Nat.zero_add] at this
theorem GAt.kept {w w':World} {g:Nat} {x:Gam} {p:GaA} (h:GAt w g x p) (hb:Below w.heap.size w w'):GAt w' g x p :=
 ⟨fun j v hv=>cell_kept (h.cells j v hv) hb,Gam.At.kept h.at_ hb⟩
theorem GAt.lt {w:World} {g:Nat} {x:Gam} {p:GaA} (h:GAt w g x p):g < w.heap.size:=block_lt (h.cell (i:=0) rfl)
theorem GAt.new (w:World) (x:Gam) (p:GaA) (t:TypeId) (h:x.At p w):GAt (w.alloc (.cells (gcells x p).toArray t)) w.heap.size x p :=
 ⟨(VarAt.new w t (gcells x p)).range,Gam.At.kept h ((Below.refl _ _).alloc (Nat.le_refl _) _)⟩
theorem GAt.tiles {w:World} {g:Nat} {x:Gam} {p:GaA} (h:GAt w g x p):TAt w g x.setup.tiles p.setup.tiles :=
 ⟨⟨h.cell (i:=0) rfl,h.cell (i:=1) rfl,h.cell (i:=2) rfl,h.cell (i:=3) rfl⟩,h.at_.1.1⟩
theorem GAt.setup {w:World} {g:Nat} {x:Gam} {p:GaA} (h:GAt w g x p):SAt w g x.setup p.setup :=
 ⟨h.tiles,h.cell (i:=4) rfl,h.at_.1.2,⟨h.cell (i:=5) rfl,h.cell (i:=6) rfl,h.cell (i:=7) rfl⟩,h.cell (i:=8) rfl,h.cell (i:=9) rfl⟩
theorem GAt.board {w:World} {g:Nat} {x:Gam} {p:GaA} (h:GAt w g x p):BAt w g 10 x.board :=
 ⟨h.cell (i:=10) rfl,h.cell (i:=11) rfl,h.cell (i:=12) rfl⟩
theorem set_cell_ne {w:World} {x k g o:Nat} {v u:Value} (hne:g≠x) (h:w.cell? ⟨g,o,none⟩=some v):(w.setCell ⟨x,k,none⟩ u).cell? ⟨g,o,none⟩=some v:=by
 rw [World.cell?_setCell_other _ _ _ _ (fun e=>hne (by cases e;rfl)),h]
theorem l18Board_any (x:Gam) (p:GaA) (g:Nat) (s:ByteArray) (w:World) (hg:GAt w g x p) :
  Calls Tryz.prog 91 #[.pointer (some ⟨g,0,none⟩),.string s] w fun e w'=>e=.returned (.agg #[.int .i64 x.board.size,.string x.board.premium,.string s])∧Below w.heap.size w w':=by
 have hlt:=hg.lt
 have hb:Below w.heap.size w (w.alloc (.cells #[.int .i64 0,.string ⟨#[]⟩,.string ⟨#[]⟩] 44)):=(Below.refl _ _).alloc (Nat.le_refl _) _
 have VR:=Lh (VarAt.new w 44 [.int .i64 0,.string ⟨#[]⟩,.string ⟨#[]⟩])
 have HG:=Lh (hg.kept hb)
 clear hg
 go_enter Tryz.func91,Tryz.ntmps91
 go_upto_region 1 with fail
 generalize w.alloc (.cells #[.int .i64 0,.string ⟨#[]⟩,.string ⟨#[]⟩] 44)=w1 at *
 have hd:Below w1.heap.size w1 w1.drew:=(Below.refl _ _).drew
 replace hb:=hb.trans (hd.mono hb.size)
 replace HG:=Lh (HG.out.kept hd)
 replace VR:=Lh (VR.out.kept hd)
 clear hd
 have c10:=HG.out.cell (i:=10) rfl
 have c11:=HG.out.cell (i:=11) rfl
 have t0:=VR.out.cell (i:=0) rfl
 have t1:=VR.out.cell (i:=1) rfl
 have t2:=VR.out.cell (i:=2) rfl
 have u0:=VR.out.free 0
 have u1:=VR.out.free 1
 have u2:=VR.out.free 2
 refine wp_region_still_tail 12 (by kernel_rfl) (by kernel_rfl) ?_
 simp only [List.take_succ_cons,List.take_zero,List.drop_succ_cons,List.drop_zero]
 change wpStill _ _ w1.drew (fun a'=>wpList _ _ _ _ a' w1.drew) _ _
 generalize w1.drew=wd at *
 repeat still_step
 refine wpStill_nil ?_
 obtain ⟨o0,k0⟩:=VR.out.set 0 (.int .i64 x.board.size)
 obtain ⟨o1,k1⟩:=o0.set 1 (.string x.board.premium)
 obtain ⟨o2,k2⟩:=o1.set 2 (.string s)
 have GG:=grownBy_trans (grownBy_trans k0 k1) k2
 have hb9:=hb.grown GG hb.size (fun q h=>by cases h;exact Nat.le_refl _)
 have e0:=o2.cell (i:=0) (v:=.int .i64 x.board.size) rfl
 have e1:=o2.cell (i:=1) (v:=.string x.board.premium) rfl
 have e2:=o2.cell (i:=2) (v:=.string s) rfl
 clear o0 o1 o2 k0 k1 k2 GG
 go_wp2
 refine bodyPost_ret (v:=.agg #[.int .i64 x.board.size,.string x.board.premium,.string s]) (by simp [results,Tryz.results91,go_sem,e0,e1,e2]) rfl ?_
 exact ⟨rfl,hb9⟩
theorem empty_eq (s:ByteArray):(s.toList == (⟨#[]⟩:ByteArray).toList)=decide (s.size=0):=by
 have e0:(⟨#[]⟩:ByteArray).toList=[]:=by rw [ByteArray.toList_eq]
 rw [← empty_cmp,e0]
 cases h:s.toList with
 | nil=>rfl
 | cons a l=>rfl
theorem bare_eq (l:Lst):bareB l.play.row l.play.col l.play.down l.play.word l.before l.drawn l.score l.zeros=l.bare:=by
 unfold bareB Lst.bare
 simp only [empty_eq]
 rw [Bool.eq_iff_iff]
 simp [and_assoc]
theorem l18LastOk_any (x:Gam) (p:GaA) (g:Nat) (w:World) (hg:GAt w g x p) (HPO:Hid (∀ W,GAt W g x p→Calls Tryz.prog 65 #[.pointer (some ⟨g,0,none⟩)] W fun e w'=>e=.returned (.bool x.playOk)∧Below W.heap.size W w')) :
  Calls Tryz.prog 33 #[.pointer (some ⟨g,0,none⟩)] w fun e w'=>e=.returned (.bool x.lastOk)∧Below w.heap.size w w':=by
 have hlt:=hg.lt
 have HG:=Lh hg
 have HG0:=HG
 have hb:Below w.heap.size w w:=Below.refl _ _
 clear hg
 have HLO:Hid (x.lastOk=if x.last.kind=0 then x.last.bare && decide (x.last.player=0) else if x.last.kind=2 then x.last.bare && withinB x.last.player 0 1 else if x.last.kind=3 then x.last.bare && withinB x.last.player 0 1 else if x.last.kind=1 then x.playOk else false):=Lh rfl
 generalize x.lastOk=ans at *
 go_enter Tryz.func33,Tryz.ntmps33
 go_upto_region 2 with fail
 have hd:Below w.heap.size w w.drew:=(Below.refl _ _).drew
 replace hb:=hb.trans (hd.mono hb.size)
 replace HG:=Lh (HG.out.kept hd)
 clear hd
 have c19:=HG.out.cell (i:=19) rfl
 have c20:=HG.out.cell (i:=20) rfl
 go_region_held3 (fun w'=>w'.cell? ⟨g,19,none⟩=some (.int .i64 x.last.kind)∧w'.cell? ⟨g,20,none⟩=some (.int .i64 x.last.player))
  (first | exact ⟨c19,c20⟩ | exact ⟨cell_alloc c19 _,cell_alloc c20 _⟩ | (refine ⟨?_,?_⟩<;>(repeat (refine set_cell_ne (by omega) ?_))<;>(first | exact c19 | exact c20 | exact cell_alloc c19 _ | exact cell_alloc c20 _)))
  (fail)
 clear c19 c20
 have V0:=VarAt.new w 49 [.int .i64 x.last.kind,.int .i64 x.last.player,.int .i64 0,.int .i64 0,.bool false,.string ⟨#[]⟩,.string ⟨#[]⟩,.string ⟨#[]⟩,.int .i64 0,.int .i64 0]
 have hd0:Below w.heap.size w (w.alloc (.cells #[.int .i64 x.last.kind,.int .i64 x.last.player,.int .i64 0,.int .i64 0,.bool false,.string ⟨#[]⟩,.string ⟨#[]⟩,.string ⟨#[]⟩,.int .i64 0,.int .i64 0] 49)).drew:=((Below.refl _ _).alloc (Nat.le_refl _) _).drew
 have VL:=Lh (V0.kept (Below.refl _ _).drew)
 replace HG:=Lh (HG0.out.kept hd0)
 replace hb:=hd0
 clear V0 hd0 HG0
 generalize (w.alloc (.cells #[.int .i64 x.last.kind,.int .i64 x.last.player,.int .i64 0,.int .i64 0,.bool false,.string ⟨#[]⟩,.string ⟨#[]⟩,.string ⟨#[]⟩,.int .i64 0,.int .i64 0] 49)).drew=w2 at *
 have hgq:Tryz.prog.eqGuardType Tryz.prog.depth 49=false:=by kernel_rfl
 have HBV:Hid (∀ k W,(binOp .eql 49 (.agg #[.int .i64 k,.int .i64 x.last.player,.int .i64 x.last.play.row,.int .i64 x.last.play.col,.bool x.last.play.down,.string x.last.play.word,.string x.last.before,.string x.last.drawn,.int .i64 x.last.score,.int .i64 x.last.zeros]) (.agg #[.int .i64 k,.int .i64 x.last.player,.int .i64 0,.int .i64 0,.bool false,.string ⟨#[]⟩,.string ⟨#[]⟩,.string ⟨#[]⟩,.int .i64 0,.int .i64 0])).run Tryz.prog W=.ok (.bool x.last.bare) W):=Lh (fun k W=>by
  rw [eql_last,bare_eq,beq_self_eq_true,beq_self_eq_true,Bool.true_and,Bool.true_and])
 generalize x.last.bare=bv at *
 have c19:=HG.out.cell (i:=19) rfl
 have d0:=VL.out.cell (i:=0) rfl
 by_cases h0:x.last.kind=0
 ·have hkn:=h0
  have HN:Hid (ans=(bv && decide (x.last.player=0))):=Lh (by rw [HLO.out,if_pos h0])
  rw [h0] at c19 d0
  go_upto_region 5 with fail
  clear c19 d0
  have c19:=HG.out.cell (i:=19) rfl
  have c20:=HG.out.cell (i:=20) rfl
  have c21:=HG.out.cell (i:=21) rfl
  have c22:=HG.out.cell (i:=22) rfl
  have c23:=HG.out.cell (i:=23) rfl
  have c24:=HG.out.cell (i:=24) rfl
  have c25:=HG.out.cell (i:=25) rfl
  have c26:=HG.out.cell (i:=26) rfl
  have c27:=HG.out.cell (i:=27) rfl
  have c28:=HG.out.cell (i:=28) rfl
  have d0:=VL.out.cell (i:=0) rfl
  have d1:=VL.out.cell (i:=1) rfl
  have d2:=VL.out.cell (i:=2) rfl
  have d3:=VL.out.cell (i:=3) rfl
  have d4:=VL.out.cell (i:=4) rfl
  have d5:=VL.out.cell (i:=5) rfl
  have d6:=VL.out.cell (i:=6) rfl
  have d7:=VL.out.cell (i:=7) rfl
  have d8:=VL.out.cell (i:=8) rfl
  have d9:=VL.out.cell (i:=9) rfl
  (try rw [hkn] at c19 d0)
  have hq:=HBV.out 0
  cases bv with
  | false =>
   go_quiet (fail)
   go_wp2
   go_ret
   exact ⟨ret_bool (by rw [HN.out];rfl),hb.trans (((Drew.refl _).drewN _).below _ |>.mono hb.size)⟩
  | true =>
   cases hpl:(x.last.player == 0) with
   | _ =>
    go_quiet (fail)
    go_wp2
    go_ret
    exact ⟨ret_bool (by rw [HN.out];simpa using hpl),hb.trans (((Drew.refl _).drewN _).below _ |>.mono hb.size)⟩
 ·by_cases h2:x.last.kind=2∨x.last.kind=3
  ·have HN:Hid (ans=(bv && withinB x.last.player 0 1)):=Lh (by
    rw [HLO.out,if_neg h0]
    rcases h2 with h2 | h2
    ·rw [if_pos h2]
    ·rw [if_neg (by omega),if_pos h2])
   have hkn:x.last.kind=x.last.kind:=rfl
   rcases h2 with h2 | h2
   all_goals
    have hkn:=h2
    rw [h2] at c19 d0
    go_upto_region 8 with fail
    clear c19 d0
    have c19:=HG.out.cell (i:=19) rfl
    have c20:=HG.out.cell (i:=20) rfl
    have c21:=HG.out.cell (i:=21) rfl
    have c22:=HG.out.cell (i:=22) rfl
    have c23:=HG.out.cell (i:=23) rfl
    have c24:=HG.out.cell (i:=24) rfl
    have c25:=HG.out.cell (i:=25) rfl
    have c26:=HG.out.cell (i:=26) rfl
    have c27:=HG.out.cell (i:=27) rfl
    have c28:=HG.out.cell (i:=28) rfl
    have d0:=VL.out.cell (i:=0) rfl
    have d1:=VL.out.cell (i:=1) rfl
    have d2:=VL.out.cell (i:=2) rfl
    have d3:=VL.out.cell (i:=3) rfl
    have d4:=VL.out.cell (i:=4) rfl
    have d5:=VL.out.cell (i:=5) rfl
    have d6:=VL.out.cell (i:=6) rfl
    have d7:=VL.out.cell (i:=7) rfl
    have d8:=VL.out.cell (i:=8) rfl
    have d9:=VL.out.cell (i:=9) rfl
    (try rw [hkn] at c19 d0)
    have hq:=HBV.out x.last.kind
    rw [h2] at hq
    cases bv with
    | false =>
     go_quiet (fail)
     go_wp2
     go_ret
     exact ⟨ret_bool (by rw [HN.out];rfl),hb.trans (((Drew.refl _).drewN _).below _ |>.mono hb.size)⟩
    | true =>
     have HI:Hid (∀ W,Calls Tryz.prog 27 #[.int .i64 x.last.player,.int .i64 0,.int .i64 1] W fun e w'=>e=.returned (.bool (withinB x.last.player 0 1))∧W=w'):=Lh (fun W=>l00In_any _ _ _ W)
     generalize withinB x.last.player 0 1=iv at *
     go_quiet (first | (go_at_call 27;with_reducible exact quiet_of_eq (HI.out _)))
     go_wp2
     go_ret
     exact ⟨ret_bool (by rw [HN.out];rfl),hb.trans (((Drew.refl _).drewN _).below _ |>.mono hb.size)⟩
  ·by_cases h1:x.last.kind=1
   ·have HN:Hid (ans=x.playOk):=Lh (by rw [HLO.out,if_neg h0,if_neg (by omega),if_neg (by omega),if_pos h1])
    rw [h1] at c19
    clear d0
    go_wp2_with fail
    refine (HPO.out _ HG.out).mono ?_
    rintro e w3 ⟨rfl,hd⟩
    replace hb:=hb.trans (hd.mono hb.size)
    clear hd c19
    go_wp2
    go_ret
    exact ⟨ret_bool HN.out.symm,hb⟩
   ·have HN:Hid (ans=false):=Lh (by rw [HLO.out,if_neg h0,if_neg (by omega),if_neg (by omega),if_neg h1])
    have k2:¬ x.last.kind=2:=by omega
    have k3:¬ x.last.kind=3:=by omega
    go_wp2
    go_ret
    exact ⟨ret_bool HN.out.symm,hb⟩
theorem size_game (x:Gam) (p:GaA):(Tryz.prog.info? 51).map (·.size)=some (gcells x p).length:=by kernel_rfl
def scells (s:Stp) (q:StA):List Value:=[.string s.tiles.letters,.slice q.tiles.values.a s.tiles.values.length q.tiles.values.c,.slice q.tiles.counts.a s.tiles.counts.length q.tiles.counts.c,.int .i64 s.tiles.blanks,.slice q.lexicon.a s.lexicon.length q.lexicon.c,.int .i64 s.board.size,.string s.board.premium,.string s.board.cells,.int .i64 s.seconds,.int .i64 s.rule]
def szero:List Value:=[.string ⟨#[]⟩,.slice none 0 0,.slice none 0 0,.int .i64 0,.slice none 0 0,.int .i64 0,.string ⟨#[]⟩,.string ⟨#[]⟩,.int .i64 0,.int .i64 0]
theorem size_setup (s:Stp) (q:StA):(Tryz.prog.info? 46).map (·.size)=some (scells s q).length:=by kernel_rfl
theorem scells_one (s:Stp) (q:StA):∀ v∈scells s q,v.oneCell'=true:=by
 intro v hv
 simp only [scells,List.mem_cons,List.not_mem_nil,or_false] at hv
 rcases hv with rfl | rfl | rfl | rfl | rfl | rfl | rfl | rfl | rfl | rfl<;>rfl
theorem GAt.scells {w:World} {g:Nat} {x:Gam} {p:GaA} (h:GAt w g x p):w.rangeAt g 0 (scells x.setup p.setup):=fun j v hv=>h.cells j v (by
 have hj:j < (Go.Proofs.YtalnbgcdhcnjfaaGreatDoor.scells x.setup p.setup).length:=(List.getElem?_eq_some_iff.1 hv).1
 have e:gcells x p=Go.Proofs.YtalnbgcdhcnjfaaGreatDoor.scells x.setup p.setup++(gcells x p).drop 10:=rfl
 rw [e,List.getElem?_append_left hj]
 exact hv)
end Go.Proofs.YtalnbgcdhcnjfaaGreatDoor
