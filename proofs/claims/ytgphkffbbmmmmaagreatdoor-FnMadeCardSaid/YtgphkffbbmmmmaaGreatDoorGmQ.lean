/- Contracts: the reference's test of games. No condition but that lengths fit an int. · Contracts: the reference's test of the last play of a game, and of games. No condition but -/
import Derived.Test.YtgphkffbbmmmmaaGreatDoorGmM
set_option maxRecDepth 100000
set_option maxHeartbeats 4000000
namespace Go.Proofs.YtgphkffbbmmmmaaGreatDoor
open Go.ChangeShapes Go.WideShapes Go.ChangeAt Go.RowKit Go.Sort

/-- the cells of a game -/
def gcells (x:Gam) (p:GaA):List Value:=[.string x.setup.tiles.letters,.slice p.setup.tiles.values.a x.setup.tiles.values.length p.setup.tiles.values.c,.slice p.setup.tiles.counts.a x.setup.tiles.counts.length p.setup.tiles.counts.c,.int .i64 x.setup.tiles.blanks,.slice p.setup.lexicon.a x.setup.lexicon.length p.setup.lexicon.c,.int .i64 x.setup.board.size,.string x.setup.board.premium,.string x.setup.board.cells,.int .i64 x.setup.seconds,.int .i64 x.setup.rule,.int .i64 x.board.size,.string x.board.premium,.string x.board.cells,.string x.bag,.slice p.racks.a x.racks.length p.racks.c,.slice p.scores.a x.scores.length p.scores.c,.slice p.clocks.a x.clocks.length p.clocks.c,.int .i64 x.player,.int .i64 x.zeros,.int .i64 x.last.kind,.int .i64 x.last.player,.int .i64 x.last.play.row,.int .i64 x.last.play.col,.bool x.last.play.down,.string x.last.play.word,.string x.last.before,.string x.last.drawn,.int .i64 x.last.score,.int .i64 x.last.zeros,.bool x.over]
/-- a game lies in a block -/
structure GAt (w:World) (g:Nat) (x:Gam) (p:GaA):Prop where
 cells:w.rangeAt g 0 (gcells x p)
 at_:x.At p w
theorem GAt.cell {w:World} {g:Nat} {x:Gam} {p:GaA} (h:GAt w g x p) {i:Nat} {v:Value} (hi:(gcells x p)[i]?=some v):w.cell? ⟨g,i,none⟩=some v:=by
 have:=h.cells i v hi
 rwa [Nat.zero_add] at this
theorem GAt.kept {w w':World} {g:Nat} {x:Gam} {p:GaA} (h:GAt w g x p) (hb:Below w.heap.size w w'):GAt w' g x p :=
 ⟨fun j v hv=>cell_kept (h.cells j v hv) hb,Gam.At.kept h.at_ hb⟩
theorem GAt.lt {w:World} {g:Nat} {x:Gam} {p:GaA} (h:GAt w g x p):g < w.heap.size:=block_lt (h.cell (i:=0) rfl)
theorem GAt.new (w:World) (x:Gam) (p:GaA) (t:TypeId) (h:x.At p w):GAt (w.alloc (.cells (gcells x p).toArray t)) w.heap.size x p :=
 ⟨(VarAt.new w t (gcells x p)).range,Gam.At.kept h ((Below.refl _ _).alloc (Nat.le_refl _) _)⟩
theorem GAt.tiles {w:World} {g:Nat} {x:Gam} {p:GaA} (h:GAt w g x p):TAt w g x.setup.tiles p.setup.tiles :=
 ⟨⟨h.cell (i:=0) rfl,h.cell (i:=1) rfl,h.cell (i:=2) rfl,h.cell (i:=3) rfl⟩,h.at_.1.1⟩
theorem GAt.setup {w:World} {g:Nat} {x:Gam} {p:GaA} (h:GAt w g x p):SAt w g x.setup p.setup :=
 ⟨h.tiles,h.cell (i:=4) rfl,h.at_.1.2,⟨h.cell (i:=5) rfl,h.cell (i:=6) rfl,h.cell (i:=7) rfl⟩,h.cell (i:=8) rfl,h.cell (i:=9) rfl⟩
theorem GAt.board {w:World} {g:Nat} {x:Gam} {p:GaA} (h:GAt w g x p):BAt w g 10 x.board :=
 ⟨h.cell (i:=10) rfl,h.cell (i:=11) rfl,h.cell (i:=12) rfl⟩
theorem set_cell_ne {w:World} {x k g o:Nat} {v u:Value} (hne:g≠x) (h:w.cell? ⟨g,o,none⟩=some v):(w.setCell ⟨x,k,none⟩ u).cell? ⟨g,o,none⟩=some v:=by
 rw [World.cell?_setCell_other _ _ _ _ (fun e=>hne (by cases e;rfl)),h]
theorem l18Board_any (x:Gam) (p:GaA) (g:Nat) (s:ByteArray) (w:World) (hg:GAt w g x p) :
  Calls Tryz.prog 168 #[.pointer (some ⟨g,0,none⟩),.string s] w fun e w'=>e=.returned (.agg #[.int .i64 x.board.size,.string x.board.premium,.string s])∧Below w.heap.size w w':=by
 have hlt:=hg.lt
 have hb:Below w.heap.size w (w.alloc (.cells #[.int .i64 0,.string ⟨#[]⟩,.string ⟨#[]⟩] 29)):=(Below.refl _ _).alloc (Nat.le_refl _) _
 have VR:=Lh (VarAt.new w 29 [.int .i64 0,.string ⟨#[]⟩,.string ⟨#[]⟩])
 have HG:=Lh (hg.kept hb)
 clear hg
 go_enter Tryz.func168,Tryz.ntmps168
 go_upto_region 1 with fail
 generalize w.alloc (.cells #[.int .i64 0,.string ⟨#[]⟩,.string ⟨#[]⟩] 29)=w1 at *
 have hd:Below w1.heap.size w1 w1.drew:=(Below.refl _ _).drew
 replace hb:=hb.trans (hd.mono hb.size)
 replace HG:=Lh (HG.out.kept hd)
 replace VR:=Lh (VR.out.kept hd)
 clear hd
 have c10:=HG.out.cell (i:=10) rfl
 have c11:=HG.out.cell (i:=11) rfl
 have t0:=VR.out.cell (i:=0) rfl
 have t1:=VR.out.cell (i:=1) rfl
 have t2:=VR.out.cell (i:=2) rfl
 have u0:=VR.out.free 0
 have u1:=VR.out.free 1
 have u2:=VR.out.free 2
 refine wp_region_still_tail 12 (by kernel_rfl) (by kernel_rfl) ?_
 simp only [List.take_succ_cons,List.take_zero,List.drop_succ_cons,List.drop_zero]
 change wpStill _ _ w1.drew (fun a'=>wpList _ _ _ _ a' w1.drew) _ _
 generalize w1.drew=wd at *
 repeat still_step
 refine wpStill_nil ?_
 obtain ⟨o0,k0⟩:=VR.out.set 0 (.int .i64 x.board.size)
 obtain ⟨o1,k1⟩:=o0.set 1 (.string x.board.premium)
 obtain ⟨o2,k2⟩:=o1.set 2 (.string s)
 have GG:=grownBy_trans (grownBy_trans k0 k1) k2
 have hb9:=hb.grown GG hb.size (fun q h=>by cases h;exact Nat.le_refl _)
 have e0:=o2.cell (i:=0) (v:=.int .i64 x.board.size) rfl
 have e1:=o2.cell (i:=1) (v:=.string x.board.premium) rfl
 have e2:=o2.cell (i:=2) (v:=.string s) rfl
 clear o0 o1 o2 k0 k1 k2 GG
 go_wp2
 refine bodyPost_ret (v:=.agg #[.int .i64 x.board.size,.string x.board.premium,.string s]) (by simp [results,Tryz.results168,go_sem,e0,e1,e2]) rfl ?_
 exact ⟨rfl,hb9⟩
theorem empty_eq (s:ByteArray):(s.toList == (⟨#[]⟩:ByteArray).toList)=decide (s.size=0):=by
 have e0:(⟨#[]⟩:ByteArray).toList=[]:=by rw [ByteArray.toList_eq]
 rw [← empty_cmp,e0]
 cases h:s.toList with
 | nil=>rfl
 | cons a l=>rfl
theorem bare_eq (l:Lst):bareB l.play.row l.play.col l.play.down l.play.word l.before l.drawn l.score l.zeros=l.bare:=by
 unfold bareB Lst.bare
 simp only [empty_eq]
 rw [Bool.eq_iff_iff]
 simp [and_assoc]
theorem l18LastOk_any (x:Gam) (p:GaA) (g:Nat) (w:World) (hg:GAt w g x p) (HPO:Hid (∀ W,GAt W g x p→Calls Tryz.prog 134 #[.pointer (some ⟨g,0,none⟩)] W fun e w'=>e=.returned (.bool x.playOk)∧Below W.heap.size W w')) :
  Calls Tryz.prog 94 #[.pointer (some ⟨g,0,none⟩)] w fun e w'=>e=.returned (.bool x.lastOk)∧Below w.heap.size w w':=by
 have hlt:=hg.lt
 have HG:=Lh hg
 have HG0:=HG
 have hb:Below w.heap.size w w:=Below.refl _ _
 clear hg
 have HLO:Hid (x.lastOk=if x.last.kind=0 then x.last.bare && decide (x.last.player=0) else if x.last.kind=2 then x.last.bare && withinB x.last.player 0 1 else if x.last.kind=3 then x.last.bare && withinB x.last.player 0 1 else if x.last.kind=1 then x.playOk else false):=Lh rfl
 generalize x.lastOk=ans at *
 go_enter Tryz.func94,Tryz.ntmps94
 go_upto_region 2 with fail
 have hd:Below w.heap.size w w.drew:=(Below.refl _ _).drew
 replace hb:=hb.trans (hd.mono hb.size)
 replace HG:=Lh (HG.out.kept hd)
 clear hd
 have c19:=HG.out.cell (i:=19) rfl
 have c20:=HG.out.cell (i:=20) rfl
 go_region_held3 (fun w'=>w'.cell? ⟨g,19,none⟩=some (.int .i64 x.last.kind)∧w'.cell? ⟨g,20,none⟩=some (.int .i64 x.last.player))
  (first | exact ⟨c19,c20⟩ | exact ⟨cell_alloc c19 _,cell_alloc c20 _⟩ | (refine ⟨?_,?_⟩<;>(repeat (refine set_cell_ne (by omega) ?_))<;>(first | exact c19 | exact c20 | exact cell_alloc c19 _ | exact cell_alloc c20 _)))
  (fail)
 clear c19 c20
 have V0:=VarAt.new w 35 [.int .i64 x.last.kind,.int .i64 x.last.player,.int .i64 0,.int .i64 0,.bool false,.string ⟨#[]⟩,.string ⟨#[]⟩,.string ⟨#[]⟩,.int .i64 0,.int .i64 0]
 have hd0:Below w.heap.size w (w.alloc (.cells #[.int .i64 x.last.kind,.int .i64 x.last.player,.int .i64 0,.int .i64 0,.bool false,.string ⟨#[]⟩,.string ⟨#[]⟩,.string ⟨#[]⟩,.int .i64 0,.int .i64 0] 35)).drew:=((Below.refl _ _).alloc (Nat.le_refl _) _).drew
 have VL:=Lh (V0.kept (Below.refl _ _).drew)
 replace HG:=Lh (HG0.out.kept hd0)
 replace hb:=hd0
 clear V0 hd0 HG0
 generalize (w.alloc (.cells #[.int .i64 x.last.kind,.int .i64 x.last.player,.int .i64 0,.int .i64 0,.bool false,.string ⟨#[]⟩,.string ⟨#[]⟩,.string ⟨#[]⟩,.int .i64 0,.int .i64 0] 35)).drew=w2 at *
 have hgq:Tryz.prog.eqGuardType Tryz.prog.depth 35=false:=by kernel_rfl
 have HBV:Hid (∀ k W,(binOp .eql 35 (.agg #[.int .i64 k,.int .i64 x.last.player,.int .i64 x.last.play.row,.int .i64 x.last.play.col,.bool x.last.play.down,.string x.last.play.word,.string x.last.before,.string x.last.drawn,.int .i64 x.last.score,.int .i64 x.last.zeros]) (.agg #[.int .i64 k,.int .i64 x.last.player,.int .i64 0,.int .i64 0,.bool false,.string ⟨#[]⟩,.string ⟨#[]⟩,.string ⟨#[]⟩,.int .i64 0,.int .i64 0])).run Tryz.prog W=.ok (.bool x.last.bare) W):=Lh (fun k W=>by
  rw [eql_last,bare_eq,beq_self_eq_true,beq_self_eq_true,Bool.true_and,Bool.true_and])
 generalize x.last.bare=bv at *
 have c19:=HG.out.cell (i:=19) rfl
 have d0:=VL.out.cell (i:=0) rfl
 by_cases h0:x.last.kind=0
 ·have hkn:=h0
  have HN:Hid (ans=(bv && decide (x.last.player=0))):=Lh (by rw [HLO.out,if_pos h0])
  rw [h0] at c19 d0
  go_upto_region 5 with fail
  clear c19 d0
  have c19:=HG.out.cell (i:=19) rfl
  have c20:=HG.out.cell (i:=20) rfl
  have c21:=HG.out.cell (i:=21) rfl
  have c22:=HG.out.cell (i:=22) rfl
  have c23:=HG.out.cell (i:=23) rfl
  have c24:=HG.out.cell (i:=24) rfl
  have c25:=HG.out.cell (i:=25) rfl
  have c26:=HG.out.cell (i:=26) rfl
  have c27:=HG.out.cell (i:=27) rfl
  have c28:=HG.out.cell (i:=28) rfl
  have d0:=VL.out.cell (i:=0) rfl
  have d1:=VL.out.cell (i:=1) rfl
  have d2:=VL.out.cell (i:=2) rfl
  have d3:=VL.out.cell (i:=3) rfl
  have d4:=VL.out.cell (i:=4) rfl
  have d5:=VL.out.cell (i:=5) rfl
  have d6:=VL.out.cell (i:=6) rfl
  have d7:=VL.out.cell (i:=7) rfl
  have d8:=VL.out.cell (i:=8) rfl
  have d9:=VL.out.cell (i:=9) rfl
  (try rw [hkn] at c19 d0)
  have hq:=HBV.out 0
  cases bv with
  | false =>
   go_quiet (fail)
   go_wp2
   go_ret
   exact ⟨ret_bool (by rw [HN.out];rfl),hb.trans (((Drew.refl _).drewN _).below _ |>.mono hb.size)⟩
  | true =>
   cases hpl:(x.last.player == 0) with
   | _ =>
    go_quiet (fail)
    go_wp2
    go_ret
    exact ⟨ret_bool (by rw [HN.out];simpa using hpl),hb.trans (((Drew.refl _).drewN _).below _ |>.mono hb.size)⟩
 ·by_cases h2:x.last.kind=2∨x.last.kind=3
  ·have HN:Hid (ans=(bv && withinB x.last.player 0 1)):=Lh (by
    rw [HLO.out,if_neg h0]
    rcases h2 with h2 | h2
    ·rw [if_pos h2]
    ·rw [if_neg (by omega),if_pos h2])
   have hkn:x.last.kind=x.last.kind:=rfl
   rcases h2 with h2 | h2
   all_goals
    have hkn:=h2
    rw [h2] at c19 d0
    go_upto_region 8 with fail
    clear c19 d0
    have c19:=HG.out.cell (i:=19) rfl
    have c20:=HG.out.cell (i:=20) rfl
    have c21:=HG.out.cell (i:=21) rfl
    have c22:=HG.out.cell (i:=22) rfl
    have c23:=HG.out.cell (i:=23) rfl
    have c24:=HG.out.cell (i:=24) rfl
    have c25:=HG.out.cell (i:=25) rfl
    have c26:=HG.out.cell (i:=26) rfl
    have c27:=HG.out.cell (i:=27) rfl
    have c28:=HG.out.cell (i:=28) rfl
    have d0:=VL.out.cell (i:=0) rfl
    have d1:=VL.out.cell (i:=1) rfl
    have d2:=VL.out.cell (i:=2) rfl
    have d3:=VL.out.cell (i:=3) rfl
    have d4:=VL.out.cell (i:=4) rfl
    have d5:=VL.out.cell (i:=5) rfl
    have d6:=VL.out.cell (i:=6) rfl
    have d7:=VL.out.cell (i:=7) rfl
    have d8:=VL.out.cell (i:=8) rfl
    have d9:=VL.out.cell (i:=9) rfl
    (try rw [hkn] at c19 d0)
    have hq:=HBV.out x.last.kind
    rw [h2] at hq
    cases bv with
    | false =>
     go_quiet (fail)
     go_wp2
     go_ret
     exact ⟨ret_bool (by rw [HN.out];rfl),hb.trans (((Drew.refl _).drewN _).below _ |>.mono hb.size)⟩
    | true =>
     have HI:Hid (∀ W,Calls Tryz.prog 24 #[.int .i64 x.last.player,.int .i64 0,.int .i64 1] W fun e w'=>e=.returned (.bool (withinB x.last.player 0 1))∧W=w'):=Lh (fun W=>l00In_any _ _ _ W)
     generalize withinB x.last.player 0 1=iv at *
     go_quiet (first | (go_at_call 24;with_reducible exact quiet_of_eq (HI.out _)))
     go_wp2
     go_ret
     exact ⟨ret_bool (by rw [HN.out];rfl),hb.trans (((Drew.refl _).drewN _).below _ |>.mono hb.size)⟩
  ·by_cases h1:x.last.kind=1
   ·have HN:Hid (ans=x.playOk):=Lh (by rw [HLO.out,if_neg h0,if_neg (by omega),if_neg (by omega),if_pos h1])
    rw [h1] at c19
    clear d0
    go_wp2_with fail
    refine (HPO.out _ HG.out).mono ?_
    rintro e w3 ⟨rfl,hd⟩
    replace hb:=hb.trans (hd.mono hb.size)
    clear hd c19
    go_wp2
    go_ret
    exact ⟨ret_bool HN.out.symm,hb⟩
   ·have HN:Hid (ans=false):=Lh (by rw [HLO.out,if_neg h0,if_neg (by omega),if_neg (by omega),if_neg h1])
    have k2:¬ x.last.kind=2:=by omega
    have k3:¬ x.last.kind=3:=by omega
    go_wp2
    go_ret
    exact ⟨ret_bool HN.out.symm,hb⟩
theorem size_game (x:Gam) (p:GaA):(Tryz.prog.info? 37).map (·.size)=some (gcells x p).length:=by kernel_rfl
def scells (s:Stp) (q:StA):List Value:=[.string s.tiles.letters,.slice q.tiles.values.a s.tiles.values.length q.tiles.values.c,.slice q.tiles.counts.a s.tiles.counts.length q.tiles.counts.c,.int .i64 s.tiles.blanks,.slice q.lexicon.a s.lexicon.length q.lexicon.c,.int .i64 s.board.size,.string s.board.premium,.string s.board.cells,.int .i64 s.seconds,.int .i64 s.rule]
def szero:List Value:=[.string ⟨#[]⟩,.slice none 0 0,.slice none 0 0,.int .i64 0,.slice none 0 0,.int .i64 0,.string ⟨#[]⟩,.string ⟨#[]⟩,.int .i64 0,.int .i64 0]
theorem size_setup (s:Stp) (q:StA):(Tryz.prog.info? 31).map (·.size)=some (scells s q).length:=by kernel_rfl
theorem scells_one (s:Stp) (q:StA):∀ v∈scells s q,v.oneCell'=true:=by
 intro v hv
 simp only [scells,List.mem_cons,List.not_mem_nil,or_false] at hv
 rcases hv with rfl | rfl | rfl | rfl | rfl | rfl | rfl | rfl | rfl | rfl<;>rfl
theorem GAt.scells {w:World} {g:Nat} {x:Gam} {p:GaA} (h:GAt w g x p):w.rangeAt g 0 (scells x.setup p.setup):=fun j v hv=>h.cells j v (by
 have hj:j < (Go.Proofs.YtgphkffbbmmmmaaGreatDoor.scells x.setup p.setup).length:=(List.getElem?_eq_some_iff.1 hv).1
 have e:gcells x p=Go.Proofs.YtgphkffbbmmmmaaGreatDoor.scells x.setup p.setup++(gcells x p).drop 10:=rfl
 rw [e,List.getElem?_append_left hj]
 exact hv)
end Go.Proofs.YtgphkffbbmmmmaaGreatDoor
set_option maxRecDepth 100000
set_option maxHeartbeats 8000000
namespace Go.Proofs.YtgphkffbbmmmmaaGreatDoor
open Go.ChangeShapes Go.WideShapes Go.ChangeAt Go.RowKit Go.Sort

theorem toList_beq (x y:ByteArray):(x.toList == y.toList)=decide (x=y):=by
 rw [Bool.eq_iff_iff,beq_iff_eq,decide_eq_true_eq]
 constructor
 ·intro e
  exact ByteArray.ext (Array.toList_inj.1 (by rw [← ByteArray.toList_eq,← ByteArray.toList_eq];exact e))
 ·rintro rfl;rfl
theorem made_eq (x:Gam):boardEq (x.before.made x.last.play).size x.board.size (x.before.made x.last.play).premium x.board.premium (x.before.made x.last.play).cells x.board.cells=decide ((x.before.made x.last.play).cells=x.board.cells):=by
 unfold boardEq
 rw [toList_beq,toList_beq,Bool.and_true]
 show ((x.board.size == x.board.size) && (decide (x.board.premium=x.board.premium) && _))=_
 rw [beq_self_eq_true,decide_eq_true rfl,Bool.true_and,Bool.true_and]
/-- what a game must be for its last play to be looked at -/
structure Gam.Sided (x:Gam):Prop where
 tiles:x.setup.tiles.ok=true
 p0:0≤x.player
 p1:x.player≤1
 racks:x.racks.length=2
 rack:∀ k,k < 2→rackOk (x.rack k).data.toList=true
theorem play_no1 {x:Gam} (h:¬ x.last.player=1 - x.player):x.playOk=false:=by unfold Gam.playOk;rw [decide_eq_false h];rfl
theorem play_no2 {x:Gam} (h:x.before.okPlay x.last.play=false):x.playOk=false:=by unfold Gam.playOk;rw [h];simp
theorem play_no3 {x:Gam} (h:withinB x.last.zeros 0 5=false):x.playOk=false:=by unfold Gam.playOk;rw [h];simp
theorem play_no4 {x:Gam} (h:¬ x.zeros=0):x.playOk=false:=by unfold Gam.playOk;rw [decide_eq_false h];simp
theorem play_no5 {x:Gam} (h:bagOk x.last.drawn.data.toList=false):x.playOk=false:=by unfold Gam.playOk;rw [h];simp
theorem play_yes {x:Gam} (h1:x.last.player=1 - x.player) (h2:x.before.okPlay x.last.play=true) (h3:withinB x.last.zeros 0 5=true) (h4:x.zeros=0) (h5:bagOk x.last.drawn.data.toList=true) :
  x.playOk=(hasT x.mover.data.toList x.last.drawn.data.toList && (decide (x.placed≤7) && (decide (x.last.drawn.size≤x.placed) && (decide ((x.mover.size:Int) - x.last.drawn.size+x.placed≤7) && (decide ((x.before.made x.last.play).cells=x.board.cells) && (decide (x.last.score=x.before.score x.last.play x.setup.tiles) && decide (x.last.score≤20000))))))):=by
 unfold Gam.playOk
 rw [decide_eq_true h1,h2,h3,decide_eq_true h4,h5]
 simp only [Bool.true_and,Bool.and_true]
 rw [Bool.eq_iff_iff]
 simp only [Bool.and_eq_true]
 constructor
 ·rintro ⟨a,b,c,d,e,f,g⟩;exact ⟨e,b,c,d,a,f,g⟩
 ·rintro ⟨e,b,c,d,a,f,g⟩;exact ⟨a,b,c,d,e,f,g⟩
theorem below_of_eq {P:Program} {f:FuncId} {args:Array Value} {w:World} {v:Value} (h:Calls P f args w fun e w'=>e=.returned v∧w=w'):Calls P f args w fun e w'=>e=.returned v∧Below w.heap.size w w' :=
 h.mono fun _ _ ⟨a,b⟩=>⟨a,by subst b;exact Below.refl _ _⟩
theorem l18PlayOk_any (x:Gam) (p:GaA) (g:Nat) (w:World) (hg:GAt w g x p) (hf:x.fit) (hs:x.Sided) :
  Calls Tryz.prog 134 #[.pointer (some ⟨g,0,none⟩)] w fun e w'=>e=.returned (.bool x.playOk)∧Below w.heap.size w w':=by
 have hlt:=hg.lt
 obtain ⟨⟨hfs,_,_⟩,hfb,_,_,_,_,⟨hfp,hfbe,hfd⟩⟩:=hf
 have HG:=Lh hg
 have hbf:x.before.fit:=⟨hfb.1,hfbe⟩
 have HOK:Hid (∀ X W,BAt W X 0 x.before→Calls Tryz.prog 169 #[.pointer (some ⟨X,0,none⟩),.agg #[.int .i64 x.last.play.row,.int .i64 x.last.play.col,.bool x.last.play.down,.string x.last.play.word]] W fun e w'=>e=.returned (.bool (x.before.okPlay x.last.play))∧Below W.heap.size W w'):=Lh (fun X W h=>l12Ok_any x.before x.last.play X 0 W h hbf hfp)
 have HI:Hid (∀ W,Calls Tryz.prog 24 #[.int .i64 x.last.zeros,.int .i64 0,.int .i64 5] W fun e w'=>e=.returned (.bool (withinB x.last.zeros 0 5))∧Below W.heap.size W w'):=Lh (fun W=>below_of_eq (l00In_any _ _ _ W))
 have HBG:Hid (∀ W,Calls Tryz.prog 62 #[.string x.last.drawn] W fun e w'=>e=.returned (.bool (bagOk x.last.drawn.data.toList))∧Below W.heap.size W w'):=Lh (fun W=>below_of_eq (l17Ok_any _ W hfd))
 have wr1:IntKind.i64.wrap (1 - x.player)=1 - x.player:=IntWalk.i64_in _ (by have:=hs.p0;have:=hs.p1;omega)
 have HSD:=Lh hs
 have HY:=Lh (fun a b c d e=>play_yes (x:=x) a b c d e)
 have HN1:=Lh (fun a=>play_no1 (x:=x) a)
 have HN2:=Lh (fun a=>play_no2 (x:=x) a)
 have HN3:=Lh (fun a=>play_no3 (x:=x) a)
 have HN4:=Lh (fun a=>play_no4 (x:=x) a)
 have HN5:=Lh (fun a=>play_no5 (x:=x) a)
 clear hg hs hbf hfb hfbe hfp hfd hfs
 generalize hans:x.playOk=ans at *
 clear hans
 go_enter Tryz.func134,Tryz.ntmps134
 have c25:=HG.out.cell (i:=25) rfl
 go_upto_region 2 with fail
 go_wp2_with fail
 refine (l18Board_any x p g x.last.before w HG.out).mono ?_
 rintro e w1 ⟨rfl,hb⟩
 clear c25
 have HX:=Lh (BAt.new w1 x.before 29)
 have hz1:=hb.size
 have hd:Below w1.heap.size w1 (w1.alloc (.cells #[.int .i64 x.before.size,.string x.before.premium,.string x.before.cells] 29)):=(Below.refl _ _).alloc (Nat.le_refl _) _
 replace HG:=Lh (HG.out.kept (hb.trans (hd.mono hb.size)))
 replace hb:=hb.trans (hd.mono hb.size)
 clear hd
 go_upto_region 3 with fail
 change Code.wp _ _ _ _ (w1.alloc (.cells #[.int .i64 x.before.size,.string x.before.premium,.string x.before.cells] 29))
 generalize w1.alloc (.cells #[.int .i64 x.before.size,.string x.before.premium,.string x.before.cells] 29)=w2 at *
 generalize w1.heap.size=X at *
 have a17:=cell_regrown (HG.out.cell (i:=17) rfl)
 have a18:=cell_regrown (HG.out.cell (i:=18) rfl)
 have a20:=cell_regrown (HG.out.cell (i:=20) rfl)
 have a21:=cell_regrown (HG.out.cell (i:=21) rfl)
 have a22:=cell_regrown (HG.out.cell (i:=22) rfl)
 have a23:=cell_regrown (HG.out.cell (i:=23) rfl)
 have a24:=cell_regrown (HG.out.cell (i:=24) rfl)
 have a26:=cell_regrown (HG.out.cell (i:=26) rfl)
 have a28:=cell_regrown (HG.out.cell (i:=28) rfl)
 by_cases e1:x.last.player=1 - x.player
 case neg =>
  have HN:=Lh (HN1.out e1)
  have e1':(x.last.player != 1 - x.player)=true:=by rw [bne_iff_ne];exact e1
  clear e1 HY HN1 HN2 HN3 HN4 HN5
  refine wp_region_quiet_below (by kernel_rfl) (by kernel_rfl) ?_
  repeat (go_big_quiet_step ((first | (go_at_call 169;exact Calls.regrown_of (HOK.out _ _ (HX.out.kept (below_regrown _ _ _)))) | (go_at_call 24;exact Calls.regrown_of (HI.out _)) | (go_at_call 62;exact Calls.regrown_of (HBG.out _)))))
  refine wpQuiet_nil ?_
  intro wx hw'
  obtain ⟨⟨dq,oq⟩,hw''⟩:=hw'
  have hdx:=below_regrown w2 dq oq
  rw [← hw''] at hdx
  clear hw'' a17 a18 a20 a21 a22 a23 a24 a26 a28
  replace HX:=Lh (HX.out.kept hdx)
  replace HG:=Lh (HG.out.kept hdx)
  replace hb:=hb.trans (hdx.mono hb.size)
  clear hdx
  go_wp2
  go_ret
  exact ⟨ret_bool HN.out.symm,hb⟩
 case pos =>
  have HE1:=Lh e1
  have e1':(x.last.player != 1 - x.player)=false:=by rw [e1];simp
  clear e1
  cases e2:x.before.okPlay x.last.play with
  | false =>
   have HN:=Lh (HN2.out e2)
   rw [e2] at HOK
   clear e2 HY HN1 HN2 HN3 HN4 HN5
   refine wp_region_quiet_below (by kernel_rfl) (by kernel_rfl) ?_
   repeat (go_big_quiet_step ((first | (go_at_call 169;exact Calls.regrown_of (HOK.out _ _ (HX.out.kept (below_regrown _ _ _)))) | (go_at_call 24;exact Calls.regrown_of (HI.out _)) | (go_at_call 62;exact Calls.regrown_of (HBG.out _)))))
   refine wpQuiet_nil ?_
   intro wx hw'
   obtain ⟨⟨dq,oq⟩,hw''⟩:=hw'
   have hdx:=below_regrown w2 dq oq
   rw [← hw''] at hdx
   clear hw'' a17 a18 a20 a21 a22 a23 a24 a26 a28
   replace HX:=Lh (HX.out.kept hdx)
   replace HG:=Lh (HG.out.kept hdx)
   replace hb:=hb.trans (hdx.mono hb.size)
   clear hdx
   go_wp2
   go_ret
   exact ⟨ret_bool HN.out.symm,hb⟩
  | true =>
   have HE2:=Lh e2
   rw [e2] at HOK
   clear e2
   cases e3:withinB x.last.zeros 0 5 with
   | false =>
    have HN:=Lh (HN3.out e3)
    rw [e3] at HI
    clear e3 HY HN1 HN2 HN3 HN4 HN5
    refine wp_region_quiet_below (by kernel_rfl) (by kernel_rfl) ?_
    repeat (go_big_quiet_step ((first | (go_at_call 169;exact Calls.regrown_of (HOK.out _ _ (HX.out.kept (below_regrown _ _ _)))) | (go_at_call 24;exact Calls.regrown_of (HI.out _)) | (go_at_call 62;exact Calls.regrown_of (HBG.out _)))))
    refine wpQuiet_nil ?_
    intro wx hw'
    obtain ⟨⟨dq,oq⟩,hw''⟩:=hw'
    have hdx:=below_regrown w2 dq oq
    rw [← hw''] at hdx
    clear hw'' a17 a18 a20 a21 a22 a23 a24 a26 a28
    replace HX:=Lh (HX.out.kept hdx)
    replace HG:=Lh (HG.out.kept hdx)
    replace hb:=hb.trans (hdx.mono hb.size)
    clear hdx
    go_wp2
    go_ret
    exact ⟨ret_bool HN.out.symm,hb⟩
   | true =>
    have HE3:=Lh e3
    rw [e3] at HI
    clear e3
    by_cases e4:x.zeros=0
    case neg =>
     have HN:=Lh (HN4.out e4)
     have e4':(x.zeros != 0)=true:=by rw [bne_iff_ne];exact e4
     clear HY HN1 HN2 HN3 HN4 HN5
     refine wp_region_quiet_below (by kernel_rfl) (by kernel_rfl) ?_
     repeat (go_big_quiet_step ((first | (go_at_call 169;exact Calls.regrown_of (HOK.out _ _ (HX.out.kept (below_regrown _ _ _)))) | (go_at_call 24;exact Calls.regrown_of (HI.out _)) | (go_at_call 62;exact Calls.regrown_of (HBG.out _)))))
     refine wpQuiet_nil ?_
     intro wx hw'
     obtain ⟨⟨dq,oq⟩,hw''⟩:=hw'
     have hdx:=below_regrown w2 dq oq
     rw [← hw''] at hdx
     clear hw'' a17 a18 a20 a21 a22 a23 a24 a26 a28
     replace HX:=Lh (HX.out.kept hdx)
     replace HG:=Lh (HG.out.kept hdx)
     replace hb:=hb.trans (hdx.mono hb.size)
     clear hdx
     go_wp2
     go_ret
     exact ⟨ret_bool HN.out.symm,hb⟩
    case pos =>
     have HE4:=Lh e4
     have e4':(x.zeros != 0)=false:=by rw [e4];simp
     clear e4
     cases e5:bagOk x.last.drawn.data.toList with
     | false =>
      have HN:=Lh (HN5.out e5)
      rw [e5] at HBG
      clear e5 HY HN1 HN2 HN3 HN4 HN5
      refine wp_region_quiet_below (by kernel_rfl) (by kernel_rfl) ?_
      repeat (go_big_quiet_step ((first | (go_at_call 169;exact Calls.regrown_of (HOK.out _ _ (HX.out.kept (below_regrown _ _ _)))) | (go_at_call 24;exact Calls.regrown_of (HI.out _)) | (go_at_call 62;exact Calls.regrown_of (HBG.out _)))))
      refine wpQuiet_nil ?_
      intro wx hw'
      obtain ⟨⟨dq,oq⟩,hw''⟩:=hw'
      have hdx:=below_regrown w2 dq oq
      rw [← hw''] at hdx
      clear hw'' a17 a18 a20 a21 a22 a23 a24 a26 a28
      replace HX:=Lh (HX.out.kept hdx)
      replace HG:=Lh (HG.out.kept hdx)
      replace hb:=hb.trans (hdx.mono hb.size)
      clear hdx
      go_wp2
      go_ret
      exact ⟨ret_bool HN.out.symm,hb⟩
     | true =>
      have HA:=Lh (HY.out HE1.out HE2.out HE3.out HE4.out e5)
      have HE5:=Lh e5
      rw [e5] at HBG
      clear e5 HY HN1 HN2 HN3 HN4 HN5
      refine wp_region_quiet_below (by kernel_rfl) (by kernel_rfl) ?_
      repeat (go_big_quiet_step ((first | (go_at_call 169;exact Calls.regrown_of (HOK.out _ _ (HX.out.kept (below_regrown _ _ _)))) | (go_at_call 24;exact Calls.regrown_of (HI.out _)) | (go_at_call 62;exact Calls.regrown_of (HBG.out _)))))
      refine wpQuiet_nil ?_
      intro wx hw'
      obtain ⟨⟨dq,oq⟩,hw''⟩:=hw'
      have hdx:=below_regrown w2 dq oq
      rw [← hw''] at hdx
      clear hw'' a17 a18 a20 a21 a22 a23 a24 a26 a28
      replace HX:=Lh (HX.out.kept hdx)
      replace HG:=Lh (HG.out.kept hdx)
      replace hb:=hb.trans (hdx.mono hb.size)
      clear hdx
      clear HOK HI HBG e1' e4'
      obtain ⟨n,hp⟩:=okPlay_good HE2.out
      obtain ⟨hdt,hdl⟩:=bag_parts HE5.out
      have hs12:=hp.twelve
      have hfl:x.placed≤x.last.play.word.size:=freshL_len _ _ _ _
      obtain ⟨k,hk,hk2⟩:∃ k:Nat,x.last.player=(k:Int)∧k < 2:=by
       have h1:=HSD.out.p0
       have h2:=HSD.out.p1
       have h3:=HE1.out
       exact ⟨x.last.player.toNat,by omega,by omega⟩
      have hmv:x.mover=x.rack k:=by unfold Gam.mover;rw [hk,Int.toNat_natCast]
      have hrk:=HSD.out.rack k hk2
      have hms:(x.rack k).size≤7:=by have:=(rack_pile hrk).2;simpa using this
      have hds:x.last.drawn.size≤120:=by simpa using hdl
      have hrl:x.racks.length=2:=HSD.out.racks
      obtain ⟨rb,ro,hra,hrc⟩:=(HG.out.at_.2.1).open (show k < x.racks.length by omega)
      have rc:=words_cell hrc (show k < x.racks.length by omega)
      have HRC:Hid (wx.cell? ⟨rb,ro+k,none⟩=some (.string (x.rack k))):=Lh rc
      have HRA:=Lh hra
      clear rc hrc
      have HSO:Hid (∀ W,Calls Tryz.prog 63 #[.string x.last.drawn] W fun e w'=>e=.returned (.string (mkB (srtL x.last.drawn.data.toList)))∧Below W.heap.size W w'):=Lh (fun W=>(l03Sort_any x.last.drawn W (by omega)).mono fun e w' ⟨R,h1,h2,h3,h4⟩=>⟨by rw [h1,srt_of hdt h2 h3],h4⟩)
      have HTK:Hid (∀ W,Calls Tryz.prog 172 #[.string (x.rack k),.string (mkB (srtL x.last.drawn.data.toList))] W fun e w'=>e=.returned (.tuple #[.string (mkB (takeR (srtL x.last.drawn.data.toList) (x.rack k).data.toList)),.bool (hasT (x.rack k).data.toList x.last.drawn.data.toList)])∧Below W.heap.size W w'):=Lh (fun W=>by
       have h3:=l03TakeF_any (x.rack k) (mkB (srtL x.last.drawn.data.toList)) W (by omega) (by rw [mkB_size,srt_len hdt];omega)
       rw [mkB_data,take_tiles (rack_pile hrk).1 (srt_sort _) (srt_perm hdt) (fun c hc=>(List.all_eq_true.1 hdt) c hc)] at h3
       exact h3)
      have HMK:Hid (∀ W,BAt W X 0 x.before→Calls Tryz.prog 173 #[.pointer (some ⟨X,0,none⟩),.agg #[.int .i64 x.last.play.row,.int .i64 x.last.play.col,.bool x.last.play.down,.string x.last.play.word]] W fun e w'=>e=.returned (.agg #[.int .i64 (x.before.made x.last.play).size,.string (x.before.made x.last.play).premium,.string (x.before.made x.last.play).cells])∧Below W.heap.size W w'):=Lh (fun W h=>l12Make_any x.before x.last.play n X 0 W h hp)
      have HSC:Hid (∀ W,GAt W g x p→BAt W X 0 x.before→Calls Tryz.prog 174 #[.pointer (some ⟨g,0,none⟩),.pointer (some ⟨X,0,none⟩),.agg #[.int .i64 x.last.play.row,.int .i64 x.last.play.col,.bool x.last.play.down,.string x.last.play.word]] W fun e w'=>e=.returned (.int .i64 (x.before.score x.last.play x.setup.tiles))∧Below W.heap.size W w'):=Lh (fun W h1 h2=>l13Score_any x.setup.tiles p.setup.tiles g x.before x.last.play n X 0 W h1.tiles (Tls.good HSD.out.tiles) h2 hp)
      have HFL:Hid (∀ W,BAt W X 0 x.before→Calls Tryz.prog 170 #[.pointer (some ⟨X,0,none⟩),.agg #[.int .i64 x.last.play.row,.int .i64 x.last.play.col,.bool x.last.play.down,.string x.last.play.word]] W fun e w'=>e=.returned (flatV x.before x.last.play)∧Below W.heap.size W w'):=Lh (fun W h=>l12Flat_any x.before x.last.play n X 0 W hp.good h)
      have HFR:Hid (∀ Y W,BAt W Y 0 (x.before.flat x.last.play.down)→Calls Tryz.prog 171 #[.pointer (some ⟨Y,0,none⟩),.agg #[.int .i64 x.last.play.flat.row,.int .i64 x.last.play.flat.col,.bool x.last.play.flat.down,.string x.last.play.word]] W (NatsPost W (x.before.fresh x.last.play))):=Lh (fun Y W h=>by
       have:=l12Fresh_any (x.before.flat x.last.play.down) n x.last.play.flat.row x.last.play.flat.col x.last.play.flat.down x.last.play.word Y 0 W (hp.good.flat x.last.play.down) h hp.twelve (by rw [Ply.flat_row];exact hp.r0) (by rw [Ply.flat_row];exact hp.r1) (by rw [Ply.flat_col];exact hp.c0) (by rw [Ply.flat_col];exact hp.c1)
       rw [Ply.flat_row,Ply.flat_col] at this ⊢
       exact this)
      have HBQ:Hid (∀ W,(binOp .eql 29 (.agg #[.int .i64 (x.before.made x.last.play).size,.string (x.before.made x.last.play).premium,.string (x.before.made x.last.play).cells]) (.agg #[.int .i64 x.board.size,.string x.board.premium,.string x.board.cells])).run Tryz.prog W=.ok (.bool (decide ((x.before.made x.last.play).cells=x.board.cells))) W):=Lh (fun W=>by rw [eql_board,made_eq])
      have hgq:Tryz.prog.eqGuardType Tryz.prog.depth 29=false:=by kernel_rfl
      have hpl:(x.before.fresh x.last.play).length=x.placed:=rfl
      rw [hmv] at HA
      have HK:=Lh hk
      clear hp hmv hdt hdl hrk hk HSD HE1 HE2 HE3 HE4 HE5
      generalize x.before.score x.last.play x.setup.tiles=sc at *
      generalize decide ((x.before.made x.last.play).cells=x.board.cells)=bq at *
      generalize x.before.made x.last.play=md at *
      obtain ⟨m0,m1,m2⟩:=md
      simp only at HMK HBQ
      generalize hasT (x.rack k).data.toList x.last.drawn.data.toList=hv at *
      generalize mkB (takeR (srtL x.last.drawn.data.toList) (x.rack k).data.toList)=tk at *
      generalize mkB (srtL x.last.drawn.data.toList)=sd at *
      generalize hmk:x.rack k=mv at *
      clear hmk
      generalize x.placed=m at *
      have c21:=HG.out.cell (i:=21) rfl
      have c22:=HG.out.cell (i:=22) rfl
      have c23:=HG.out.cell (i:=23) rfl
      have c24:=HG.out.cell (i:=24) rfl
      go_wp2_with fail
      refine (HFL.out _ HX.out).mono ?_
      rintro e w4 ⟨rfl,hd⟩
      unfold flatV
      clear HFL c21 c22 c23 c24
      replace HRC:=Lh (cell_kept HRC.out hd)
      replace hb:=hb.trans (hd.mono hb.size)
      replace HG:=Lh (HG.out.kept hd)
      replace HX:=Lh (HX.out.kept hd)
      clear hd
      generalize hff:x.before.flat x.last.play.down=f at *
      generalize hfr:x.last.play.flat.row=fr0 at *
      generalize hfc:x.last.play.flat.col=fc at *
      generalize hfd:x.last.play.flat.down=fd at *
      clear hff hfr hfc hfd
      have HF:Hid (BAt ((w4.alloc (.cells #[.int .i64 f.size,.string f.premium,.string f.cells] 29)).alloc (.cells #[.int .i64 fr0,.int .i64 fc,.bool fd,.string x.last.play.word] 33)) w4.heap.size 0 f):=Lh ((BAt.new w4 f 29).kept ((Below.refl _ _).alloc (Nat.le_refl _) _))
      have HQ:Hid (VarAt ((w4.alloc (.cells #[.int .i64 f.size,.string f.premium,.string f.cells] 29)).alloc (.cells #[.int .i64 fr0,.int .i64 fc,.bool fd,.string x.last.play.word] 33)) (w4.heap.size+1) 33 [.int .i64 fr0,.int .i64 fc,.bool fd,.string x.last.play.word]):=Lh (by
       have:=VarAt.new (w4.alloc (.cells #[.int .i64 f.size,.string f.premium,.string f.cells] 29)) 33 [.int .i64 fr0,.int .i64 fc,.bool fd,.string x.last.play.word]
       simp only [World.size_alloc] at this
       exact this)
      have hd:Below w4.heap.size w4 ((w4.alloc (.cells #[.int .i64 f.size,.string f.premium,.string f.cells] 29)).alloc (.cells #[.int .i64 fr0,.int .i64 fc,.bool fd,.string x.last.play.word] 33)):=((Below.refl _ _).alloc (Nat.le_refl _) _).alloc (by simp) _
      replace HRC:=Lh (cell_kept HRC.out hd)
      replace hb:=hb.trans (hd.mono hb.size)
      replace HG:=Lh (HG.out.kept hd)
      replace HX:=Lh (HX.out.kept hd)
      clear hd
      go_upto_region 6 with fail
      generalize (w4.alloc (.cells #[.int .i64 f.size,.string f.premium,.string f.cells] 29)).alloc (.cells #[.int .i64 fr0,.int .i64 fc,.bool fd,.string x.last.play.word] 33)=w5 at *
      have q0:=HQ.out.cell (i:=0) rfl
      have q1:=HQ.out.cell (i:=1) rfl
      have q2:=HQ.out.cell (i:=2) rfl
      have q3:=HQ.out.cell (i:=3) rfl
      go_wp2_with fail
      refine (HFR.out _ _ HF.out).mono ?_
      rintro e w6 ⟨gf,cf,rfl,hx0,hd⟩
      rw [hpl]
      clear hx0 q0 q1 q2 q3 HF HQ HFR hpl
      replace HRC:=Lh (cell_kept HRC.out hd)
      replace hb:=hb.trans (hd.mono hb.size)
      replace HG:=Lh (HG.out.kept hd)
      replace HX:=Lh (HX.out.kept hd)
      clear hd
      go_upto_region 7 with fail
      have b14:=HG.out.cell (i:=14) rfl
      rw [HRA.out,hrl] at b14
      have b14:=cell_regrown b14
      have b20:=HG.out.cell (i:=20) rfl
      rw [HK.out] at b20
      have b20:=cell_regrown b20
      have b26:=cell_regrown (HG.out.cell (i:=26) rfl)
      have brc:=cell_regrown HRC.out
      have hki:(k:Int) < 2:=by omega
      refine wp_region_quiet_below (by kernel_rfl) (by kernel_rfl) ?_
      repeat (go_big_quiet_step ((first | (go_at_call 63;exact Calls.regrown_of (HSO.out _)) | (go_at_call 172;exact Calls.regrown_of (HTK.out _)))))
      refine wpQuiet_nil ?_
      intro w7 hw'
      obtain ⟨⟨dq,oq⟩,hw''⟩:=hw'
      have hd:=below_regrown w6 dq oq
      rw [← hw''] at hd
      clear hw'' b14 b20 b26 brc
      replace HRC:=Lh (cell_kept HRC.out hd)
      replace hb:=hb.trans (hd.mono hb.size)
      replace HG:=Lh (HG.out.kept hd)
      replace HX:=Lh (HX.out.kept hd)
      clear hd
      go_upto_region 8 with fail
      have b10:=cell_regrown (HG.out.cell (i:=10) rfl)
      have b11:=cell_regrown (HG.out.cell (i:=11) rfl)
      have b12:=cell_regrown (HG.out.cell (i:=12) rfl)
      have b14:=HG.out.cell (i:=14) rfl
      rw [HRA.out,hrl] at b14
      have b14:=cell_regrown b14
      have b20:=HG.out.cell (i:=20) rfl
      rw [HK.out] at b20
      have b20:=cell_regrown b20
      have b21:=cell_regrown (HG.out.cell (i:=21) rfl)
      have b22:=cell_regrown (HG.out.cell (i:=22) rfl)
      have b23:=cell_regrown (HG.out.cell (i:=23) rfl)
      have b24:=cell_regrown (HG.out.cell (i:=24) rfl)
      have b26:=cell_regrown (HG.out.cell (i:=26) rfl)
      have b27:=cell_regrown (HG.out.cell (i:=27) rfl)
      have brc:=cell_regrown HRC.out
      have wr2:IntKind.i64.wrap ((mv.size:Int) - (x.last.drawn.size:Int))=(mv.size:Int) - x.last.drawn.size:=IntWalk.i64_in _ (by omega)
      have wr3:IntKind.i64.wrap ((mv.size:Int) - (x.last.drawn.size:Int)+(m:Int))=(mv.size:Int) - x.last.drawn.size+m:=IntWalk.i64_in _ (by omega)
      have hq:=HBQ.out
      clear HBQ hrl
      cases hv with
      | false =>
       refine wp_region_quiet_below (by kernel_rfl) (by kernel_rfl) ?_
       simp only [List.append_eq,List.cons_append,List.nil_append]
       repeat (go_big_quiet_step ((first | (go_at_call 173;exact Calls.regrown_of (HMK.out _ (HX.out.kept (below_regrown _ _ _)))) | (go_at_call 174;exact Calls.regrown_of (HSC.out _ (HG.out.kept (below_regrown _ _ _)) (HX.out.kept (below_regrown _ _ _)))))))
       refine wpQuiet_nil ?_
       intro wy hw'
       obtain ⟨⟨dq,oq⟩,hw''⟩:=hw'
       have hdx:=below_regrown w7 dq oq
       rw [← hw''] at hdx
       replace hb:=hb.trans (hdx.mono hb.size)
       clear hw'' hdx b10 b11 b12 b14 b20 b21 b22 b23 b24 b26 b27 brc hq
       go_wp2
       go_ret
       exact ⟨ret_bool (by rw [HA.out];rfl),hb⟩
      | true =>
       by_cases f1:m≤7
       case neg =>
        have g1:¬ (m:Int)≤7:=by omega
        have HN:Hid (ans=false):=Lh (by rw [HA.out,decide_eq_false f1];rfl)
        clear f1
        refine wp_region_quiet_below (by kernel_rfl) (by kernel_rfl) ?_
        simp only [List.append_eq,List.cons_append,List.nil_append]
        repeat (go_big_quiet_step ((first | (go_at_call 173;exact Calls.regrown_of (HMK.out _ (HX.out.kept (below_regrown _ _ _)))) | (go_at_call 174;exact Calls.regrown_of (HSC.out _ (HG.out.kept (below_regrown _ _ _)) (HX.out.kept (below_regrown _ _ _)))))))
        refine wpQuiet_nil ?_
        intro wy hw'
        obtain ⟨⟨dq,oq⟩,hw''⟩:=hw'
        have hdx:=below_regrown w7 dq oq
        rw [← hw''] at hdx
        replace hb:=hb.trans (hdx.mono hb.size)
        clear hw'' hdx b10 b11 b12 b14 b20 b21 b22 b23 b24 b26 b27 brc hq
        go_wp2
        go_ret
        exact ⟨ret_bool HN.out.symm,hb⟩
       case pos =>
        have g1:(m:Int)≤7:=by omega
        by_cases f2:x.last.drawn.size≤m
        case neg =>
         have g2:¬ (x.last.drawn.size:Int)≤(m:Int):=by omega
         have HN:Hid (ans=false):=Lh (by rw [HA.out,decide_eq_false f2];simp)
         clear f1 f2
         refine wp_region_quiet_below (by kernel_rfl) (by kernel_rfl) ?_
         simp only [List.append_eq,List.cons_append,List.nil_append]
         repeat (go_big_quiet_step ((first | (go_at_call 173;exact Calls.regrown_of (HMK.out _ (HX.out.kept (below_regrown _ _ _)))) | (go_at_call 174;exact Calls.regrown_of (HSC.out _ (HG.out.kept (below_regrown _ _ _)) (HX.out.kept (below_regrown _ _ _)))))))
         refine wpQuiet_nil ?_
         intro wy hw'
         obtain ⟨⟨dq,oq⟩,hw''⟩:=hw'
         have hdx:=below_regrown w7 dq oq
         rw [← hw''] at hdx
         replace hb:=hb.trans (hdx.mono hb.size)
         clear hw'' hdx b10 b11 b12 b14 b20 b21 b22 b23 b24 b26 b27 brc hq
         go_wp2
         go_ret
         exact ⟨ret_bool HN.out.symm,hb⟩
        case pos =>
         have g2:(x.last.drawn.size:Int)≤(m:Int):=by omega
         by_cases f3:(mv.size:Int) - x.last.drawn.size+m≤7
         case neg =>
          have HN:Hid (ans=false):=Lh (by rw [HA.out,decide_eq_false f3];simp)
          clear f1 f2
          refine wp_region_quiet_below (by kernel_rfl) (by kernel_rfl) ?_
          simp only [List.append_eq,List.cons_append,List.nil_append]
          repeat (go_big_quiet_step ((first | (go_at_call 173;exact Calls.regrown_of (HMK.out _ (HX.out.kept (below_regrown _ _ _)))) | (go_at_call 174;exact Calls.regrown_of (HSC.out _ (HG.out.kept (below_regrown _ _ _)) (HX.out.kept (below_regrown _ _ _)))))))
          refine wpQuiet_nil ?_
          intro wy hw'
          obtain ⟨⟨dq,oq⟩,hw''⟩:=hw'
          have hdx:=below_regrown w7 dq oq
          rw [← hw''] at hdx
          replace hb:=hb.trans (hdx.mono hb.size)
          clear hw'' hdx b10 b11 b12 b14 b20 b21 b22 b23 b24 b26 b27 brc hq
          go_wp2
          go_ret
          exact ⟨ret_bool HN.out.symm,hb⟩
         case pos =>
          cases bq with
          | false =>
           have HN:Hid (ans=false):=Lh (by rw [HA.out];simp)
           clear f1 f2
           refine wp_region_quiet_below (by kernel_rfl) (by kernel_rfl) ?_
           simp only [List.append_eq,List.cons_append,List.nil_append]
           repeat (go_big_quiet_step ((first | (go_at_call 173;exact Calls.regrown_of (HMK.out _ (HX.out.kept (below_regrown _ _ _)))) | (go_at_call 174;exact Calls.regrown_of (HSC.out _ (HG.out.kept (below_regrown _ _ _)) (HX.out.kept (below_regrown _ _ _)))))))
           refine wpQuiet_nil ?_
           intro wy hw'
           obtain ⟨⟨dq,oq⟩,hw''⟩:=hw'
           have hdx:=below_regrown w7 dq oq
           rw [← hw''] at hdx
           replace hb:=hb.trans (hdx.mono hb.size)
           clear hw'' hdx b10 b11 b12 b14 b20 b21 b22 b23 b24 b26 b27 brc hq
           go_wp2
           go_ret
           exact ⟨ret_bool HN.out.symm,hb⟩
          | true =>
           by_cases f4:x.last.score=sc
           case neg =>
            have g4:(x.last.score == sc)=false:=beq_eq_false_iff_ne.2 f4
            have HN:Hid (ans=false):=Lh (by rw [HA.out,decide_eq_false f4];simp)
            clear f1 f2
            refine wp_region_quiet_below (by kernel_rfl) (by kernel_rfl) ?_
            simp only [List.append_eq,List.cons_append,List.nil_append]
            repeat (go_big_quiet_step ((first | (go_at_call 173;exact Calls.regrown_of (HMK.out _ (HX.out.kept (below_regrown _ _ _)))) | (go_at_call 174;exact Calls.regrown_of (HSC.out _ (HG.out.kept (below_regrown _ _ _)) (HX.out.kept (below_regrown _ _ _)))))))
            refine wpQuiet_nil ?_
            intro wy hw'
            obtain ⟨⟨dq,oq⟩,hw''⟩:=hw'
            have hdx:=below_regrown w7 dq oq
            rw [← hw''] at hdx
            replace hb:=hb.trans (hdx.mono hb.size)
            clear hw'' hdx b10 b11 b12 b14 b20 b21 b22 b23 b24 b26 b27 brc hq
            go_wp2
            go_ret
            exact ⟨ret_bool HN.out.symm,hb⟩
           case pos =>
            have g4:(x.last.score == sc)=true:=beq_iff_eq.2 f4
            have HN:Hid (ans=decide (x.last.score≤20000)):=Lh (by rw [HA.out,decide_eq_true f1,decide_eq_true f2,decide_eq_true f3,decide_eq_true f4];simp)
            clear f1 f2 f4
            refine wp_region_quiet_below (by kernel_rfl) (by kernel_rfl) ?_
            simp only [List.append_eq,List.cons_append,List.nil_append]
            repeat (go_big_quiet_step ((first | (go_at_call 173;exact Calls.regrown_of (HMK.out _ (HX.out.kept (below_regrown _ _ _)))) | (go_at_call 174;exact Calls.regrown_of (HSC.out _ (HG.out.kept (below_regrown _ _ _)) (HX.out.kept (below_regrown _ _ _)))))))
            refine wpQuiet_nil ?_
            intro wy hw'
            obtain ⟨⟨dq,oq⟩,hw''⟩:=hw'
            have hdx:=below_regrown w7 dq oq
            rw [← hw''] at hdx
            replace hb:=hb.trans (hdx.mono hb.size)
            clear hw'' hdx b10 b11 b12 b14 b20 b21 b22 b23 b24 b26 b27 brc hq
            go_wp2
            go_ret
            exact ⟨ret_bool HN.out.symm,hb⟩
end Go.Proofs.YtgphkffbbmmmmaaGreatDoor
