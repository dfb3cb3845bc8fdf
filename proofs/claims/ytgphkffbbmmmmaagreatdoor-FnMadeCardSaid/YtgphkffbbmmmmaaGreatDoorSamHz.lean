/- Contract: the reference's SameGame. No condition but that a length fits an int. -/
import Derived.Test.YtgphkffbbmmmmaaGreatDoorSamGz
set_option maxRecDepth 100000
set_option maxHeartbeats 16000000
namespace Go.Proofs.YtgphkffbbmmmmaaGreatDoor
open Go.ChangeShapes Go.WideShapes Go.ChangeAt Go.RowKit Go.Sort

theorem specSameGame_any (x y:Gam) (p q:GaA) (w:World) (ha:x.At p w) (hc:y.At q w) (hf:x.fit) (hg:y.fit) :
  Calls Tryz.prog 20 #[.agg (gcells x p).toArray,.agg (gcells y q).toArray] w fun e w'=>e=.returned (.bool (sameG x y))∧Below w.heap.size w w':=by
 obtain ⟨w2,hw2⟩:∃ w2,w2=(w.alloc (.cells (gcells x p).toArray 37)).alloc (.cells (gcells y q).toArray 37):=⟨_,rfl⟩
 have hb:Below w.heap.size w w2:=by rw [hw2];exact ((Below.refl _ _).alloc (Nat.le_refl _) _).alloc (by simp) _
 have VA:Hid (VarAt w2 w.heap.size 37 (gcells x p)):=by
  rw [hw2]
  exact Lh ((VarAt.new w 37 (gcells x p)).kept ((Below.refl _ _).alloc (Nat.le_refl _) _))
 have VB:Hid (VarAt w2 (w.heap.size+1) 37 (gcells y q)):=by
  rw [hw2]
  have:=VarAt.new (w.alloc (.cells (gcells x p).toArray 37)) 37 (gcells y q)
  simp only [World.size_alloc] at this
  exact Lh this
 have HA:=Lh (Gam.At.kept ha hb)
 have HC:=Lh (Gam.At.kept hc hb)
 have HW2:=Lh hw2
 have H02:Hid (∀ W,VarAt W w.heap.size 37 (gcells x p)→VarAt W (w.heap.size+1) 37 (gcells y q)→x.At p W→y.At q W→Calls Tryz.prog 50 #[.pointer (some ⟨w.heap.size,0,none⟩),.pointer (some ⟨w.heap.size+1,0,none⟩)] W fun e w'=>e=.returned (.bool (sameT x.setup.tiles y.setup.tiles))∧Below W.heap.size W w'):=Lh (fun W hv hv2 h h2=>l02Same_any x.setup.tiles y.setup.tiles p.setup.tiles q.setup.tiles _ _ W h.1.1 h2.1.1 hf.1.1 hg.1.1 (hv.cell (i:=0) rfl) (hv.cell (i:=1) rfl) (hv.cell (i:=2) rfl) (hv.cell (i:=3) rfl) (hv2.cell (i:=0) rfl) (hv2.cell (i:=1) rfl) (hv2.cell (i:=2) rfl) (hv2.cell (i:=3) rfl))
 have HXX:Hid (∀ W,x.At p W→y.At q W→Calls Tryz.prog 51 #[.slice p.setup.lexicon.a x.setup.lexicon.length p.setup.lexicon.c,.slice q.setup.lexicon.a y.setup.lexicon.length q.setup.lexicon.c] W fun e w'=>e=.returned (.bool (decide (x.setup.lexicon=y.setup.lexicon)))∧Drew W w'):=Lh (fun W h h2=>l05Same_any _ _ _ _ _ _ W h.1.2 h2.1.2 hf.1.2.1.1 hg.1.2.1.1)
 have HRK:Hid (∀ W,x.At p W→y.At q W→Calls Tryz.prog 51 #[.slice p.racks.a x.racks.length p.racks.c,.slice q.racks.a y.racks.length q.racks.c] W fun e w'=>e=.returned (.bool (decide (x.racks=y.racks)))∧Drew W w'):=Lh (fun W h h2=>l05Same_any _ _ _ _ _ _ W h.2.1 h2.2.1 hf.2.2.2.1.1 hg.2.2.2.1.1)
 have HSC:Hid (∀ W,x.At p W→y.At q W→Calls Tryz.prog 52 #[.slice p.scores.a x.scores.length p.scores.c,.slice q.scores.a y.scores.length q.scores.c] W fun e w'=>e=.returned (.bool (decide (x.scores=y.scores)))∧Drew W w'):=Lh (fun W h h2=>l00Same_any _ _ _ _ _ _ W h.2.2.1 h2.2.2.1 hf.2.2.2.2.1 hg.2.2.2.2.1)
 have HCL:Hid (∀ W,x.At p W→y.At q W→Calls Tryz.prog 52 #[.slice p.clocks.a x.clocks.length p.clocks.c,.slice q.clocks.a y.clocks.length q.clocks.c] W fun e w'=>e=.returned (.bool (decide (x.clocks=y.clocks)))∧Drew W w'):=Lh (fun W h h2=>l00Same_any _ _ _ _ _ _ W h.2.2.2 h2.2.2.2 hf.2.2.2.2.2.1 hg.2.2.2.2.2.1)
 have HB1:Hid (∀ W,(binOp .neq 29 (.agg #[.int .i64 x.setup.board.size,.string x.setup.board.premium,.string x.setup.board.cells]) (.agg #[.int .i64 y.setup.board.size,.string y.setup.board.premium,.string y.setup.board.cells])).run Tryz.prog W=.ok (.bool (!boardSame x.setup.board y.setup.board)) W):=Lh (fun W=>neq_board _ _ _ _ _ _ W)
 have HB2:Hid (∀ W,(binOp .eql 29 (.agg #[.int .i64 x.board.size,.string x.board.premium,.string x.board.cells]) (.agg #[.int .i64 y.board.size,.string y.board.premium,.string y.board.cells])).run Tryz.prog W=.ok (.bool (boardSame x.board y.board)) W):=Lh (fun W=>eql_board _ _ _ _ _ _ W)
 have HLE:Hid (∀ W,(binOp .eql 35 (.agg #[.int .i64 x.last.kind,.int .i64 x.last.player,.int .i64 x.last.play.row,.int .i64 x.last.play.col,.bool x.last.play.down,.string x.last.play.word,.string x.last.before,.string x.last.drawn,.int .i64 x.last.score,.int .i64 x.last.zeros]) (.agg #[.int .i64 y.last.kind,.int .i64 y.last.player,.int .i64 y.last.play.row,.int .i64 y.last.play.col,.bool y.last.play.down,.string y.last.play.word,.string y.last.before,.string y.last.drawn,.int .i64 y.last.score,.int .i64 y.last.zeros])).run Tryz.prog W=.ok (.bool (lastEq x.last y.last)) W):=Lh (fun W=>eql_lasts x.last y.last W)
 have hgq:Tryz.prog.eqGuardType Tryz.prog.depth 29=false:=by kernel_rfl
 have hgl:Tryz.prog.eqGuardType Tryz.prog.depth 35=false:=by kernel_rfl
 have HS0:Hid (sameG x y=sameG x y):=Lh rfl
 obtain ⟨bT,kbT⟩:∃ b,b=(sameT x.setup.tiles y.setup.tiles):=⟨_,rfl⟩
 replace kbT:=kbT.symm
 obtain ⟨bX,kbX⟩:∃ b,b=(decide (x.setup.lexicon=y.setup.lexicon)):=⟨_,rfl⟩
 replace kbX:=kbX.symm
 obtain ⟨bB,kbB⟩:∃ b,b=(boardSame x.setup.board y.setup.board):=⟨_,rfl⟩
 replace kbB:=kbB.symm
 obtain ⟨bS,kbS⟩:∃ b,b=(x.setup.seconds != y.setup.seconds):=⟨_,rfl⟩
 replace kbS:=kbS.symm
 obtain ⟨bR,kbR⟩:∃ b,b=(x.setup.rule != y.setup.rule):=⟨_,rfl⟩
 replace kbR:=kbR.symm
 obtain ⟨bD,kbD⟩:∃ b,b=(boardSame x.board y.board):=⟨_,rfl⟩
 replace kbD:=kbD.symm
 obtain ⟨bG,kbG⟩:∃ b,b=(x.bag.toList == y.bag.toList):=⟨_,rfl⟩
 replace kbG:=kbG.symm
 obtain ⟨bK,kbK⟩:∃ b,b=(decide (x.racks=y.racks)):=⟨_,rfl⟩
 replace kbK:=kbK.symm
 obtain ⟨bC,kbC⟩:∃ b,b=(decide (x.scores=y.scores)):=⟨_,rfl⟩
 replace kbC:=kbC.symm
 obtain ⟨bE,kbE⟩:∃ b,b=(decide (x.clocks=y.clocks)):=⟨_,rfl⟩
 replace kbE:=kbE.symm
 obtain ⟨bP,kbP⟩:∃ b,b=(x.player == y.player):=⟨_,rfl⟩
 replace kbP:=kbP.symm
 obtain ⟨bZ,kbZ⟩:∃ b,b=(x.zeros == y.zeros):=⟨_,rfl⟩
 replace kbZ:=kbZ.symm
 obtain ⟨bL,kbL⟩:∃ b,b=(lastEq x.last y.last):=⟨_,rfl⟩
 replace kbL:=kbL.symm
 have HS:Hid (sameG x y=((bT && (bX && (bB && (!bS && !bR)))) && (bD && (bG && (bK && (bC && (bE && (bP && (bZ && (bL && (x.over == y.over))))))))))):=Lh (by rw [← kbT,← kbX,← kbB,← kbS,← kbR,← kbD,← kbG,← kbK,← kbC,← kbE,← kbP,← kbZ,← kbL];rfl)
 rw [kbT] at H02
 rw [kbX] at HXX
 rw [kbK] at HRK
 rw [kbC] at HSC
 rw [kbE] at HCL
 rw [kbB] at HB1
 rw [kbD] at HB2
 rw [kbL] at HLE
 clear HS0 hw2 ha hc hf hg kbT kbX kbB kbD kbK kbC kbE kbL
 obtain ⟨gx,hgx⟩:∃ gx,gx=gcells x p:=⟨_,rfl⟩
 obtain ⟨gy,hgy⟩:∃ gy,gy=gcells y q:=⟨_,rfl⟩
 have HGX:Hid (gx=gcells x p):=Lh hgx
 have HGY:Hid (gy=gcells y q):=Lh hgy
 rw [← hgx,← hgy]
 rw [← hgx,← hgy] at H02
 rw [← hgx] at VA
 rw [← hgy] at VB
 rw [← hgx,← hgy] at HW2
 clear hgx hgy
 generalize sameG x y=sG at *
 go_enter Tryz.func20,Tryz.ntmps20
 go_upto_region 1 with fail
 rw [← HW2.out]
 clear HW2
 go_wp2_with fail
 refine (H02.out _ VA.out VB.out HA.out HC.out).mono ?_
 rintro e w3 ⟨rfl,hd⟩
 replace HA:=Lh (Gam.At.kept HA.out hd)
 replace HC:=Lh (Gam.At.kept HC.out hd)
 replace hb:=hb.trans (hd.mono hb.size)
 replace VA:=Lh (VA.out.kept hd)
 replace VB:=Lh (VB.out.kept hd)
 clear hd
 clear H02
 cases bT with
 | false =>
  have HN:Hid (sG=false):=Lh (by rw [HS.out];rfl)
  go_wp2
  go_ret
  exact ⟨ret_bool HN.out.symm,hb⟩
 | true =>
  have c4:=VA.out.cell (i:=4) (v:=.slice p.setup.lexicon.a x.setup.lexicon.length p.setup.lexicon.c) (by rw [HGX.out];rfl)
  have d4:=VB.out.cell (i:=4) (v:=.slice q.setup.lexicon.a y.setup.lexicon.length q.setup.lexicon.c) (by rw [HGY.out];rfl)
  go_wp2_with fail
  refine (HXX.out _ HA.out HC.out).mono ?_
  rintro e w4 ⟨rfl,hd0⟩
  have hd:=hd0.bel
  clear hd0
  replace HA:=Lh (Gam.At.kept HA.out hd)
  replace HC:=Lh (Gam.At.kept HC.out hd)
  replace hb:=hb.trans (hd.mono hb.size)
  replace VA:=Lh (VA.out.kept hd)
  replace VB:=Lh (VB.out.kept hd)
  clear hd
  clear HXX
  clear c4 d4
  cases bX with
  | false =>
   have HN:Hid (sG=false):=Lh (by rw [HS.out];rfl)
   go_wp2
   go_ret
   exact ⟨ret_bool HN.out.symm,hb⟩
  | true =>
   have c5:=VA.out.cell (i:=5) (v:=.int .i64 x.setup.board.size) (by rw [HGX.out];rfl)
   have d5:=VB.out.cell (i:=5) (v:=.int .i64 y.setup.board.size) (by rw [HGY.out];rfl)
   have c6:=VA.out.cell (i:=6) (v:=.string x.setup.board.premium) (by rw [HGX.out];rfl)
   have d6:=VB.out.cell (i:=6) (v:=.string y.setup.board.premium) (by rw [HGY.out];rfl)
   have c7:=VA.out.cell (i:=7) (v:=.string x.setup.board.cells) (by rw [HGX.out];rfl)
   have d7:=VB.out.cell (i:=7) (v:=.string y.setup.board.cells) (by rw [HGY.out];rfl)
   have c8:=VA.out.cell (i:=8) (v:=.int .i64 x.setup.seconds) (by rw [HGX.out];rfl)
   have d8:=VB.out.cell (i:=8) (v:=.int .i64 y.setup.seconds) (by rw [HGY.out];rfl)
   have c9:=VA.out.cell (i:=9) (v:=.int .i64 x.setup.rule) (by rw [HGX.out];rfl)
   have d9:=VB.out.cell (i:=9) (v:=.int .i64 y.setup.rule) (by rw [HGY.out];rfl)
   have hb1:=HB1.out
   clear HB1
   cases bB with
   | false =>
    have HN:Hid (sG=false):=Lh (by rw [HS.out];rfl)
    go_wp2
    go_ret
    exact ⟨ret_bool HN.out.symm,hb⟩
   | true =>
    cases bS with
    | true =>
     have HN:Hid (sG=false):=Lh (by rw [HS.out];rfl)
     go_wp2
     go_ret
     exact ⟨ret_bool HN.out.symm,hb⟩
    | false =>
     cases bR with
     | true =>
      have HN:Hid (sG=false):=Lh (by rw [HS.out];rfl)
      go_wp2
      go_ret
      exact ⟨ret_bool HN.out.symm,hb⟩
     | false =>
      go_upto_region 3 with fail
      clear c5 d5 c6 d6 c7 d7 c8 d8 c9 d9
      clear hb1 kbS kbR
      have c10:=VA.out.cell (i:=10) (v:=.int .i64 x.board.size) (by rw [HGX.out];rfl)
      have d10:=VB.out.cell (i:=10) (v:=.int .i64 y.board.size) (by rw [HGY.out];rfl)
      have c11:=VA.out.cell (i:=11) (v:=.string x.board.premium) (by rw [HGX.out];rfl)
      have d11:=VB.out.cell (i:=11) (v:=.string y.board.premium) (by rw [HGY.out];rfl)
      have c12:=VA.out.cell (i:=12) (v:=.string x.board.cells) (by rw [HGX.out];rfl)
      have d12:=VB.out.cell (i:=12) (v:=.string y.board.cells) (by rw [HGY.out];rfl)
      have c13:=VA.out.cell (i:=13) (v:=.string x.bag) (by rw [HGX.out];rfl)
      have d13:=VB.out.cell (i:=13) (v:=.string y.bag) (by rw [HGY.out];rfl)
      have hb2:=HB2.out
      clear HB2
      cases bD with
      | false =>
       have HN:Hid (sG=false):=Lh (by rw [HS.out];rfl)
       go_wp2
       go_ret
       exact ⟨ret_bool HN.out.symm,hb⟩
      | true =>
       cases bG with
       | false =>
        have HN:Hid (sG=false):=Lh (by rw [HS.out];rfl)
        go_wp2
        go_ret
        exact ⟨ret_bool HN.out.symm,hb⟩
       | true =>
        have c14:=VA.out.cell (i:=14) (v:=.slice p.racks.a x.racks.length p.racks.c) (by rw [HGX.out];rfl)
        have d14:=VB.out.cell (i:=14) (v:=.slice q.racks.a y.racks.length q.racks.c) (by rw [HGY.out];rfl)
        go_wp2_with fail
        refine (HRK.out _ HA.out HC.out).mono ?_
        rintro e w5 ⟨rfl,hd0⟩
        have hd:=hd0.bel
        clear hd0
        replace HA:=Lh (Gam.At.kept HA.out hd)
        replace HC:=Lh (Gam.At.kept HC.out hd)
        replace hb:=hb.trans (hd.mono hb.size)
        replace VA:=Lh (VA.out.kept hd)
        replace VB:=Lh (VB.out.kept hd)
        clear hd
        clear HRK
        clear c10 d10 c11 d11 c12 d12 c13 d13 c14 d14
        cases bK with
        | false =>
         have HN:Hid (sG=false):=Lh (by rw [HS.out];rfl)
         go_wp2
         go_ret
         exact ⟨ret_bool HN.out.symm,hb⟩
        | true =>
         have c15:=VA.out.cell (i:=15) (v:=.slice p.scores.a x.scores.length p.scores.c) (by rw [HGX.out];rfl)
         have d15:=VB.out.cell (i:=15) (v:=.slice q.scores.a y.scores.length q.scores.c) (by rw [HGY.out];rfl)
         go_wp2_with fail
         refine (HSC.out _ HA.out HC.out).mono ?_
         rintro e w6 ⟨rfl,hd0⟩
         have hd:=hd0.bel
         clear hd0
         replace HA:=Lh (Gam.At.kept HA.out hd)
         replace HC:=Lh (Gam.At.kept HC.out hd)
         replace hb:=hb.trans (hd.mono hb.size)
         replace VA:=Lh (VA.out.kept hd)
         replace VB:=Lh (VB.out.kept hd)
         clear hd
         clear HSC
         clear c15 d15
         cases bC with
         | false =>
          have HN:Hid (sG=false):=Lh (by rw [HS.out];rfl)
          go_wp2
          go_ret
          exact ⟨ret_bool HN.out.symm,hb⟩
         | true =>
          have c16:=VA.out.cell (i:=16) (v:=.slice p.clocks.a x.clocks.length p.clocks.c) (by rw [HGX.out];rfl)
          have d16:=VB.out.cell (i:=16) (v:=.slice q.clocks.a y.clocks.length q.clocks.c) (by rw [HGY.out];rfl)
          go_wp2_with fail
          refine (HCL.out _ HA.out HC.out).mono ?_
          rintro e w7 ⟨rfl,hd0⟩
          have hd:=hd0.bel
          clear hd0
          replace HA:=Lh (Gam.At.kept HA.out hd)
          replace HC:=Lh (Gam.At.kept HC.out hd)
          replace hb:=hb.trans (hd.mono hb.size)
          replace VA:=Lh (VA.out.kept hd)
          replace VB:=Lh (VB.out.kept hd)
          clear hd
          clear HCL
          clear c16 d16
          cases bE with
          | false =>
           have HN:Hid (sG=false):=Lh (by rw [HS.out];rfl)
           go_wp2
           go_ret
           exact ⟨ret_bool HN.out.symm,hb⟩
          | true =>
           have c17:=VA.out.cell (i:=17) (v:=.int .i64 x.player) (by rw [HGX.out];rfl)
           have d17:=VB.out.cell (i:=17) (v:=.int .i64 y.player) (by rw [HGY.out];rfl)
           have c18:=VA.out.cell (i:=18) (v:=.int .i64 x.zeros) (by rw [HGX.out];rfl)
           have d18:=VB.out.cell (i:=18) (v:=.int .i64 y.zeros) (by rw [HGY.out];rfl)
           have c19:=VA.out.cell (i:=19) (v:=.int .i64 x.last.kind) (by rw [HGX.out];rfl)
           have d19:=VB.out.cell (i:=19) (v:=.int .i64 y.last.kind) (by rw [HGY.out];rfl)
           have c20:=VA.out.cell (i:=20) (v:=.int .i64 x.last.player) (by rw [HGX.out];rfl)
           have d20:=VB.out.cell (i:=20) (v:=.int .i64 y.last.player) (by rw [HGY.out];rfl)
           have c21:=VA.out.cell (i:=21) (v:=.int .i64 x.last.play.row) (by rw [HGX.out];rfl)
           have d21:=VB.out.cell (i:=21) (v:=.int .i64 y.last.play.row) (by rw [HGY.out];rfl)
           have c22:=VA.out.cell (i:=22) (v:=.int .i64 x.last.play.col) (by rw [HGX.out];rfl)
           have d22:=VB.out.cell (i:=22) (v:=.int .i64 y.last.play.col) (by rw [HGY.out];rfl)
           have c23:=VA.out.cell (i:=23) (v:=.bool x.last.play.down) (by rw [HGX.out];rfl)
           have d23:=VB.out.cell (i:=23) (v:=.bool y.last.play.down) (by rw [HGY.out];rfl)
           have c24:=VA.out.cell (i:=24) (v:=.string x.last.play.word) (by rw [HGX.out];rfl)
           have d24:=VB.out.cell (i:=24) (v:=.string y.last.play.word) (by rw [HGY.out];rfl)
           have c25:=VA.out.cell (i:=25) (v:=.string x.last.before) (by rw [HGX.out];rfl)
           have d25:=VB.out.cell (i:=25) (v:=.string y.last.before) (by rw [HGY.out];rfl)
           have c26:=VA.out.cell (i:=26) (v:=.string x.last.drawn) (by rw [HGX.out];rfl)
           have d26:=VB.out.cell (i:=26) (v:=.string y.last.drawn) (by rw [HGY.out];rfl)
           have c27:=VA.out.cell (i:=27) (v:=.int .i64 x.last.score) (by rw [HGX.out];rfl)
           have d27:=VB.out.cell (i:=27) (v:=.int .i64 y.last.score) (by rw [HGY.out];rfl)
           have c28:=VA.out.cell (i:=28) (v:=.int .i64 x.last.zeros) (by rw [HGX.out];rfl)
           have d28:=VB.out.cell (i:=28) (v:=.int .i64 y.last.zeros) (by rw [HGY.out];rfl)
           have c29:=VA.out.cell (i:=29) (v:=.bool x.over) (by rw [HGX.out];rfl)
           have d29:=VB.out.cell (i:=29) (v:=.bool y.over) (by rw [HGY.out];rfl)
           have hle:=HLE.out
           clear HLE
           cases bP with
           | false =>
            have HN:Hid (sG=false):=Lh (by rw [HS.out];rfl)
            go_wp2
            go_ret
            exact ⟨ret_bool HN.out.symm,hb⟩
           | true =>
            cases bZ with
            | false =>
             have HN:Hid (sG=false):=Lh (by rw [HS.out];rfl)
             go_wp2
             go_ret
             exact ⟨ret_bool HN.out.symm,hb⟩
            | true =>
             cases bL with
             | false =>
              have HN:Hid (sG=false):=Lh (by rw [HS.out];rfl)
              go_wp2
              go_ret
              exact ⟨ret_bool HN.out.symm,hb⟩
             | true =>
              have HN:Hid (sG=(x.over == y.over)):=Lh (by rw [HS.out];rfl)
              go_wp2
              go_ret
              exact ⟨ret_bool HN.out.symm,hb⟩
end Go.Proofs.YtgphkffbbmmmmaaGreatDoor
