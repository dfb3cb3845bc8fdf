/- Contracts: the statements' own functions of Setup (sz, to, eq). No condition but that a length fits an int. · Contracts: the statements' own functions of Last (sz, to, eq). No condition but that a length fits an int. · Contracts: the statements' own functions of Game (sz, eq). No condition but that a length fits an int. · Contracts: the statements' own functions of Game (to). No condition but that a length fits an int. -/
import Derived.Test.YtgphkffbbmmmmaaGreatDoorTiC
import Derived.Test.YtgphkffbbmmmmaaGreatDoorTx
import Derived.Test.YtgphkffbbmmmmaaGreatDoorVar
import Derived.Test.YtgphkffbbmmmmaaGreatDoorBase
set_option maxRecDepth 100000
set_option maxHeartbeats 4000000
namespace Go.Proofs.YtgphkffbbmmmmaaGreatDoor
open Go.ChangeShapes Go.WideShapes Go.ChangeAt Go.RowKit Go.Sort

structure Stp where
 tiles:Tls
 lexicon:List ByteArray
 board:Brd
 seconds:Int
 rule:Int
/-- where its rows lie -/
structure StA where
 tiles:TlA
 lexicon:Rwa
def Stp.At (x:Stp) (p:StA) (w:World):Prop:=x.tiles.At p.tiles w∧SliceAt w 1 Tx.enc p.lexicon.a x.lexicon
theorem Stp.At.kept {x:Stp} {p:StA} {w w':World} (h:x.At p w) (hb:Below w.heap.size w w'):x.At p w':=⟨Tls.At.kept h.1 hb,h.2.kept hb⟩
/-- its rows are of the call's own -/
def Stp.Own (x:Stp) (p:StA) (base:Nat) (w:World):Prop:=x.tiles.Own p.tiles base w∧w.ownsRow base 9 1 (.slice p.lexicon.a x.lexicon.length p.lexicon.c) x.lexicon.length (x.lexicon.flatMap Tx.enc)
theorem Stp.Own.at {x:Stp} {p:StA} {base:Nat} {w:World} (h:x.Own p base w):x.At p w:=⟨Tls.Own.at h.1,own_slice Tx.enc_len h.2 rfl⟩
theorem Stp.Own.kept {x:Stp} {p:StA} {base:Nat} {w w':World} (h:x.Own p base w) (hb:Below w.heap.size w w'):x.Own p base w':=⟨Tls.Own.kept h.1 hb,own_below h.2 hb⟩
theorem Stp.Own.mono {x:Stp} {p:StA} {base base':Nat} {w:World} (h:x.Own p base w) (hb:base'≤base):x.Own p base' w:=⟨Tls.Own.mono h.1 hb,own_mono h.2 hb⟩
theorem Stp.Own.store {x:Stp} {p:StA} {base g:Nat} {w w':World} (h:x.Own p base w) (hg:w.grownBy w' (some g)) (hlt:g < base):x.Own p base w':=⟨Tls.Own.store h.1 hg hlt,row_store h.2 hg hlt⟩
def Stp.fit (x:Stp):Prop:=x.tiles.fit∧(x.lexicon.length≤9223372036854775807∧∀ m∈x.lexicon,m.size≤9223372036854775807)∧x.board.fit
def Stp.sz (x:Stp):Nat:=x.tiles.sz+(x.lexicon.length+szAll ByteArray.size x.lexicon)+x.board.sz
def Stp.small (x:Stp):Prop:=x.tiles.small∧x.lexicon.length≤1048576
/-- its rows lie in blocks of their own -/
def StA.apart (q:StA):Prop:=offA q.tiles.values.a q.tiles.counts.a∧offA q.tiles.values.a q.lexicon.a∧offA q.tiles.counts.a q.lexicon.a
theorem eqSetup_any (x:Stp) (p q:StA) (w:World) (ha:x.At p w) (hc:x.At q w) (hf:x.fit) :
  Calls Tryz.prog 34 #[.agg #[.string x.tiles.letters,.slice p.tiles.values.a x.tiles.values.length p.tiles.values.c,.slice p.tiles.counts.a x.tiles.counts.length p.tiles.counts.c,.int .i64 x.tiles.blanks,.slice p.lexicon.a x.lexicon.length p.lexicon.c,.int .i64 x.board.size,.string x.board.premium,.string x.board.cells,.int .i64 x.seconds,.int .i64 x.rule],.agg #[.string x.tiles.letters,.slice q.tiles.values.a x.tiles.values.length q.tiles.values.c,.slice q.tiles.counts.a x.tiles.counts.length q.tiles.counts.c,.int .i64 x.tiles.blanks,.slice q.lexicon.a x.lexicon.length q.lexicon.c,.int .i64 x.board.size,.string x.board.premium,.string x.board.cells,.int .i64 x.seconds,.int .i64 x.rule]] w fun e w'=>e=.returned (.bool true)∧Below w.heap.size w w':=by
 have HF:=Lh hf;clear hf
 obtain ⟨w2,hw2⟩:∃ w2,w2=(w.alloc (.cells #[.string x.tiles.letters,.slice p.tiles.values.a x.tiles.values.length p.tiles.values.c,.slice p.tiles.counts.a x.tiles.counts.length p.tiles.counts.c,.int .i64 x.tiles.blanks,.slice p.lexicon.a x.lexicon.length p.lexicon.c,.int .i64 x.board.size,.string x.board.premium,.string x.board.cells,.int .i64 x.seconds,.int .i64 x.rule] 31)).alloc (.cells #[.string x.tiles.letters,.slice q.tiles.values.a x.tiles.values.length q.tiles.values.c,.slice q.tiles.counts.a x.tiles.counts.length q.tiles.counts.c,.int .i64 x.tiles.blanks,.slice q.lexicon.a x.lexicon.length q.lexicon.c,.int .i64 x.board.size,.string x.board.premium,.string x.board.cells,.int .i64 x.seconds,.int .i64 x.rule] 31):=⟨_,rfl⟩
 have hb:Below w.heap.size w w2:=by rw [hw2];exact ((Below.refl _ _).alloc (Nat.le_refl _) _).alloc (by simp) _
 have VA:Hid (VarAt w2 w.heap.size 31 [.string x.tiles.letters,.slice p.tiles.values.a x.tiles.values.length p.tiles.values.c,.slice p.tiles.counts.a x.tiles.counts.length p.tiles.counts.c,.int .i64 x.tiles.blanks,.slice p.lexicon.a x.lexicon.length p.lexicon.c,.int .i64 x.board.size,.string x.board.premium,.string x.board.cells,.int .i64 x.seconds,.int .i64 x.rule]):=by
  rw [hw2]
  exact Lh ((VarAt.new w 31 [.string x.tiles.letters,.slice p.tiles.values.a x.tiles.values.length p.tiles.values.c,.slice p.tiles.counts.a x.tiles.counts.length p.tiles.counts.c,.int .i64 x.tiles.blanks,.slice p.lexicon.a x.lexicon.length p.lexicon.c,.int .i64 x.board.size,.string x.board.premium,.string x.board.cells,.int .i64 x.seconds,.int .i64 x.rule]).kept ((Below.refl _ _).alloc (Nat.le_refl _) _))
 have VB:Hid (VarAt w2 (w.heap.size+1) 31 [.string x.tiles.letters,.slice q.tiles.values.a x.tiles.values.length q.tiles.values.c,.slice q.tiles.counts.a x.tiles.counts.length q.tiles.counts.c,.int .i64 x.tiles.blanks,.slice q.lexicon.a x.lexicon.length q.lexicon.c,.int .i64 x.board.size,.string x.board.premium,.string x.board.cells,.int .i64 x.seconds,.int .i64 x.rule]):=by
  rw [hw2]
  have:=VarAt.new (w.alloc (.cells #[.string x.tiles.letters,.slice p.tiles.values.a x.tiles.values.length p.tiles.values.c,.slice p.tiles.counts.a x.tiles.counts.length p.tiles.counts.c,.int .i64 x.tiles.blanks,.slice p.lexicon.a x.lexicon.length p.lexicon.c,.int .i64 x.board.size,.string x.board.premium,.string x.board.cells,.int .i64 x.seconds,.int .i64 x.rule] 31)) 31 [.string x.tiles.letters,.slice q.tiles.values.a x.tiles.values.length q.tiles.values.c,.slice q.tiles.counts.a x.tiles.counts.length q.tiles.counts.c,.int .i64 x.tiles.blanks,.slice q.lexicon.a x.lexicon.length q.lexicon.c,.int .i64 x.board.size,.string x.board.premium,.string x.board.cells,.int .i64 x.seconds,.int .i64 x.rule]
  simp only [World.size_alloc] at this
  exact Lh this
 have HA:=Lh ha;clear ha
 have HC:=Lh hc;clear hc
 have HW2:=Lh hw2;clear hw2
 go_enter Tryz.func34,Tryz.ntmps34
 go_upto_region 1 with fail
 rw [← HW2.out]
 clear HW2
 have c0:=VA.out.cell (i:=0) rfl
 have d0:=VB.out.cell (i:=0) rfl
 have c1:=VA.out.cell (i:=1) rfl
 have d1:=VB.out.cell (i:=1) rfl
 have c2:=VA.out.cell (i:=2) rfl
 have d2:=VB.out.cell (i:=2) rfl
 have c3:=VA.out.cell (i:=3) rfl
 have d3:=VB.out.cell (i:=3) rfl
 have c4:=VA.out.cell (i:=4) rfl
 have d4:=VB.out.cell (i:=4) rfl
 have c5:=VA.out.cell (i:=5) rfl
 have d5:=VB.out.cell (i:=5) rfl
 have c6:=VA.out.cell (i:=6) rfl
 have d6:=VB.out.cell (i:=6) rfl
 have c7:=VA.out.cell (i:=7) rfl
 have d7:=VB.out.cell (i:=7) rfl
 have c8:=VA.out.cell (i:=8) rfl
 have d8:=VB.out.cell (i:=8) rfl
 have c9:=VA.out.cell (i:=9) rfl
 have d9:=VB.out.cell (i:=9) rfl
 go_wp2_with fail
 refine (eqTileSet_any x.tiles p.tiles q.tiles _ (Tls.At.kept HA.out.1 hb) (Tls.At.kept HC.out.1 hb) (HF.out.1)).mono ?_
 rintro e w3 ⟨rfl,hd⟩
 replace hb:=hb.trans (hd.mono hb.size)
 replace c0:=cell_kept c0 hd
 replace d0:=cell_kept d0 hd
 replace c1:=cell_kept c1 hd
 replace d1:=cell_kept d1 hd
 replace c2:=cell_kept c2 hd
 replace d2:=cell_kept d2 hd
 replace c3:=cell_kept c3 hd
 replace d3:=cell_kept d3 hd
 replace c4:=cell_kept c4 hd
 replace d4:=cell_kept d4 hd
 replace c5:=cell_kept c5 hd
 replace d5:=cell_kept d5 hd
 replace c6:=cell_kept c6 hd
 replace d6:=cell_kept d6 hd
 replace c7:=cell_kept c7 hd
 replace d7:=cell_kept d7 hd
 replace c8:=cell_kept c8 hd
 replace d8:=cell_kept d8 hd
 replace c9:=cell_kept c9 hd
 replace d9:=cell_kept d9 hd
 clear hd
 go_wp2_with fail
 refine (eqLexicon_any x.lexicon p.lexicon.a q.lexicon.a p.lexicon.c q.lexicon.c _ ((HA.out.2).kept hb) ((HC.out.2).kept hb) HF.out.2.1.1).mono ?_
 rintro e w4 ⟨rfl,hd⟩
 replace hb:=hb.trans (hd.mono hb.size)
 replace c0:=cell_kept c0 hd
 replace d0:=cell_kept d0 hd
 replace c1:=cell_kept c1 hd
 replace d1:=cell_kept d1 hd
 replace c2:=cell_kept c2 hd
 replace d2:=cell_kept d2 hd
 replace c3:=cell_kept c3 hd
 replace d3:=cell_kept d3 hd
 replace c4:=cell_kept c4 hd
 replace d4:=cell_kept d4 hd
 replace c5:=cell_kept c5 hd
 replace d5:=cell_kept d5 hd
 replace c6:=cell_kept c6 hd
 replace d6:=cell_kept d6 hd
 replace c7:=cell_kept c7 hd
 replace d7:=cell_kept d7 hd
 replace c8:=cell_kept c8 hd
 replace d8:=cell_kept d8 hd
 replace c9:=cell_kept c9 hd
 replace d9:=cell_kept d9 hd
 clear hd
 go_wp2_with fail
 refine (eqBoard_any x.board _).mono ?_
 rintro e w5 ⟨rfl,hd⟩
 replace hb:=hb.trans (hd.mono hb.size)
 replace c0:=cell_kept c0 hd
 replace d0:=cell_kept d0 hd
 replace c1:=cell_kept c1 hd
 replace d1:=cell_kept d1 hd
 replace c2:=cell_kept c2 hd
 replace d2:=cell_kept d2 hd
 replace c3:=cell_kept c3 hd
 replace d3:=cell_kept d3 hd
 replace c4:=cell_kept c4 hd
 replace d4:=cell_kept d4 hd
 replace c5:=cell_kept c5 hd
 replace d5:=cell_kept d5 hd
 replace c6:=cell_kept c6 hd
 replace d6:=cell_kept d6 hd
 replace c7:=cell_kept c7 hd
 replace d7:=cell_kept d7 hd
 replace c8:=cell_kept c8 hd
 replace d8:=cell_kept d8 hd
 replace c9:=cell_kept c9 hd
 replace d9:=cell_kept d9 hd
 clear hd
 go_wp2
 go_ret
 exact ⟨rfl,hb⟩
end Go.Proofs.YtgphkffbbmmmmaaGreatDoor

namespace Go.Proofs.YtgphkffbbmmmmaaGreatDoor
open Go.ChangeShapes Go.WideShapes Go.ChangeAt Go.RowKit Go.Sort

structure Lst where
 kind:Int
 player:Int
 play:Ply
 before:ByteArray
 drawn:ByteArray
 score:Int
 zeros:Int
def Lst.fit (x:Lst):Prop:=x.play.fit∧x.before.size≤9223372036854775807∧x.drawn.size≤9223372036854775807
def Lst.sz (x:Lst):Nat:=x.play.sz+x.before.size+x.drawn.size
theorem eqLast_any (x:Lst) (w:World) :
  Calls Tryz.prog 38 #[.agg #[.int .i64 x.kind,.int .i64 x.player,.int .i64 x.play.row,.int .i64 x.play.col,.bool x.play.down,.string x.play.word,.string x.before,.string x.drawn,.int .i64 x.score,.int .i64 x.zeros],.agg #[.int .i64 x.kind,.int .i64 x.player,.int .i64 x.play.row,.int .i64 x.play.col,.bool x.play.down,.string x.play.word,.string x.before,.string x.drawn,.int .i64 x.score,.int .i64 x.zeros]] w fun e w'=>e=.returned (.bool true)∧Below w.heap.size w w':=by
 obtain ⟨w2,hw2⟩:∃ w2,w2=(w.alloc (.cells #[.int .i64 x.kind,.int .i64 x.player,.int .i64 x.play.row,.int .i64 x.play.col,.bool x.play.down,.string x.play.word,.string x.before,.string x.drawn,.int .i64 x.score,.int .i64 x.zeros] 35)).alloc (.cells #[.int .i64 x.kind,.int .i64 x.player,.int .i64 x.play.row,.int .i64 x.play.col,.bool x.play.down,.string x.play.word,.string x.before,.string x.drawn,.int .i64 x.score,.int .i64 x.zeros] 35):=⟨_,rfl⟩
 have hb:Below w.heap.size w w2:=by rw [hw2];exact ((Below.refl _ _).alloc (Nat.le_refl _) _).alloc (by simp) _
 have VA:Hid (VarAt w2 w.heap.size 35 [.int .i64 x.kind,.int .i64 x.player,.int .i64 x.play.row,.int .i64 x.play.col,.bool x.play.down,.string x.play.word,.string x.before,.string x.drawn,.int .i64 x.score,.int .i64 x.zeros]):=by
  rw [hw2]
  exact Lh ((VarAt.new w 35 [.int .i64 x.kind,.int .i64 x.player,.int .i64 x.play.row,.int .i64 x.play.col,.bool x.play.down,.string x.play.word,.string x.before,.string x.drawn,.int .i64 x.score,.int .i64 x.zeros]).kept ((Below.refl _ _).alloc (Nat.le_refl _) _))
 have VB:Hid (VarAt w2 (w.heap.size+1) 35 [.int .i64 x.kind,.int .i64 x.player,.int .i64 x.play.row,.int .i64 x.play.col,.bool x.play.down,.string x.play.word,.string x.before,.string x.drawn,.int .i64 x.score,.int .i64 x.zeros]):=by
  rw [hw2]
  have:=VarAt.new (w.alloc (.cells #[.int .i64 x.kind,.int .i64 x.player,.int .i64 x.play.row,.int .i64 x.play.col,.bool x.play.down,.string x.play.word,.string x.before,.string x.drawn,.int .i64 x.score,.int .i64 x.zeros] 35)) 35 [.int .i64 x.kind,.int .i64 x.player,.int .i64 x.play.row,.int .i64 x.play.col,.bool x.play.down,.string x.play.word,.string x.before,.string x.drawn,.int .i64 x.score,.int .i64 x.zeros]
  simp only [World.size_alloc] at this
  exact Lh this
 have HW2:=Lh hw2;clear hw2
 go_enter Tryz.func38,Tryz.ntmps38
 go_upto_region 1 with fail
 rw [← HW2.out]
 clear HW2
 have c0:=VA.out.cell (i:=0) rfl
 have d0:=VB.out.cell (i:=0) rfl
 have c1:=VA.out.cell (i:=1) rfl
 have d1:=VB.out.cell (i:=1) rfl
 have c2:=VA.out.cell (i:=2) rfl
 have d2:=VB.out.cell (i:=2) rfl
 have c3:=VA.out.cell (i:=3) rfl
 have d3:=VB.out.cell (i:=3) rfl
 have c4:=VA.out.cell (i:=4) rfl
 have d4:=VB.out.cell (i:=4) rfl
 have c5:=VA.out.cell (i:=5) rfl
 have d5:=VB.out.cell (i:=5) rfl
 have c6:=VA.out.cell (i:=6) rfl
 have d6:=VB.out.cell (i:=6) rfl
 have c7:=VA.out.cell (i:=7) rfl
 have d7:=VB.out.cell (i:=7) rfl
 have c8:=VA.out.cell (i:=8) rfl
 have d8:=VB.out.cell (i:=8) rfl
 have c9:=VA.out.cell (i:=9) rfl
 have d9:=VB.out.cell (i:=9) rfl
 go_wp2_with fail
 refine (eqPlay_any x.play _).mono ?_
 rintro e w3 ⟨rfl,hd⟩
 replace hb:=hb.trans (hd.mono hb.size)
 replace c0:=cell_kept c0 hd
 replace d0:=cell_kept d0 hd
 replace c1:=cell_kept c1 hd
 replace d1:=cell_kept d1 hd
 replace c2:=cell_kept c2 hd
 replace d2:=cell_kept d2 hd
 replace c3:=cell_kept c3 hd
 replace d3:=cell_kept d3 hd
 replace c4:=cell_kept c4 hd
 replace d4:=cell_kept d4 hd
 replace c5:=cell_kept c5 hd
 replace d5:=cell_kept d5 hd
 replace c6:=cell_kept c6 hd
 replace d6:=cell_kept d6 hd
 replace c7:=cell_kept c7 hd
 replace d7:=cell_kept d7 hd
 replace c8:=cell_kept c8 hd
 replace d8:=cell_kept d8 hd
 replace c9:=cell_kept c9 hd
 replace d9:=cell_kept d9 hd
 clear hd
 go_wp2
 go_ret
 exact ⟨rfl,hb⟩
end Go.Proofs.YtgphkffbbmmmmaaGreatDoor

namespace Go.Proofs.YtgphkffbbmmmmaaGreatDoor
open Go.ChangeShapes Go.WideShapes Go.ChangeAt Go.RowKit Go.Sort

structure Gam where
 setup:Stp
 board:Brd
 bag:ByteArray
 racks:List ByteArray
 scores:List Int
 clocks:List Int
 player:Int
 zeros:Int
 last:Lst
 over:Bool
/-- where its rows lie -/
structure GaA where
 setup:StA
 racks:Rwa
 scores:Rwa
 clocks:Rwa
def Gam.At (x:Gam) (p:GaA) (w:World):Prop:=x.setup.At p.setup w∧SliceAt w 1 Tx.enc p.racks.a x.racks∧SliceAt w 1 I64.enc p.scores.a x.scores∧SliceAt w 1 I64.enc p.clocks.a x.clocks
theorem Gam.At.kept {x:Gam} {p:GaA} {w w':World} (h:x.At p w) (hb:Below w.heap.size w w'):x.At p w':=⟨Stp.At.kept h.1 hb,h.2.1.kept hb,h.2.2.1.kept hb,h.2.2.2.kept hb⟩
/-- its rows are of the call's own -/
def Gam.Own (x:Gam) (p:GaA) (base:Nat) (w:World):Prop:=x.setup.Own p.setup base w∧w.ownsRow base 9 1 (.slice p.racks.a x.racks.length p.racks.c) x.racks.length (x.racks.flatMap Tx.enc)∧w.ownsRow base 2 1 (.slice p.scores.a x.scores.length p.scores.c) x.scores.length (x.scores.flatMap I64.enc)∧w.ownsRow base 2 1 (.slice p.clocks.a x.clocks.length p.clocks.c) x.clocks.length (x.clocks.flatMap I64.enc)
theorem Gam.Own.at {x:Gam} {p:GaA} {base:Nat} {w:World} (h:x.Own p base w):x.At p w:=⟨Stp.Own.at h.1,own_slice Tx.enc_len h.2.1 rfl,own_slice I64.enc_len h.2.2.1 rfl,own_slice I64.enc_len h.2.2.2 rfl⟩
theorem Gam.Own.kept {x:Gam} {p:GaA} {base:Nat} {w w':World} (h:x.Own p base w) (hb:Below w.heap.size w w'):x.Own p base w':=⟨Stp.Own.kept h.1 hb,own_below h.2.1 hb,own_below h.2.2.1 hb,own_below h.2.2.2 hb⟩
theorem Gam.Own.mono {x:Gam} {p:GaA} {base base':Nat} {w:World} (h:x.Own p base w) (hb:base'≤base):x.Own p base' w:=⟨Stp.Own.mono h.1 hb,own_mono h.2.1 hb,own_mono h.2.2.1 hb,own_mono h.2.2.2 hb⟩
theorem Gam.Own.store {x:Gam} {p:GaA} {base g:Nat} {w w':World} (h:x.Own p base w) (hg:w.grownBy w' (some g)) (hlt:g < base):x.Own p base w':=⟨Stp.Own.store h.1 hg hlt,row_store h.2.1 hg hlt,row_store h.2.2.1 hg hlt,row_store h.2.2.2 hg hlt⟩
def Gam.fit (x:Gam):Prop:=x.setup.fit∧x.board.fit∧x.bag.size≤9223372036854775807∧(x.racks.length≤9223372036854775807∧∀ m∈x.racks,m.size≤9223372036854775807)∧x.scores.length≤9223372036854775807∧x.clocks.length≤9223372036854775807∧x.last.fit
def Gam.sz (x:Gam):Nat:=x.setup.sz+x.board.sz+x.bag.size+(x.racks.length+szAll ByteArray.size x.racks)+x.scores.length+x.clocks.length+x.last.sz
def Gam.small (x:Gam):Prop:=x.setup.small∧x.racks.length≤1048576∧x.scores.length≤1048576∧x.clocks.length≤1048576
theorem eqGame_any (x:Gam) (p q:GaA) (w:World) (ha:x.At p w) (hc:x.At q w) (hf:x.fit) :
  Calls Tryz.prog 8 #[.agg #[.string x.setup.tiles.letters,.slice p.setup.tiles.values.a x.setup.tiles.values.length p.setup.tiles.values.c,.slice p.setup.tiles.counts.a x.setup.tiles.counts.length p.setup.tiles.counts.c,.int .i64 x.setup.tiles.blanks,.slice p.setup.lexicon.a x.setup.lexicon.length p.setup.lexicon.c,.int .i64 x.setup.board.size,.string x.setup.board.premium,.string x.setup.board.cells,.int .i64 x.setup.seconds,.int .i64 x.setup.rule,.int .i64 x.board.size,.string x.board.premium,.string x.board.cells,.string x.bag,.slice p.racks.a x.racks.length p.racks.c,.slice p.scores.a x.scores.length p.scores.c,.slice p.clocks.a x.clocks.length p.clocks.c,.int .i64 x.player,.int .i64 x.zeros,.int .i64 x.last.kind,.int .i64 x.last.player,.int .i64 x.last.play.row,.int .i64 x.last.play.col,.bool x.last.play.down,.string x.last.play.word,.string x.last.before,.string x.last.drawn,.int .i64 x.last.score,.int .i64 x.last.zeros,.bool x.over],.agg #[.string x.setup.tiles.letters,.slice q.setup.tiles.values.a x.setup.tiles.values.length q.setup.tiles.values.c,.slice q.setup.tiles.counts.a x.setup.tiles.counts.length q.setup.tiles.counts.c,.int .i64 x.setup.tiles.blanks,.slice q.setup.lexicon.a x.setup.lexicon.length q.setup.lexicon.c,.int .i64 x.setup.board.size,.string x.setup.board.premium,.string x.setup.board.cells,.int .i64 x.setup.seconds,.int .i64 x.setup.rule,.int .i64 x.board.size,.string x.board.premium,.string x.board.cells,.string x.bag,.slice q.racks.a x.racks.length q.racks.c,.slice q.scores.a x.scores.length q.scores.c,.slice q.clocks.a x.clocks.length q.clocks.c,.int .i64 x.player,.int .i64 x.zeros,.int .i64 x.last.kind,.int .i64 x.last.player,.int .i64 x.last.play.row,.int .i64 x.last.play.col,.bool x.last.play.down,.string x.last.play.word,.string x.last.before,.string x.last.drawn,.int .i64 x.last.score,.int .i64 x.last.zeros,.bool x.over]] w fun e w'=>e=.returned (.bool true)∧Below w.heap.size w w':=by
 have HF:=Lh hf;clear hf
 obtain ⟨w2,hw2⟩:∃ w2,w2=(w.alloc (.cells #[.string x.setup.tiles.letters,.slice p.setup.tiles.values.a x.setup.tiles.values.length p.setup.tiles.values.c,.slice p.setup.tiles.counts.a x.setup.tiles.counts.length p.setup.tiles.counts.c,.int .i64 x.setup.tiles.blanks,.slice p.setup.lexicon.a x.setup.lexicon.length p.setup.lexicon.c,.int .i64 x.setup.board.size,.string x.setup.board.premium,.string x.setup.board.cells,.int .i64 x.setup.seconds,.int .i64 x.setup.rule,.int .i64 x.board.size,.string x.board.premium,.string x.board.cells,.string x.bag,.slice p.racks.a x.racks.length p.racks.c,.slice p.scores.a x.scores.length p.scores.c,.slice p.clocks.a x.clocks.length p.clocks.c,.int .i64 x.player,.int .i64 x.zeros,.int .i64 x.last.kind,.int .i64 x.last.player,.int .i64 x.last.play.row,.int .i64 x.last.play.col,.bool x.last.play.down,.string x.last.play.word,.string x.last.before,.string x.last.drawn,.int .i64 x.last.score,.int .i64 x.last.zeros,.bool x.over] 37)).alloc (.cells #[.string x.setup.tiles.letters,.slice q.setup.tiles.values.a x.setup.tiles.values.length q.setup.tiles.values.c,.slice q.setup.tiles.counts.a x.setup.tiles.counts.length q.setup.tiles.counts.c,.int .i64 x.setup.tiles.blanks,.slice q.setup.lexicon.a x.setup.lexicon.length q.setup.lexicon.c,.int .i64 x.setup.board.size,.string x.setup.board.premium,.string x.setup.board.cells,.int .i64 x.setup.seconds,.int .i64 x.setup.rule,.int .i64 x.board.size,.string x.board.premium,.string x.board.cells,.string x.bag,.slice q.racks.a x.racks.length q.racks.c,.slice q.scores.a x.scores.length q.scores.c,.slice q.clocks.a x.clocks.length q.clocks.c,.int .i64 x.player,.int .i64 x.zeros,.int .i64 x.last.kind,.int .i64 x.last.player,.int .i64 x.last.play.row,.int .i64 x.last.play.col,.bool x.last.play.down,.string x.last.play.word,.string x.last.before,.string x.last.drawn,.int .i64 x.last.score,.int .i64 x.last.zeros,.bool x.over] 37):=⟨_,rfl⟩
 have hb:Below w.heap.size w w2:=by rw [hw2];exact ((Below.refl _ _).alloc (Nat.le_refl _) _).alloc (by simp) _
 have VA:Hid (VarAt w2 w.heap.size 37 [.string x.setup.tiles.letters,.slice p.setup.tiles.values.a x.setup.tiles.values.length p.setup.tiles.values.c,.slice p.setup.tiles.counts.a x.setup.tiles.counts.length p.setup.tiles.counts.c,.int .i64 x.setup.tiles.blanks,.slice p.setup.lexicon.a x.setup.lexicon.length p.setup.lexicon.c,.int .i64 x.setup.board.size,.string x.setup.board.premium,.string x.setup.board.cells,.int .i64 x.setup.seconds,.int .i64 x.setup.rule,.int .i64 x.board.size,.string x.board.premium,.string x.board.cells,.string x.bag,.slice p.racks.a x.racks.length p.racks.c,.slice p.scores.a x.scores.length p.scores.c,.slice p.clocks.a x.clocks.length p.clocks.c,.int .i64 x.player,.int .i64 x.zeros,.int .i64 x.last.kind,.int .i64 x.last.player,.int .i64 x.last.play.row,.int .i64 x.last.play.col,.bool x.last.play.down,.string x.last.play.word,.string x.last.before,.string x.last.drawn,.int .i64 x.last.score,.int .i64 x.last.zeros,.bool x.over]):=by
  rw [hw2]
  exact Lh ((VarAt.new w 37 [.string x.setup.tiles.letters,.slice p.setup.tiles.values.a x.setup.tiles.values.length p.setup.tiles.values.c,.slice p.setup.tiles.counts.a x.setup.tiles.counts.length p.setup.tiles.counts.c,.int .i64 x.setup.tiles.blanks,.slice p.setup.lexicon.a x.setup.lexicon.length p.setup.lexicon.c,.int .i64 x.setup.board.size,.string x.setup.board.premium,.string x.setup.board.cells,.int .i64 x.setup.seconds,.int .i64 x.setup.rule,.int .i64 x.board.size,.string x.board.premium,.string x.board.cells,.string x.bag,.slice p.racks.a x.racks.length p.racks.c,.slice p.scores.a x.scores.length p.scores.c,.slice p.clocks.a x.clocks.length p.clocks.c,.int .i64 x.player,.int .i64 x.zeros,.int .i64 x.last.kind,.int .i64 x.last.player,.int .i64 x.last.play.row,.int .i64 x.last.play.col,.bool x.last.play.down,.string x.last.play.word,.string x.last.before,.string x.last.drawn,.int .i64 x.last.score,.int .i64 x.last.zeros,.bool x.over]).kept ((Below.refl _ _).alloc (Nat.le_refl _) _))
 have VB:Hid (VarAt w2 (w.heap.size+1) 37 [.string x.setup.tiles.letters,.slice q.setup.tiles.values.a x.setup.tiles.values.length q.setup.tiles.values.c,.slice q.setup.tiles.counts.a x.setup.tiles.counts.length q.setup.tiles.counts.c,.int .i64 x.setup.tiles.blanks,.slice q.setup.lexicon.a x.setup.lexicon.length q.setup.lexicon.c,.int .i64 x.setup.board.size,.string x.setup.board.premium,.string x.setup.board.cells,.int .i64 x.setup.seconds,.int .i64 x.setup.rule,.int .i64 x.board.size,.string x.board.premium,.string x.board.cells,.string x.bag,.slice q.racks.a x.racks.length q.racks.c,.slice q.scores.a x.scores.length q.scores.c,.slice q.clocks.a x.clocks.length q.clocks.c,.int .i64 x.player,.int .i64 x.zeros,.int .i64 x.last.kind,.int .i64 x.last.player,.int .i64 x.last.play.row,.int .i64 x.last.play.col,.bool x.last.play.down,.string x.last.play.word,.string x.last.before,.string x.last.drawn,.int .i64 x.last.score,.int .i64 x.last.zeros,.bool x.over]):=by
  rw [hw2]
  have:=VarAt.new (w.alloc (.cells #[.string x.setup.tiles.letters,.slice p.setup.tiles.values.a x.setup.tiles.values.length p.setup.tiles.values.c,.slice p.setup.tiles.counts.a x.setup.tiles.counts.length p.setup.tiles.counts.c,.int .i64 x.setup.tiles.blanks,.slice p.setup.lexicon.a x.setup.lexicon.length p.setup.lexicon.c,.int .i64 x.setup.board.size,.string x.setup.board.premium,.string x.setup.board.cells,.int .i64 x.setup.seconds,.int .i64 x.setup.rule,.int .i64 x.board.size,.string x.board.premium,.string x.board.cells,.string x.bag,.slice p.racks.a x.racks.length p.racks.c,.slice p.scores.a x.scores.length p.scores.c,.slice p.clocks.a x.clocks.length p.clocks.c,.int .i64 x.player,.int .i64 x.zeros,.int .i64 x.last.kind,.int .i64 x.last.player,.int .i64 x.last.play.row,.int .i64 x.last.play.col,.bool x.last.play.down,.string x.last.play.word,.string x.last.before,.string x.last.drawn,.int .i64 x.last.score,.int .i64 x.last.zeros,.bool x.over] 37)) 37 [.string x.setup.tiles.letters,.slice q.setup.tiles.values.a x.setup.tiles.values.length q.setup.tiles.values.c,.slice q.setup.tiles.counts.a x.setup.tiles.counts.length q.setup.tiles.counts.c,.int .i64 x.setup.tiles.blanks,.slice q.setup.lexicon.a x.setup.lexicon.length q.setup.lexicon.c,.int .i64 x.setup.board.size,.string x.setup.board.premium,.string x.setup.board.cells,.int .i64 x.setup.seconds,.int .i64 x.setup.rule,.int .i64 x.board.size,.string x.board.premium,.string x.board.cells,.string x.bag,.slice q.racks.a x.racks.length q.racks.c,.slice q.scores.a x.scores.length q.scores.c,.slice q.clocks.a x.clocks.length q.clocks.c,.int .i64 x.player,.int .i64 x.zeros,.int .i64 x.last.kind,.int .i64 x.last.player,.int .i64 x.last.play.row,.int .i64 x.last.play.col,.bool x.last.play.down,.string x.last.play.word,.string x.last.before,.string x.last.drawn,.int .i64 x.last.score,.int .i64 x.last.zeros,.bool x.over]
  simp only [World.size_alloc] at this
  exact Lh this
 have HA:=Lh ha;clear ha
 have HC:=Lh hc;clear hc
 have HW2:=Lh hw2;clear hw2
 go_enter Tryz.func8,Tryz.ntmps8
 go_upto_region 1 with fail
 rw [← HW2.out]
 clear HW2
 have c0:=VA.out.cell (i:=0) rfl
 have d0:=VB.out.cell (i:=0) rfl
 have c1:=VA.out.cell (i:=1) rfl
 have d1:=VB.out.cell (i:=1) rfl
 have c2:=VA.out.cell (i:=2) rfl
 have d2:=VB.out.cell (i:=2) rfl
 have c3:=VA.out.cell (i:=3) rfl
 have d3:=VB.out.cell (i:=3) rfl
 have c4:=VA.out.cell (i:=4) rfl
 have d4:=VB.out.cell (i:=4) rfl
 have c5:=VA.out.cell (i:=5) rfl
 have d5:=VB.out.cell (i:=5) rfl
 have c6:=VA.out.cell (i:=6) rfl
 have d6:=VB.out.cell (i:=6) rfl
 have c7:=VA.out.cell (i:=7) rfl
 have d7:=VB.out.cell (i:=7) rfl
 have c8:=VA.out.cell (i:=8) rfl
 have d8:=VB.out.cell (i:=8) rfl
 have c9:=VA.out.cell (i:=9) rfl
 have d9:=VB.out.cell (i:=9) rfl
 have c10:=VA.out.cell (i:=10) rfl
 have d10:=VB.out.cell (i:=10) rfl
 have c11:=VA.out.cell (i:=11) rfl
 have d11:=VB.out.cell (i:=11) rfl
 have c12:=VA.out.cell (i:=12) rfl
 have d12:=VB.out.cell (i:=12) rfl
 have c13:=VA.out.cell (i:=13) rfl
 have d13:=VB.out.cell (i:=13) rfl
 have c14:=VA.out.cell (i:=14) rfl
 have d14:=VB.out.cell (i:=14) rfl
 have c15:=VA.out.cell (i:=15) rfl
 have d15:=VB.out.cell (i:=15) rfl
 have c16:=VA.out.cell (i:=16) rfl
 have d16:=VB.out.cell (i:=16) rfl
 have c17:=VA.out.cell (i:=17) rfl
 have d17:=VB.out.cell (i:=17) rfl
 have c18:=VA.out.cell (i:=18) rfl
 have d18:=VB.out.cell (i:=18) rfl
 have c19:=VA.out.cell (i:=19) rfl
 have d19:=VB.out.cell (i:=19) rfl
 have c20:=VA.out.cell (i:=20) rfl
 have d20:=VB.out.cell (i:=20) rfl
 have c21:=VA.out.cell (i:=21) rfl
 have d21:=VB.out.cell (i:=21) rfl
 have c22:=VA.out.cell (i:=22) rfl
 have d22:=VB.out.cell (i:=22) rfl
 have c23:=VA.out.cell (i:=23) rfl
 have d23:=VB.out.cell (i:=23) rfl
 have c24:=VA.out.cell (i:=24) rfl
 have d24:=VB.out.cell (i:=24) rfl
 have c25:=VA.out.cell (i:=25) rfl
 have d25:=VB.out.cell (i:=25) rfl
 have c26:=VA.out.cell (i:=26) rfl
 have d26:=VB.out.cell (i:=26) rfl
 have c27:=VA.out.cell (i:=27) rfl
 have d27:=VB.out.cell (i:=27) rfl
 have c28:=VA.out.cell (i:=28) rfl
 have d28:=VB.out.cell (i:=28) rfl
 have c29:=VA.out.cell (i:=29) rfl
 have d29:=VB.out.cell (i:=29) rfl
 go_wp2_with fail
 refine (eqSetup_any x.setup p.setup q.setup _ (Stp.At.kept HA.out.1 hb) (Stp.At.kept HC.out.1 hb) (HF.out.1)).mono ?_
 rintro e w3 ⟨rfl,hd⟩
 replace hb:=hb.trans (hd.mono hb.size)
 replace c0:=cell_kept c0 hd
 replace d0:=cell_kept d0 hd
 replace c1:=cell_kept c1 hd
 replace d1:=cell_kept d1 hd
 replace c2:=cell_kept c2 hd
 replace d2:=cell_kept d2 hd
 replace c3:=cell_kept c3 hd
 replace d3:=cell_kept d3 hd
 replace c4:=cell_kept c4 hd
 replace d4:=cell_kept d4 hd
 replace c5:=cell_kept c5 hd
 replace d5:=cell_kept d5 hd
 replace c6:=cell_kept c6 hd
 replace d6:=cell_kept d6 hd
 replace c7:=cell_kept c7 hd
 replace d7:=cell_kept d7 hd
 replace c8:=cell_kept c8 hd
 replace d8:=cell_kept d8 hd
 replace c9:=cell_kept c9 hd
 replace d9:=cell_kept d9 hd
 replace c10:=cell_kept c10 hd
 replace d10:=cell_kept d10 hd
 replace c11:=cell_kept c11 hd
 replace d11:=cell_kept d11 hd
 replace c12:=cell_kept c12 hd
 replace d12:=cell_kept d12 hd
 replace c13:=cell_kept c13 hd
 replace d13:=cell_kept d13 hd
 replace c14:=cell_kept c14 hd
 replace d14:=cell_kept d14 hd
 replace c15:=cell_kept c15 hd
 replace d15:=cell_kept d15 hd
 replace c16:=cell_kept c16 hd
 replace d16:=cell_kept d16 hd
 replace c17:=cell_kept c17 hd
 replace d17:=cell_kept d17 hd
 replace c18:=cell_kept c18 hd
 replace d18:=cell_kept d18 hd
 replace c19:=cell_kept c19 hd
 replace d19:=cell_kept d19 hd
 replace c20:=cell_kept c20 hd
 replace d20:=cell_kept d20 hd
 replace c21:=cell_kept c21 hd
 replace d21:=cell_kept d21 hd
 replace c22:=cell_kept c22 hd
 replace d22:=cell_kept d22 hd
 replace c23:=cell_kept c23 hd
 replace d23:=cell_kept d23 hd
 replace c24:=cell_kept c24 hd
 replace d24:=cell_kept d24 hd
 replace c25:=cell_kept c25 hd
 replace d25:=cell_kept d25 hd
 replace c26:=cell_kept c26 hd
 replace d26:=cell_kept d26 hd
 replace c27:=cell_kept c27 hd
 replace d27:=cell_kept d27 hd
 replace c28:=cell_kept c28 hd
 replace d28:=cell_kept d28 hd
 replace c29:=cell_kept c29 hd
 replace d29:=cell_kept d29 hd
 clear hd
 go_wp2_with fail
 refine (eqBoard_any x.board _).mono ?_
 rintro e w4 ⟨rfl,hd⟩
 replace hb:=hb.trans (hd.mono hb.size)
 replace c0:=cell_kept c0 hd
 replace d0:=cell_kept d0 hd
 replace c1:=cell_kept c1 hd
 replace d1:=cell_kept d1 hd
 replace c2:=cell_kept c2 hd
 replace d2:=cell_kept d2 hd
 replace c3:=cell_kept c3 hd
 replace d3:=cell_kept d3 hd
 replace c4:=cell_kept c4 hd
 replace d4:=cell_kept d4 hd
 replace c5:=cell_kept c5 hd
 replace d5:=cell_kept d5 hd
 replace c6:=cell_kept c6 hd
 replace d6:=cell_kept d6 hd
 replace c7:=cell_kept c7 hd
 replace d7:=cell_kept d7 hd
 replace c8:=cell_kept c8 hd
 replace d8:=cell_kept d8 hd
 replace c9:=cell_kept c9 hd
 replace d9:=cell_kept d9 hd
 replace c10:=cell_kept c10 hd
 replace d10:=cell_kept d10 hd
 replace c11:=cell_kept c11 hd
 replace d11:=cell_kept d11 hd
 replace c12:=cell_kept c12 hd
 replace d12:=cell_kept d12 hd
 replace c13:=cell_kept c13 hd
 replace d13:=cell_kept d13 hd
 replace c14:=cell_kept c14 hd
 replace d14:=cell_kept d14 hd
 replace c15:=cell_kept c15 hd
 replace d15:=cell_kept d15 hd
 replace c16:=cell_kept c16 hd
 replace d16:=cell_kept d16 hd
 replace c17:=cell_kept c17 hd
 replace d17:=cell_kept d17 hd
 replace c18:=cell_kept c18 hd
 replace d18:=cell_kept d18 hd
 replace c19:=cell_kept c19 hd
 replace d19:=cell_kept d19 hd
 replace c20:=cell_kept c20 hd
 replace d20:=cell_kept d20 hd
 replace c21:=cell_kept c21 hd
 replace d21:=cell_kept d21 hd
 replace c22:=cell_kept c22 hd
 replace d22:=cell_kept d22 hd
 replace c23:=cell_kept c23 hd
 replace d23:=cell_kept d23 hd
 replace c24:=cell_kept c24 hd
 replace d24:=cell_kept d24 hd
 replace c25:=cell_kept c25 hd
 replace d25:=cell_kept d25 hd
 replace c26:=cell_kept c26 hd
 replace d26:=cell_kept d26 hd
 replace c27:=cell_kept c27 hd
 replace d27:=cell_kept d27 hd
 replace c28:=cell_kept c28 hd
 replace d28:=cell_kept d28 hd
 replace c29:=cell_kept c29 hd
 replace d29:=cell_kept d29 hd
 clear hd
 go_wp2_with fail
 refine (eqStringS_any x.racks p.racks.a q.racks.a p.racks.c q.racks.c _ ((HA.out.2.1).kept hb) ((HC.out.2.1).kept hb) HF.out.2.2.2.1.1).mono ?_
 rintro e w5 ⟨rfl,hd⟩
 replace hb:=hb.trans (hd.mono hb.size)
 replace c0:=cell_kept c0 hd
 replace d0:=cell_kept d0 hd
 replace c1:=cell_kept c1 hd
 replace d1:=cell_kept d1 hd
 replace c2:=cell_kept c2 hd
 replace d2:=cell_kept d2 hd
 replace c3:=cell_kept c3 hd
 replace d3:=cell_kept d3 hd
 replace c4:=cell_kept c4 hd
 replace d4:=cell_kept d4 hd
 replace c5:=cell_kept c5 hd
 replace d5:=cell_kept d5 hd
 replace c6:=cell_kept c6 hd
 replace d6:=cell_kept d6 hd
 replace c7:=cell_kept c7 hd
 replace d7:=cell_kept d7 hd
 replace c8:=cell_kept c8 hd
 replace d8:=cell_kept d8 hd
 replace c9:=cell_kept c9 hd
 replace d9:=cell_kept d9 hd
 replace c10:=cell_kept c10 hd
 replace d10:=cell_kept d10 hd
 replace c11:=cell_kept c11 hd
 replace d11:=cell_kept d11 hd
 replace c12:=cell_kept c12 hd
 replace d12:=cell_kept d12 hd
 replace c13:=cell_kept c13 hd
 replace d13:=cell_kept d13 hd
 replace c14:=cell_kept c14 hd
 replace d14:=cell_kept d14 hd
 replace c15:=cell_kept c15 hd
 replace d15:=cell_kept d15 hd
 replace c16:=cell_kept c16 hd
 replace d16:=cell_kept d16 hd
 replace c17:=cell_kept c17 hd
 replace d17:=cell_kept d17 hd
 replace c18:=cell_kept c18 hd
 replace d18:=cell_kept d18 hd
 replace c19:=cell_kept c19 hd
 replace d19:=cell_kept d19 hd
 replace c20:=cell_kept c20 hd
 replace d20:=cell_kept d20 hd
 replace c21:=cell_kept c21 hd
 replace d21:=cell_kept d21 hd
 replace c22:=cell_kept c22 hd
 replace d22:=cell_kept d22 hd
 replace c23:=cell_kept c23 hd
 replace d23:=cell_kept d23 hd
 replace c24:=cell_kept c24 hd
 replace d24:=cell_kept d24 hd
 replace c25:=cell_kept c25 hd
 replace d25:=cell_kept d25 hd
 replace c26:=cell_kept c26 hd
 replace d26:=cell_kept d26 hd
 replace c27:=cell_kept c27 hd
 replace d27:=cell_kept d27 hd
 replace c28:=cell_kept c28 hd
 replace d28:=cell_kept d28 hd
 replace c29:=cell_kept c29 hd
 replace d29:=cell_kept d29 hd
 clear hd
 go_wp2_with fail
 refine (eqInt64S_any x.scores p.scores.a q.scores.a p.scores.c q.scores.c _ ((HA.out.2.2.1).kept hb) ((HC.out.2.2.1).kept hb) HF.out.2.2.2.2.1).mono ?_
 rintro e w6 ⟨rfl,hd⟩
 replace hb:=hb.trans (hd.mono hb.size)
 replace c0:=cell_kept c0 hd
 replace d0:=cell_kept d0 hd
 replace c1:=cell_kept c1 hd
 replace d1:=cell_kept d1 hd
 replace c2:=cell_kept c2 hd
 replace d2:=cell_kept d2 hd
 replace c3:=cell_kept c3 hd
 replace d3:=cell_kept d3 hd
 replace c4:=cell_kept c4 hd
 replace d4:=cell_kept d4 hd
 replace c5:=cell_kept c5 hd
 replace d5:=cell_kept d5 hd
 replace c6:=cell_kept c6 hd
 replace d6:=cell_kept d6 hd
 replace c7:=cell_kept c7 hd
 replace d7:=cell_kept d7 hd
 replace c8:=cell_kept c8 hd
 replace d8:=cell_kept d8 hd
 replace c9:=cell_kept c9 hd
 replace d9:=cell_kept d9 hd
 replace c10:=cell_kept c10 hd
 replace d10:=cell_kept d10 hd
 replace c11:=cell_kept c11 hd
 replace d11:=cell_kept d11 hd
 replace c12:=cell_kept c12 hd
 replace d12:=cell_kept d12 hd
 replace c13:=cell_kept c13 hd
 replace d13:=cell_kept d13 hd
 replace c14:=cell_kept c14 hd
 replace d14:=cell_kept d14 hd
 replace c15:=cell_kept c15 hd
 replace d15:=cell_kept d15 hd
 replace c16:=cell_kept c16 hd
 replace d16:=cell_kept d16 hd
 replace c17:=cell_kept c17 hd
 replace d17:=cell_kept d17 hd
 replace c18:=cell_kept c18 hd
 replace d18:=cell_kept d18 hd
 replace c19:=cell_kept c19 hd
 replace d19:=cell_kept d19 hd
 replace c20:=cell_kept c20 hd
 replace d20:=cell_kept d20 hd
 replace c21:=cell_kept c21 hd
 replace d21:=cell_kept d21 hd
 replace c22:=cell_kept c22 hd
 replace d22:=cell_kept d22 hd
 replace c23:=cell_kept c23 hd
 replace d23:=cell_kept d23 hd
 replace c24:=cell_kept c24 hd
 replace d24:=cell_kept d24 hd
 replace c25:=cell_kept c25 hd
 replace d25:=cell_kept d25 hd
 replace c26:=cell_kept c26 hd
 replace d26:=cell_kept d26 hd
 replace c27:=cell_kept c27 hd
 replace d27:=cell_kept d27 hd
 replace c28:=cell_kept c28 hd
 replace d28:=cell_kept d28 hd
 replace c29:=cell_kept c29 hd
 replace d29:=cell_kept d29 hd
 clear hd
 go_wp2_with fail
 refine (eqInt64S_any x.clocks p.clocks.a q.clocks.a p.clocks.c q.clocks.c _ ((HA.out.2.2.2).kept hb) ((HC.out.2.2.2).kept hb) HF.out.2.2.2.2.2.1).mono ?_
 rintro e w7 ⟨rfl,hd⟩
 replace hb:=hb.trans (hd.mono hb.size)
 replace c0:=cell_kept c0 hd
 replace d0:=cell_kept d0 hd
 replace c1:=cell_kept c1 hd
 replace d1:=cell_kept d1 hd
 replace c2:=cell_kept c2 hd
 replace d2:=cell_kept d2 hd
 replace c3:=cell_kept c3 hd
 replace d3:=cell_kept d3 hd
 replace c4:=cell_kept c4 hd
 replace d4:=cell_kept d4 hd
 replace c5:=cell_kept c5 hd
 replace d5:=cell_kept d5 hd
 replace c6:=cell_kept c6 hd
 replace d6:=cell_kept d6 hd
 replace c7:=cell_kept c7 hd
 replace d7:=cell_kept d7 hd
 replace c8:=cell_kept c8 hd
 replace d8:=cell_kept d8 hd
 replace c9:=cell_kept c9 hd
 replace d9:=cell_kept d9 hd
 replace c10:=cell_kept c10 hd
 replace d10:=cell_kept d10 hd
 replace c11:=cell_kept c11 hd
 replace d11:=cell_kept d11 hd
 replace c12:=cell_kept c12 hd
 replace d12:=cell_kept d12 hd
 replace c13:=cell_kept c13 hd
 replace d13:=cell_kept d13 hd
 replace c14:=cell_kept c14 hd
 replace d14:=cell_kept d14 hd
 replace c15:=cell_kept c15 hd
 replace d15:=cell_kept d15 hd
 replace c16:=cell_kept c16 hd
 replace d16:=cell_kept d16 hd
 replace c17:=cell_kept c17 hd
 replace d17:=cell_kept d17 hd
 replace c18:=cell_kept c18 hd
 replace d18:=cell_kept d18 hd
 replace c19:=cell_kept c19 hd
 replace d19:=cell_kept d19 hd
 replace c20:=cell_kept c20 hd
 replace d20:=cell_kept d20 hd
 replace c21:=cell_kept c21 hd
 replace d21:=cell_kept d21 hd
 replace c22:=cell_kept c22 hd
 replace d22:=cell_kept d22 hd
 replace c23:=cell_kept c23 hd
 replace d23:=cell_kept d23 hd
 replace c24:=cell_kept c24 hd
 replace d24:=cell_kept d24 hd
 replace c25:=cell_kept c25 hd
 replace d25:=cell_kept d25 hd
 replace c26:=cell_kept c26 hd
 replace d26:=cell_kept d26 hd
 replace c27:=cell_kept c27 hd
 replace d27:=cell_kept d27 hd
 replace c28:=cell_kept c28 hd
 replace d28:=cell_kept d28 hd
 replace c29:=cell_kept c29 hd
 replace d29:=cell_kept d29 hd
 clear hd
 go_wp2_with fail
 refine (eqLast_any x.last _).mono ?_
 rintro e w8 ⟨rfl,hd⟩
 replace hb:=hb.trans (hd.mono hb.size)
 replace c0:=cell_kept c0 hd
 replace d0:=cell_kept d0 hd
 replace c1:=cell_kept c1 hd
 replace d1:=cell_kept d1 hd
 replace c2:=cell_kept c2 hd
 replace d2:=cell_kept d2 hd
 replace c3:=cell_kept c3 hd
 replace d3:=cell_kept d3 hd
 replace c4:=cell_kept c4 hd
 replace d4:=cell_kept d4 hd
 replace c5:=cell_kept c5 hd
 replace d5:=cell_kept d5 hd
 replace c6:=cell_kept c6 hd
 replace d6:=cell_kept d6 hd
 replace c7:=cell_kept c7 hd
 replace d7:=cell_kept d7 hd
 replace c8:=cell_kept c8 hd
 replace d8:=cell_kept d8 hd
 replace c9:=cell_kept c9 hd
 replace d9:=cell_kept d9 hd
 replace c10:=cell_kept c10 hd
 replace d10:=cell_kept d10 hd
 replace c11:=cell_kept c11 hd
 replace d11:=cell_kept d11 hd
 replace c12:=cell_kept c12 hd
 replace d12:=cell_kept d12 hd
 replace c13:=cell_kept c13 hd
 replace d13:=cell_kept d13 hd
 replace c14:=cell_kept c14 hd
 replace d14:=cell_kept d14 hd
 replace c15:=cell_kept c15 hd
 replace d15:=cell_kept d15 hd
 replace c16:=cell_kept c16 hd
 replace d16:=cell_kept d16 hd
 replace c17:=cell_kept c17 hd
 replace d17:=cell_kept d17 hd
 replace c18:=cell_kept c18 hd
 replace d18:=cell_kept d18 hd
 replace c19:=cell_kept c19 hd
 replace d19:=cell_kept d19 hd
 replace c20:=cell_kept c20 hd
 replace d20:=cell_kept d20 hd
 replace c21:=cell_kept c21 hd
 replace d21:=cell_kept d21 hd
 replace c22:=cell_kept c22 hd
 replace d22:=cell_kept d22 hd
 replace c23:=cell_kept c23 hd
 replace d23:=cell_kept d23 hd
 replace c24:=cell_kept c24 hd
 replace d24:=cell_kept d24 hd
 replace c25:=cell_kept c25 hd
 replace d25:=cell_kept d25 hd
 replace c26:=cell_kept c26 hd
 replace d26:=cell_kept d26 hd
 replace c27:=cell_kept c27 hd
 replace d27:=cell_kept d27 hd
 replace c28:=cell_kept c28 hd
 replace d28:=cell_kept d28 hd
 replace c29:=cell_kept c29 hd
 replace d29:=cell_kept d29 hd
 clear hd
 go_wp2
 go_ret
 exact ⟨rfl,hb⟩
end Go.Proofs.YtgphkffbbmmmmaaGreatDoor

namespace Go.Proofs.YtgphkffbbmmmmaaGreatDoor
open Go.ChangeShapes Go.WideShapes Go.ChangeAt Go.RowKit Go.Sort

/-- its rows lie in blocks of their own -/
def GaA.apart (q:GaA):Prop:=q.setup.apart∧(offA q.setup.tiles.values.a q.racks.a∧offA q.setup.tiles.counts.a q.racks.a∧offA q.setup.lexicon.a q.racks.a)∧(offA q.setup.tiles.values.a q.scores.a∧offA q.setup.tiles.counts.a q.scores.a∧offA q.setup.lexicon.a q.scores.a)∧offA q.racks.a q.scores.a∧(offA q.setup.tiles.values.a q.clocks.a∧offA q.setup.tiles.counts.a q.clocks.a∧offA q.setup.lexicon.a q.clocks.a)∧offA q.racks.a q.clocks.a∧offA q.scores.a q.clocks.a
end Go.Proofs.YtgphkffbbmmmmaaGreatDoor
