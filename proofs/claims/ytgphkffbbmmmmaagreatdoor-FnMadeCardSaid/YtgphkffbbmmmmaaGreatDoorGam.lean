/- Contracts: the statements' own functions of Setup (sz, to, eq). No condition but that a length fits an int. · Contracts: the statements' own functions of Last (sz, to, eq). No condition but that a length fits an int. · Contracts: the statements' own functions of Game (sz, eq). No condition but that a length fits an int. · Contracts: the statements' own functions of Game (to). No condition but that a length fits an int. -/
import Derived.Test.YtgphkffbbmmmmaaGreatDoorTiC
import Derived.Test.YtgphkffbbmmmmaaGreatDoorVar
import Derived.Test.YtgphkffbbmmmmaaGreatDoorFrame
namespace Go.Proofs.YtgphkffbbmmmmaaGreatDoor
open Go.ChangeShapes Go.WideShapes Go.ChangeAt Go.RowKit Go.Sort

structure Stp where
 tiles:Tls
 lexicon:List ByteArray
 board:Brd
 seconds:Int
 rule:Int
/-- where its rows lie -/
structure StA where
 tiles:TlA
 lexicon:Rwa
def Stp.At (x:Stp) (p:StA) (w:World):Prop:=x.tiles.At p.tiles w∧SliceAt w 1 Tx.enc p.lexicon.a x.lexicon
theorem Stp.At.kept {x:Stp} {p:StA} {w w':World} (h:x.At p w) (hb:Below w.heap.size w w'):x.At p w':=⟨Tls.At.kept h.1 hb,h.2.kept hb⟩
/-- its rows are of the call's own -/
def Stp.Own (x:Stp) (p:StA) (base:Nat) (w:World):Prop:=x.tiles.Own p.tiles base w∧w.ownsRow base 9 1 (.slice p.lexicon.a x.lexicon.length p.lexicon.c) x.lexicon.length (x.lexicon.flatMap Tx.enc)
theorem Stp.Own.at {x:Stp} {p:StA} {base:Nat} {w:World} (h:x.Own p base w):x.At p w:=⟨Tls.Own.at h.1,own_slice Tx.enc_len h.2 rfl⟩
theorem Stp.Own.kept {x:Stp} {p:StA} {base:Nat} {w w':World} (h:x.Own p base w) (hb:Below w.heap.size w w'):x.Own p base w':=⟨Tls.Own.kept h.1 hb,own_below h.2 hb⟩
theorem Stp.Own.mono {x:Stp} {p:StA} {base base':Nat} {w:World} (h:x.Own p base w) (hb:base'≤base):x.Own p base' w:=⟨Tls.Own.mono h.1 hb,own_mono h.2 hb⟩
theorem Stp.Own.store {x:Stp} {p:StA} {base g:Nat} {w w':World} (h:x.Own p base w) (hg:w.grownBy w' (some g)) (hlt:g < base):x.Own p base w':=⟨Tls.Own.store h.1 hg hlt,row_store h.2 hg hlt⟩
def Stp.fit (x:Stp):Prop:=x.tiles.fit∧(x.lexicon.length≤9223372036854775807∧∀ m∈x.lexicon,m.size≤9223372036854775807)∧x.board.fit
def Stp.sz (x:Stp):Nat:=x.tiles.sz+(x.lexicon.length+szAll ByteArray.size x.lexicon)+x.board.sz
def Stp.small (x:Stp):Prop:=x.tiles.small∧x.lexicon.length≤1048576
/-- its rows lie in blocks of their own -/
def StA.apart (q:StA):Prop:=offA q.tiles.values.a q.tiles.counts.a∧offA q.tiles.values.a q.lexicon.a∧offA q.tiles.counts.a q.lexicon.a
end Go.Proofs.YtgphkffbbmmmmaaGreatDoor

namespace Go.Proofs.YtgphkffbbmmmmaaGreatDoor
open Go.ChangeShapes Go.WideShapes Go.ChangeAt Go.RowKit Go.Sort

structure Lst where
 kind:Int
 player:Int
 play:Ply
 before:ByteArray
 drawn:ByteArray
 score:Int
 zeros:Int
def Lst.fit (x:Lst):Prop:=x.play.fit∧x.before.size≤9223372036854775807∧x.drawn.size≤9223372036854775807
def Lst.sz (x:Lst):Nat:=x.play.sz+x.before.size+x.drawn.size
end Go.Proofs.YtgphkffbbmmmmaaGreatDoor

namespace Go.Proofs.YtgphkffbbmmmmaaGreatDoor
open Go.ChangeShapes Go.WideShapes Go.ChangeAt Go.RowKit Go.Sort

structure Gam where
 setup:Stp
 board:Brd
 bag:ByteArray
 racks:List ByteArray
 scores:List Int
 clocks:List Int
 player:Int
 zeros:Int
 last:Lst
 over:Bool
/-- where its rows lie -/
structure GaA where
 setup:StA
 racks:Rwa
 scores:Rwa
 clocks:Rwa
def Gam.At (x:Gam) (p:GaA) (w:World):Prop:=x.setup.At p.setup w∧SliceAt w 1 Tx.enc p.racks.a x.racks∧SliceAt w 1 I64.enc p.scores.a x.scores∧SliceAt w 1 I64.enc p.clocks.a x.clocks
theorem Gam.At.kept {x:Gam} {p:GaA} {w w':World} (h:x.At p w) (hb:Below w.heap.size w w'):x.At p w':=⟨Stp.At.kept h.1 hb,h.2.1.kept hb,h.2.2.1.kept hb,h.2.2.2.kept hb⟩
/-- its rows are of the call's own -/
def Gam.Own (x:Gam) (p:GaA) (base:Nat) (w:World):Prop:=x.setup.Own p.setup base w∧w.ownsRow base 9 1 (.slice p.racks.a x.racks.length p.racks.c) x.racks.length (x.racks.flatMap Tx.enc)∧w.ownsRow base 2 1 (.slice p.scores.a x.scores.length p.scores.c) x.scores.length (x.scores.flatMap I64.enc)∧w.ownsRow base 2 1 (.slice p.clocks.a x.clocks.length p.clocks.c) x.clocks.length (x.clocks.flatMap I64.enc)
theorem Gam.Own.at {x:Gam} {p:GaA} {base:Nat} {w:World} (h:x.Own p base w):x.At p w:=⟨Stp.Own.at h.1,own_slice Tx.enc_len h.2.1 rfl,own_slice I64.enc_len h.2.2.1 rfl,own_slice I64.enc_len h.2.2.2 rfl⟩
theorem Gam.Own.kept {x:Gam} {p:GaA} {base:Nat} {w w':World} (h:x.Own p base w) (hb:Below w.heap.size w w'):x.Own p base w':=⟨Stp.Own.kept h.1 hb,own_below h.2.1 hb,own_below h.2.2.1 hb,own_below h.2.2.2 hb⟩
theorem Gam.Own.mono {x:Gam} {p:GaA} {base base':Nat} {w:World} (h:x.Own p base w) (hb:base'≤base):x.Own p base' w:=⟨Stp.Own.mono h.1 hb,own_mono h.2.1 hb,own_mono h.2.2.1 hb,own_mono h.2.2.2 hb⟩
theorem Gam.Own.store {x:Gam} {p:GaA} {base g:Nat} {w w':World} (h:x.Own p base w) (hg:w.grownBy w' (some g)) (hlt:g < base):x.Own p base w':=⟨Stp.Own.store h.1 hg hlt,row_store h.2.1 hg hlt,row_store h.2.2.1 hg hlt,row_store h.2.2.2 hg hlt⟩
def Gam.fit (x:Gam):Prop:=x.setup.fit∧x.board.fit∧x.bag.size≤9223372036854775807∧(x.racks.length≤9223372036854775807∧∀ m∈x.racks,m.size≤9223372036854775807)∧x.scores.length≤9223372036854775807∧x.clocks.length≤9223372036854775807∧x.last.fit
def Gam.sz (x:Gam):Nat:=x.setup.sz+x.board.sz+x.bag.size+(x.racks.length+szAll ByteArray.size x.racks)+x.scores.length+x.clocks.length+x.last.sz
def Gam.small (x:Gam):Prop:=x.setup.small∧x.racks.length≤1048576∧x.scores.length≤1048576∧x.clocks.length≤1048576
end Go.Proofs.YtgphkffbbmmmmaaGreatDoor

namespace Go.Proofs.YtgphkffbbmmmmaaGreatDoor
open Go.ChangeShapes Go.WideShapes Go.ChangeAt Go.RowKit Go.Sort

/-- its rows lie in blocks of their own -/
def GaA.apart (q:GaA):Prop:=q.setup.apart∧(offA q.setup.tiles.values.a q.racks.a∧offA q.setup.tiles.counts.a q.racks.a∧offA q.setup.lexicon.a q.racks.a)∧(offA q.setup.tiles.values.a q.scores.a∧offA q.setup.tiles.counts.a q.scores.a∧offA q.setup.lexicon.a q.scores.a)∧offA q.racks.a q.scores.a∧(offA q.setup.tiles.values.a q.clocks.a∧offA q.setup.tiles.counts.a q.clocks.a∧offA q.setup.lexicon.a q.clocks.a)∧offA q.racks.a q.clocks.a∧offA q.scores.a q.clocks.a
end Go.Proofs.YtgphkffbbmmmmaaGreatDoor
