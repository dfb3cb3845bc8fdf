/- Contracts: the reference's board after a play. For valid boards and plays. · Plain lemmas: how the model compares two boards, two last actions. No condition. · Contracts: the reference's test of games. No condition but that lengths fit an int. -/
import Derived.Test.YtgphkffbbmmmmaaGreatDoorPlbC
import Derived.Test.YtgphkffbbmmmmaaGreatDoorPlaD
import Derived.Test.YtgphkffbbmmmmaaGreatDoorBase
import Derived.Laws.StructEq
import Derived.ChangeKeysEq
import Derived.Test.YtgphkffbbmmmmaaGreatDoorGmS
namespace Go.Proofs.YtgphkffbbmmmmaaGreatDoor
open Go.ChangeShapes Go.WideShapes Go.ChangeAt Go.RowKit Go.Sort

/-! ### Plain: the board after a play is found on the turned board too -/
end Go.Proofs.YtgphkffbbmmmmaaGreatDoor
namespace Go.Proofs.YtgphkffbbmmmmaaGreatDoor
open Go.ChangeShapes Go.WideShapes Go.ChangeAt Go.RowKit Go.Sort

end Go.Proofs.YtgphkffbbmmmmaaGreatDoor
namespace Go.Proofs.YtgphkffbbmmmmaaGreatDoor
open Go.ChangeShapes Go.WideShapes Go.ChangeAt Go.RowKit Go.Sort

/-- the cells of a game -/
def gcells (x:Gam) (p:GaA):List Value:=[.string x.setup.tiles.letters,.slice p.setup.tiles.values.a x.setup.tiles.values.length p.setup.tiles.values.c,.slice p.setup.tiles.counts.a x.setup.tiles.counts.length p.setup.tiles.counts.c,.int .i64 x.setup.tiles.blanks,.slice p.setup.lexicon.a x.setup.lexicon.length p.setup.lexicon.c,.int .i64 x.setup.board.size,.string x.setup.board.premium,.string x.setup.board.cells,.int .i64 x.setup.seconds,.int .i64 x.setup.rule,.int .i64 x.board.size,.string x.board.premium,.string x.board.cells,.string x.bag,.slice p.racks.a x.racks.length p.racks.c,.slice p.scores.a x.scores.length p.scores.c,.slice p.clocks.a x.clocks.length p.clocks.c,.int .i64 x.player,.int .i64 x.zeros,.int .i64 x.last.kind,.int .i64 x.last.player,.int .i64 x.last.play.row,.int .i64 x.last.play.col,.bool x.last.play.down,.string x.last.play.word,.string x.last.before,.string x.last.drawn,.int .i64 x.last.score,.int .i64 x.last.zeros,.bool x.over]
/-- a game lies in a block -/
structure GAt (w:World) (g:Nat) (x:Gam) (p:GaA):Prop where
 cells:w.rangeAt g 0 (gcells x p)
 at_:x.At p w
theorem GAt.cell {w:World} {g:Nat} {x:Gam} {p:GaA} (h:GAt w g x p) {i:Nat} {v:Value} (hi:(gcells x p)[i]?=some v):w.cell? ⟨g,i,none⟩=some v:=by
 have:=h.cells i v hi
 rwa [Nat.zero_add] at this
theorem GAt.kept {w w':World} {g:Nat} {x:Gam} {p:GaA} (h:GAt w g x p) (hb:Below w.heap.size w w'):GAt w' g x p :=
 ⟨fun j v hv=>cell_kept (h.cells j v hv) hb,Gam.At.kept h.at_ hb⟩
theorem GAt.lt {w:World} {g:Nat} {x:Gam} {p:GaA} (h:GAt w g x p):g < w.heap.size:=block_lt (h.cell (i:=0) rfl)
theorem GAt.new (w:World) (x:Gam) (p:GaA) (t:TypeId) (h:x.At p w):GAt (w.alloc (.cells (gcells x p).toArray t)) w.heap.size x p :=
 ⟨(VarAt.new w t (gcells x p)).range,Gam.At.kept h ((Below.refl _ _).alloc (Nat.le_refl _) _)⟩
theorem GAt.tiles {w:World} {g:Nat} {x:Gam} {p:GaA} (h:GAt w g x p):TAt w g x.setup.tiles p.setup.tiles :=
 ⟨⟨h.cell (i:=0) rfl,h.cell (i:=1) rfl,h.cell (i:=2) rfl,h.cell (i:=3) rfl⟩,h.at_.1.1⟩
theorem GAt.setup {w:World} {g:Nat} {x:Gam} {p:GaA} (h:GAt w g x p):SAt w g x.setup p.setup :=
 ⟨h.tiles,h.cell (i:=4) rfl,h.at_.1.2,⟨h.cell (i:=5) rfl,h.cell (i:=6) rfl,h.cell (i:=7) rfl⟩,h.cell (i:=8) rfl,h.cell (i:=9) rfl⟩
theorem GAt.board {w:World} {g:Nat} {x:Gam} {p:GaA} (h:GAt w g x p):BAt w g 10 x.board :=
 ⟨h.cell (i:=10) rfl,h.cell (i:=11) rfl,h.cell (i:=12) rfl⟩
theorem size_game (x:Gam) (p:GaA):(Tryz.prog.info? 37).map (·.size)=some (gcells x p).length:=by kernel_rfl
def scells (s:Stp) (q:StA):List Value:=[.string s.tiles.letters,.slice q.tiles.values.a s.tiles.values.length q.tiles.values.c,.slice q.tiles.counts.a s.tiles.counts.length q.tiles.counts.c,.int .i64 s.tiles.blanks,.slice q.lexicon.a s.lexicon.length q.lexicon.c,.int .i64 s.board.size,.string s.board.premium,.string s.board.cells,.int .i64 s.seconds,.int .i64 s.rule]
def szero:List Value:=[.string ⟨#[]⟩,.slice none 0 0,.slice none 0 0,.int .i64 0,.slice none 0 0,.int .i64 0,.string ⟨#[]⟩,.string ⟨#[]⟩,.int .i64 0,.int .i64 0]
theorem size_setup (s:Stp) (q:StA):(Tryz.prog.info? 31).map (·.size)=some (scells s q).length:=by kernel_rfl
theorem scells_one (s:Stp) (q:StA):∀ v∈scells s q,v.oneCell'=true:=by
 intro v hv
 simp only [scells,List.mem_cons,List.not_mem_nil,or_false] at hv
 rcases hv with rfl | rfl | rfl | rfl | rfl | rfl | rfl | rfl | rfl | rfl<;>rfl
theorem GAt.scells {w:World} {g:Nat} {x:Gam} {p:GaA} (h:GAt w g x p):w.rangeAt g 0 (scells x.setup p.setup):=fun j v hv=>h.cells j v (by
 have hj:j < (Go.Proofs.YtgphkffbbmmmmaaGreatDoor.scells x.setup p.setup).length:=(List.getElem?_eq_some_iff.1 hv).1
 have e:gcells x p=Go.Proofs.YtgphkffbbmmmmaaGreatDoor.scells x.setup p.setup++(gcells x p).drop 10:=rfl
 rw [e,List.getElem?_append_left hj]
 exact hv)
end Go.Proofs.YtgphkffbbmmmmaaGreatDoor
