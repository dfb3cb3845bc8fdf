/- Contract: the reference reads a word of a tile set's text: where all is well, and the empt · Contracts: the reference reads a tile set's text, and has the standard tile sets. -/
import Derived.Test.YtgphkffbbmmmmaaGreatDoorMkE
import Derived.StillTailTactics
import Derived.StillTail
namespace Go.Proofs.YtgphkffbbmmmmaaGreatDoor
open Go.ChangeShapes Go.WideShapes Go.ChangeAt Go.RowKit Go.Sort

end Go.Proofs.YtgphkffbbmmmmaaGreatDoor
namespace Go.Proofs.YtgphkffbbmmmmaaGreatDoor
open Go.ChangeShapes Go.WideShapes Go.ChangeAt Go.RowKit Go.Sort

/-- a tile set whose rows are there, and a second value -/
def TlPost (t:Tls) (v:Value) (w:World) (e:Ending) (w':World):Prop :=
 ∃ q:TlA,e=.returned (.tuple #[.agg #[.string t.letters,.slice q.values.a t.values.length q.values.c,.slice q.counts.a t.counts.length q.counts.c,.int .i64 t.blanks],v])∧t.Own q w.heap.size w'∧Below w.heap.size w w'
def zTls:Value:=.agg #[.string ⟨#[]⟩,.slice none 0 0,.slice none 0 0,.int .i64 0]
end Go.Proofs.YtgphkffbbmmmmaaGreatDoor
