/- Plain: the cells of a game (for a seat without the games' functions). No condition. -/
import Derived.Test.YtalnbgcdhcnjfaaGam
namespace Go.Proofs.Ytalnbgcdhcnjfaa
open Go.ChangeShapes Go.WideShapes Go.ChangeAt Go.RowKit Go.Sort

/-- the cells of a game -/
def gcells (x : Gam) (p : GaA) : List Value := [.string x.setup.tiles.letters, .slice p.setup.tiles.values.a x.setup.tiles.values.length p.setup.tiles.values.c, .slice p.setup.tiles.counts.a x.setup.tiles.counts.length p.setup.tiles.counts.c, .int .i64 x.setup.tiles.blanks, .slice p.setup.lexicon.a x.setup.lexicon.length p.setup.lexicon.c, .int .i64 x.setup.board.size, .string x.setup.board.premium, .string x.setup.board.cells, .int .i64 x.setup.seconds, .int .i64 x.setup.rule, .int .i64 x.board.size, .string x.board.premium, .string x.board.cells, .string x.bag, .slice p.racks.a x.racks.length p.racks.c, .slice p.scores.a x.scores.length p.scores.c, .slice p.clocks.a x.clocks.length p.clocks.c, .int .i64 x.player, .int .i64 x.zeros, .int .i64 x.last.kind, .int .i64 x.last.player, .int .i64 x.last.play.row, .int .i64 x.last.play.col, .bool x.last.play.down, .string x.last.play.word, .string x.last.before, .string x.last.drawn, .int .i64 x.last.score, .int .i64 x.last.zeros, .bool x.over]
theorem size_game (x : Gam) (p : GaA) : (Try.prog.info? 51).map (·.size) = some (gcells x p).length := by kernel_rfl
def szero : List Value := [.string ⟨#[]⟩, .slice none 0 0, .slice none 0 0, .int .i64 0, .slice none 0 0, .int .i64 0, .string ⟨#[]⟩, .string ⟨#[]⟩, .int .i64 0, .int .i64 0]
end Go.Proofs.Ytalnbgcdhcnjfaa
