/- Contracts: the statements' own size, copy and comparison of a grid and of a lexicon. No condition but that a length fits an int. -/
import Derived.Test.YtoeoijkhlpacdaaDoorTStr
import Derived.Test.YtoeoijkhlpacdaaDoorTInt
namespace Go.Proofs.YtoeoijkhlpacdaaDoor
open Go.ChangeShapes Go.WideShapes Go.ChangeAt Go.RowKit Go.Sort

/-- a lexicon in new memory -/
def LexPost (w : World) (ms : List ByteArray) (en : Ending) (w' : World) : Prop :=
  ∃ g, en = .returned (.agg #[.slice (some ⟨g, 0, none⟩) ms.length ms.length]) ∧ w'.ownsRow w.heap.size 9 1 (.slice (some ⟨g, 0, none⟩) ms.length ms.length) ms.length (ms.flatMap Tx.enc) ∧ Below w.heap.size w w'
end Go.Proofs.YtoeoijkhlpacdaaDoor
