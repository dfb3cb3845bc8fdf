/- The statements' own functions on []int64 (sz, to, eq, mark, held): what they compute. No condition but bounds on sizes. -/
import Derived.Test.YtoeoijkhlpacdaaDoorTx
import Derived.Test.YtoeoijkhlpacdaaDoorText
namespace Go.Proofs.YtoeoijkhlpacdaaDoor
open Go.ChangeShapes Go.WideShapes Go.ChangeAt Go.RowKit Go.Sort

/-- elements that bear the marks from c on; n of them -/
def I64.marks (c : Int) (n : Nat) : List Int := (List.range n).map fun (i : Nat) => c + i
theorem I64.marks_len (c : Int) (n : Nat) : (I64.marks c n).length = n := by simp [I64.marks]
theorem I64.marks_get (c : Int) (n : Nat) {k : Nat} (h : k < (I64.marks c n).length) : (I64.marks c n)[k] = c + k := by simp [I64.marks]

end Go.Proofs.YtoeoijkhlpacdaaDoor
