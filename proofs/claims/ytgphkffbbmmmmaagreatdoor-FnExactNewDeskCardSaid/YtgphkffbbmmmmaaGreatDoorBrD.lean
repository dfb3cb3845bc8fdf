/- Contracts: the reference's boards turned over, small letters, strings reversed. For boards of at most 15 rows. · Contracts: the reference's small letters and reversed strings. For strings of at most 2^20 bytes. · Contracts: the program's reversed strings and small letters of ASCII strings. For strings of at most 2^20 bytes. · Contracts: the reference's letters around a square. For valid boards. -/
import Derived.Test.YtgphkffbbmmmmaaGreatDoorBrA
import Derived.Test.YtgphkffbbmmmmaaGreatDoorByt
import Derived.Test.YtgphkffbbmmmmaaGreatDoorVar
import Derived.OwnWalk
import Derived.Laws.AppendOwn
import Derived.Deep.DeepMust
import Derived.Deep.RegionLaw
import Derived.StillTailTactics
import Derived.Test.YtgphkffbbmmmmaaGreatDoorShq
namespace Go.Proofs.YtgphkffbbmmmmaaGreatDoor
open Go.ChangeShapes Go.WideShapes Go.ChangeAt Go.RowKit Go.Sort

/-! ### Plain -/
theorem snoc_flat {α:Type} (f:α→List Value) (xs:List α) (x:α):(xs++[x]).flatMap f=xs.flatMap f++f x:=by simp
end Go.Proofs.YtgphkffbbmmmmaaGreatDoor

namespace Go.Proofs.YtgphkffbbmmmmaaGreatDoor
open Go.ChangeShapes Go.WideShapes Go.ChangeAt Go.RowKit Go.Sort

/-! ### Plain -/
end Go.Proofs.YtgphkffbbmmmmaaGreatDoor

namespace Go.Proofs.YtgphkffbbmmmmaaGreatDoor
open Go.ChangeShapes Go.WideShapes Go.ChangeAt Go.RowKit Go.Sort

/-! ### Plain -/
end Go.Proofs.YtgphkffbbmmmmaaGreatDoor

namespace Go.Proofs.YtgphkffbbmmmmaaGreatDoor
open Go.ChangeShapes Go.WideShapes Go.ChangeAt Go.RowKit Go.Sort

/-! ### Plain -/
theorem Drew.bels {w w':World} (h:Drew w w'):Below w.heap.size w w':=h.below _
end Go.Proofs.YtgphkffbbmmmmaaGreatDoor
