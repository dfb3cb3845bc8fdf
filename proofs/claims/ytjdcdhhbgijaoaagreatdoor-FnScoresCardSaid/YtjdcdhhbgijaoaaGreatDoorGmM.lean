/- Contracts: the reference's codes of plays: whether a down play is an across play too, the  · Contracts: the program's letters on a board, blank boards, whether a play touches; Touches · Contracts: the program's tiles that a play places, the codes of plays, LegalPlay. Go's tab · Contracts: the reference's board after a play. For valid boards and plays. -/
import Derived.Test.YtjdcdhhbgijaoaaGreatDoorLgE
import Derived.Test.YtjdcdhhbgijaoaaGreatDoorToA
import Derived.Test.YtjdcdhhbgijaoaaGreatDoorWrC
import Derived.Test.YtjdcdhhbgijaoaaGreatDoorPlbH
import Derived.Test.YtjdcdhhbgijaoaaGreatDoorPlbF
import Derived.Test.YtjdcdhhbgijaoaaGreatDoorShq
import Derived.Test.YtjdcdhhbgijaoaaGreatDoorPlaD
namespace Go.Proofs.YtjdcdhhbgijaoaaGreatDoor
open Go.ChangeShapes Go.WideShapes Go.ChangeAt Go.RowKit Go.Sort

/-! ### Plain -/
/-- the tiles that a play places, in order -/
def Brd.tiles (b : Brd) (p : Ply) : List UInt8 := (placedB p.word (b.fresh p)).map tlC
end Go.Proofs.YtjdcdhhbgijaoaaGreatDoor
namespace Go.Proofs.YtjdcdhhbgijaoaaGreatDoor
open Go.ChangeShapes Go.WideShapes Go.ChangeAt Go.RowKit Go.Sort

/-- the cell of internal/bytealg's MaxLen holds a number -/
def EnvL (w : World) : Prop := ∃ m : Int, w.cell? ⟨0, 0, none⟩ = some (.int .i64 m)
theorem EnvL.kept {w w' : World} (h : EnvL w) (hb : Below w.heap.size w w') : EnvL w' := by
  obtain ⟨m, hm⟩ := h
  exact ⟨m, cell_kept hm hb⟩
end Go.Proofs.YtjdcdhhbgijaoaaGreatDoor
namespace Go.Proofs.YtjdcdhhbgijaoaaGreatDoor
open Go.ChangeShapes Go.WideShapes Go.ChangeAt Go.RowKit Go.Sort

end Go.Proofs.YtjdcdhhbgijaoaaGreatDoor
namespace Go.Proofs.YtjdcdhhbgijaoaaGreatDoor
open Go.ChangeShapes Go.WideShapes Go.ChangeAt Go.RowKit Go.Sort

/-! ### Plain: the board after a play is found on the turned board too -/
end Go.Proofs.YtjdcdhhbgijaoaaGreatDoor
