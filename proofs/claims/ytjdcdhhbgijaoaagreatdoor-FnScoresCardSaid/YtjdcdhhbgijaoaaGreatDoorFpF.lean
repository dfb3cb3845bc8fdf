/- Contracts: what is on a square, the tiles on a board, two piles together: the program. For · Contracts: the law's own comparisons of lists: words and squares that are alike. For lists -/
import Derived.Test.YtjdcdhhbgijaoaaGreatDoorFpP
import Derived.Test.YtjdcdhhbgijaoaaGreatDoorGmM
import Derived.Test.YtjdcdhhbgijaoaaGreatDoorLgE
import Derived.Test.YtjdcdhhbgijaoaaGreatDoorBrI
import Derived.Test.YtjdcdhhbgijaoaaGreatDoorFpI
import Derived.Laws.StructEq
import Derived.ChangeKeysEq
namespace Go.Proofs.YtjdcdhhbgijaoaaGreatDoor
open Go.ChangeShapes Go.WideShapes Go.ChangeAt Go.RowKit Go.Sort

end Go.Proofs.YtjdcdhhbgijaoaaGreatDoor
namespace Go.Proofs.YtjdcdhhbgijaoaaGreatDoor
open Go.ChangeShapes Go.WideShapes Go.ChangeAt Go.RowKit Go.Sort

theorem f6big_ct (ca : Option Addr) (n cap : Nat) (w : World) : Calls Tryz.prog 9 #[.slice ca n cap] w fun e w' => e = .returned (.bool (decide ((4096 : Int) < n))) ∧ w = w' := by
  go_enter Tryz.func9, Tryz.ntmps9
  go_wp2
  go_ret
  exact ⟨rfl, rfl⟩
end Go.Proofs.YtjdcdhhbgijaoaaGreatDoor
