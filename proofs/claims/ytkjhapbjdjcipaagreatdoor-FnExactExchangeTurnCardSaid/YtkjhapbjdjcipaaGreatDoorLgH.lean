/- Contracts: the program's tiles that a play places, the codes of plays, LegalPlay. Go's tables of unicode and unicode/utf8 hold what is laid (CEnv), internal/bytealg's MaxLen a number (EnvL). -/
import Derived.Test.YtkjhapbjdjcipaaGreatDoorLgD
import Derived.Test.YtkjhapbjdjcipaaGreatDoorLgF
import Derived.Test.YtkjhapbjdjcipaaGreatDoorToB
namespace Go.Proofs.YtkjhapbjdjcipaaGreatDoor
open Go.ChangeShapes Go.WideShapes Go.ChangeAt Go.RowKit Go.Sort

theorem rack_tiles {l:List UInt8} (h:rackOk l=true):l.all tileB=true:=by
 have h1:=(pileOk_iff.1 (rack_pile h).1).1
 rw [List.all_eq_true]
 intro c hc
 obtain ⟨j,hj,rfl⟩:=List.getElem_of_mem hc
 have:=h1 j hj
 rwa [u8_at hj] at this
end Go.Proofs.YtkjhapbjdjcipaaGreatDoor
