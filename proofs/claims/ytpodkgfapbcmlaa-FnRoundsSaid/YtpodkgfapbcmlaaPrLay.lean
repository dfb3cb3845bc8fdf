/- Where the library's slices.Delete stands in this program. (Numbers of one seat: wip/bin/layplain.py prints them anew.) -/
import Derived.Test.YtpodkgfapbcmlaaProg
import Derived.Shelf.Slices.Delete
namespace Go.Proofs.Ytpodkgfapbcmlaa
open Go.Proofs Go.Shelf Go.RowKit Go.Lib Go.Sort

def sl24_ren : Go.Shelf.Ren := ⟨fun | 24 => 94 | n => n, fun | 24 => 80 | 9 => 9 | 3 => 3 | 4 => 4 | 0 => 0 | n => n, fun | n => n⟩
theorem sl24 : Go.Proofs.Lays2.n24 Try.prog sl24_ren := {
  mixed := by kernel_rfl
  f24 := Try.func94.trans (congrArg some (by kernel_rfl))
  t0 := Try.underlying0
  a0 := Try.isAgg0
  z0 := Try.sizeOf0
  v0 := Try.zeroValue0
  t3 := Try.underlying3
  a3 := Try.isAgg3
  z3 := Try.sizeOf3
  v3 := Try.zeroValue3
  t4 := Try.underlying4
  a4 := Try.isAgg4
  z4 := Try.sizeOf4
  v4 := Try.zeroValue4
  t9 := Try.underlying9
  a9 := Try.isAgg9
  z9 := Try.sizeOf9
  v9 := Try.zeroValue9
  t24 := Try.underlying80
  a24 := Try.isAgg80
  z24 := Try.sizeOf80
  v24 := Try.zeroValue80
  i9 := by kernel_rfl }
end Go.Proofs.Ytpodkgfapbcmlaa
