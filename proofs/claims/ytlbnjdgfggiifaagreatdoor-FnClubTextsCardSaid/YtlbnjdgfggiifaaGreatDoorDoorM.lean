/- From the rows' cells 'laid' to Go's tables and strconv's two errors (Env); the door's world meets them. No other condition. -/
import Derived.Test.YtlbnjdgfggiifaaGreatDoorDoor
import Derived.Test.YtlbnjdgfggiifaaGreatDoorDoD
import Derived.Test.YtlbnjdgfggiifaaGreatDoorRows
import Derived.Lib.LaidTab
namespace Go.Proofs.YtlbnjdgfggiifaaGreatDoor
open Go.ChangeShapes Go.WideShapes Go.ChangeAt Go.RowKit Go.Sort Go.Joins Go.Deep Go.Lib

theorem gPow : Tryz.prog.globalNamed "internal/strconv.uint64pow10" = some 1 := by kernel_rfl
theorem tPow : (Tryz.prog.globals[1]?).map (·.type) = some 127 := by kernel_rfl
theorem gErrS : Tryz.prog.globalNamed "strconv.ErrSyntax" = some 2 := by kernel_rfl
theorem gErrR : Tryz.prog.globalNamed "strconv.ErrRange" = some 3 := by kernel_rfl
theorem tErrS : (Tryz.prog.globals[2]?).map (·.type) = some 55 := by kernel_rfl
theorem tErrR : (Tryz.prog.globals[3]?).map (·.type) = some 55 := by kernel_rfl
theorem starErr : "*" ++ "errors.errorString" = "*errors.errorString" := by decide
theorem rowErr (u : TypeId) (h : Tryz.prog.typeName? 3 u = some "*errors.errorString") : u = 152 :=
  typeName_ptr_named (nm := "errors.errorString") (by rw [starErr]; kernel_rfl) (by kernel_rfl) (by decide) u (by rw [starErr]; exact h)
def seven : List (String × DataW Unit) := [("math/bits.deBruijn32tab", Rows.laid_math_bits_deBruijn32tab), ("math/bits.deBruijn64tab", Rows.laid_math_bits_deBruijn64tab), ("internal/strconv.uint64pow10", Rows.laid_internal_strconv_uint64pow10), ("unicode/utf8.acceptRanges", Rows.laid_unicode_utf8_acceptRanges), ("strconv.ErrRange", Rows.laid_strconv_ErrRange), ("strconv.ErrSyntax", Rows.laid_strconv_ErrSyntax), ("unicode/utf8.first", Rows.laid_unicode_utf8_first)]
/-- the first six of whatever list -/
theorem env_of_met {W : World} (r : List (String × DataW Unit)) (hsh : W.ShapedOpen Tryz.prog) (h : laidMet Tryz.prog (("math/bits.deBruijn32tab", Rows.laid_math_bits_deBruijn32tab) :: ("math/bits.deBruijn64tab", Rows.laid_math_bits_deBruijn64tab) :: ("internal/strconv.uint64pow10", Rows.laid_internal_strconv_uint64pow10) :: ("unicode/utf8.acceptRanges", Rows.laid_unicode_utf8_acceptRanges) :: ("strconv.ErrRange", Rows.laid_strconv_ErrRange) :: ("strconv.ErrSyntax", Rows.laid_strconv_ErrSyntax) :: r) W) : Env W := by
  have h1 := laidMet.tail (laidMet.tail h)
  have h2 : laidMet Tryz.prog (("internal/strconv.uint64pow10", Lib.tabData .u64 Lib.pow10Tab) :: ("unicode/utf8.acceptRanges", Rows.laid_unicode_utf8_acceptRanges) :: ("strconv.ErrRange", Rows.laid_strconv_ErrRange) :: ("strconv.ErrSyntax", Rows.laid_strconv_ErrSyntax) :: r) W := h1
  have h3 := laidMet.tail (laidMet.tail h1)
  have h4 := laidMet.tail h3
  refine ⟨Lib.tabIs_of_head gPow tPow Tryz.underlying127 Tryz.underlying87 (by kernel_rfl) (by kernel_rfl) h2, Tryz.laysM146.s1_3 W hsh, ?_, ?_⟩
  · obtain ⟨a, _, hv, _⟩ := laid_sentinel h4 gErrS tErrS Tryz.underlying55 rowErr Tryz.underlying152 Tryz.underlying154 rfl rfl Tryz.underlying9 (by kernel_rfl) (by kernel_rfl)
    exact ⟨_, _, hv⟩
  · obtain ⟨a, _, hv, _⟩ := laid_sentinel h3 gErrR tErrR Tryz.underlying55 rowErr Tryz.underlying152 Tryz.underlying154 rfl rfl Tryz.underlying9 (by kernel_rfl) (by kernel_rfl)
    exact ⟨_, _, hv⟩
theorem door_seven (os : Os) (args : Array Value) : laidMet Tryz.prog seven ((doorFirst os).forCall (fun _ _ => 0) ⟨#[], args, []⟩).memory := laidMet_of_run' 8 (by kernel_rfl) (by kernel_rfl)
end Go.Proofs.YtlbnjdgfggiifaaGreatDoor
