/- From the row's cell 'laid' to Go's tables of unicode and unicode/utf8 (CEnv). No other condition. -/
import Derived.Test.YtjdcdhhbgijaoaaGreatDoorRows
import Derived.Test.YtjdcdhhbgijaoaaGreatDoorDoor
import Derived.Test.YtjdcdhhbgijaoaaGreatDoorPlbF
import Derived.Lib.LaidU8
import Derived.Lib.LaidCase
import Derived.MakeChecks
namespace Go.Proofs.YtjdcdhhbgijaoaaGreatDoor
open Go.ChangeShapes Go.WideShapes Go.ChangeAt Go.RowKit Go.Sort Go.Joins Go.Deep Go.Lib

theorem n260 : Lays.n260 Tryz.prog Tryz.lays159_ren := { Tryz.lays159 with }
theorem u8Extra : U8Extra Tryz.prog Tryz.lays159_ren := ⟨by kernel_rfl, by kernel_rfl, by kernel_rfl, by kernel_rfl, by kernel_rfl, by kernel_rfl, by kernel_rfl⟩
set_option maxRecDepth 100000 in
theorem first_eq : (Rows.laid_unicode_utf8_first : DataW Unit) = Lib.firstData := by kernel_rfl
theorem accept_eq : (Rows.laid_unicode_utf8_acceptRanges : DataW Unit) = Lib.acceptData := by kernel_rfl
theorem caseR_eq : (Rows.laid_unicode_CaseRanges : DataW Unit) = Lib.caseData := case_eq
theorem cenv_of_met {W : World} {l : List (String × DataW Unit)} (h : laidMet Tryz.prog l W) (h1 : ("unicode/utf8.acceptRanges", Rows.laid_unicode_utf8_acceptRanges) ∈ l) (h2 : ("unicode.CaseRanges", Rows.laid_unicode_CaseRanges) ∈ l) (h3 : ("unicode/utf8.first", Rows.laid_unicode_utf8_first) ∈ l) : CEnv W := by
  rw [accept_eq] at h1
  rw [caseR_eq] at h2
  rw [first_eq] at h3
  exact ⟨caseVar_of_reads (ρ := Tryz.lays159_ren) n274 (Tryz.lays159).t206 caseExtra (Go.Lib.laidMet.reads h h2), utf8Tabs_of_reads (ρ := Tryz.lays159_ren) n260 u8Extra (Go.Lib.laidMet.reads h h3) (Go.Lib.laidMet.reads h h1)⟩
end Go.Proofs.YtjdcdhhbgijaoaaGreatDoor
