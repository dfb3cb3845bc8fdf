/-
  NARROWER THAN 'FOR EVERY INPUT', by the rows' own cells (each row's printed sentence says how): FnExactCrossLetters: laid · FnExactCrossTable: laid · FnExactDeadSquares: laid · FnExactWrongWords: laid · FnExactScorePlay: laid · FnExactScoreParts: laid · FnExactLegalPlay: laid.
  DERIVED. THE GIVEN ROWS OF THIS SEAT. 7 by the template 'for every input the law returns true; each argument reads behind the call as it read before'; 0 by the template 'total and deterministic' (their statements: YtoeoijkhlpacdaaGreatDoorTotals.lean).
  GIVEN WITH THE SEED: the statements are not yours to turn. If you find one false, say at which input.
  Laid BY PROGRAM, IN A SANDBOX (cutbox-rows.mjs): the forced cells as the released guide's own fill.sh prints them over the translation e7151cc85dc0a58b… (all of the seat's roots in one cut). By AI agents, Wed Nov 11 2026. No macro, syntax, notation, axiom, sorry.
-/
import Derived.Test.YtoeoijkhlpacdaaGreatDoorChecked
import GoSem.PinnedTables
import GoSem.Claim
import GoSem.ClaimJoined
import GoSem.ClaimMapViews
import Derived.JoinedTies
import Derived.KernelRfl
namespace Go.Proofs.YtoeoijkhlpacdaaGreatDoor
/- THE CELL 'sum', in the pinned program and in every row, IS THE sha256 OF THE DUMP (.gsa) THAT YtoeoijkhlpacdaaGreatDoorProg.lean LOADS. Nothing in Lean hashes anything: it is a label: what it is worth is what the hold of that sum in a sandbox is worth. -/
noncomputable def Tryz.pinned : Pinned := { name := "ytoeoijkhlpacdaagreatdoor", sum := "e7151cc85dc0a58bf7cbc67480a8ae7829946fd0bcf0886ca02cc9a33f9984d8", checked := Tryz.checked }
namespace Rows
def none {H : Type} : Left H := { results := [], args := [] }

/- WHAT THE LISTED PACKAGE-LEVEL VARIABLES READ AS WHEN THE CALL BEGINS. Each datum BY PROGRAM (the guide's laid-datum.mjs) off the statement by which the dump's own 'gosem.cut.vars' lays the variable. In a bare row this is a premise. The card (YtoeoijkhlpacdaaGreatDoorCards.lean) ties it to the program's text. -/
def laid_math_bits_deBruijn32tab {H : Type} : DataW H := .agg [.lit (.int .u8 0), .lit (.int .u8 1), .lit (.int .u8 28), .lit (.int .u8 2), .lit (.int .u8 29), .lit (.int .u8 14), .lit (.int .u8 24), .lit (.int .u8 3), .lit (.int .u8 30), .lit (.int .u8 22), .lit (.int .u8 20), .lit (.int .u8 15), .lit (.int .u8 25), .lit (.int .u8 17), .lit (.int .u8 4), .lit (.int .u8 8), .lit (.int .u8 31), .lit (.int .u8 27), .lit (.int .u8 13), .lit (.int .u8 23), .lit (.int .u8 21), .lit (.int .u8 19), .lit (.int .u8 16), .lit (.int .u8 7), .lit (.int .u8 26), .lit (.int .u8 12), .lit (.int .u8 18), .lit (.int .u8 6), .lit (.int .u8 11), .lit (.int .u8 5), .lit (.int .u8 10), .lit (.int .u8 9)]
def laid_math_bits_deBruijn64tab {H : Type} : DataW H := .agg [.lit (.int .u8 0), .lit (.int .u8 1), .lit (.int .u8 56), .lit (.int .u8 2), .lit (.int .u8 57), .lit (.int .u8 49), .lit (.int .u8 28), .lit (.int .u8 3), .lit (.int .u8 61), .lit (.int .u8 58), .lit (.int .u8 42), .lit (.int .u8 50), .lit (.int .u8 38), .lit (.int .u8 29), .lit (.int .u8 17), .lit (.int .u8 4), .lit (.int .u8 62), .lit (.int .u8 47), .lit (.int .u8 59), .lit (.int .u8 36), .lit (.int .u8 45), .lit (.int .u8 43), .lit (.int .u8 51), .lit (.int .u8 22), .lit (.int .u8 53), .lit (.int .u8 39), .lit (.int .u8 33), .lit (.int .u8 30), .lit (.int .u8 24), .lit (.int .u8 18), .lit (.int .u8 12), .lit (.int .u8 5), .lit (.int .u8 63), .lit (.int .u8 55), .lit (.int .u8 48), .lit (.int .u8 27), .lit (.int .u8 60), .lit (.int .u8 41), .lit (.int .u8 37), .lit (.int .u8 16), .lit (.int .u8 46), .lit (.int .u8 35), .lit (.int .u8 44), .lit (.int .u8 21), .lit (.int .u8 52), .lit (.int .u8 32), .lit (.int .u8 23), .lit (.int .u8 11), .lit (.int .u8 54), .lit (.int .u8 26), .lit (.int .u8 40), .lit (.int .u8 15), .lit (.int .u8 34), .lit (.int .u8 20), .lit (.int .u8 31), .lit (.int .u8 10), .lit (.int .u8 25), .lit (.int .u8 14), .lit (.int .u8 19), .lit (.int .u8 9), .lit (.int .u8 13), .lit (.int .u8 8), .lit (.int .u8 7), .lit (.int .u8 6)]
def laid_internal_strconv_uint64pow10 {H : Type} : DataW H := .agg [.lit (.int .u64 1), .lit (.int .u64 10), .lit (.int .u64 100), .lit (.int .u64 1000), .lit (.int .u64 10000), .lit (.int .u64 100000), .lit (.int .u64 1000000), .lit (.int .u64 10000000), .lit (.int .u64 100000000), .lit (.int .u64 1000000000), .lit (.int .u64 10000000000), .lit (.int .u64 100000000000), .lit (.int .u64 1000000000000), .lit (.int .u64 10000000000000), .lit (.int .u64 100000000000000), .lit (.int .u64 1000000000000000), .lit (.int .u64 10000000000000000), .lit (.int .u64 100000000000000000), .lit (.int .u64 1000000000000000000), .lit (.int .u64 10000000000000000000)]
def laid_unicode_utf8_acceptRanges {H : Type} : DataW H := .agg [.agg [.lit (.int .u8 128), .lit (.int .u8 191)], .agg [.lit (.int .u8 160), .lit (.int .u8 191)], .agg [.lit (.int .u8 128), .lit (.int .u8 159)], .agg [.lit (.int .u8 144), .lit (.int .u8 191)], .agg [.lit (.int .u8 128), .lit (.int .u8 143)], .agg [.lit (.int .u8 0), .lit (.int .u8 0)], .agg [.lit (.int .u8 0), .lit (.int .u8 0)], .agg [.lit (.int .u8 0), .lit (.int .u8 0)], .agg [.lit (.int .u8 0), .lit (.int .u8 0)], .agg [.lit (.int .u8 0), .lit (.int .u8 0)], .agg [.lit (.int .u8 0), .lit (.int .u8 0)], .agg [.lit (.int .u8 0), .lit (.int .u8 0)], .agg [.lit (.int .u8 0), .lit (.int .u8 0)], .agg [.lit (.int .u8 0), .lit (.int .u8 0)], .agg [.lit (.int .u8 0), .lit (.int .u8 0)], .agg [.lit (.int .u8 0), .lit (.int .u8 0)]]
/-- One of Go's own tables, pinned by name: the form's constant. -/
def laid_unicode_CaseRanges : DataW Unit := Go.Pinned.caseRanges
/-- One of Go's own tables, pinned by name: the form's constant. -/
def laid_unicode_utf8_first : DataW Unit := Go.Pinned.utf8First

/-- 'laws.FnExactCrossLetters': WHATEVER THE INPUT: true; the input reads as it did. -/
def fnExactCrossLettersSpec : ChangeSpec := { name := "fnExactCrossLetters", fn := fun _ => fun
  | [d1, d2, d3, d4, d5] => { results := [.lit (.bool true)], args := [d1, d2, d3, d4, d5] }
  | _ => none }
def fnExactCrossLettersRow : OpenClaim := { program := "ytoeoijkhlpacdaagreatdoor", sum := "e7151cc85dc0a58bf7cbc67480a8ae7829946fd0bcf0886ca02cc9a33f9984d8", func := "loop.example/g00911/laws.FnExactCrossLetters", spec := "fnExactCrossLetters", inPlace := ["internal/abi.NoEscape", "internal/bytealg.IndexByteString", "internal/bytealg.MakeNoZero"], unfollowed := true, recurses := true, named := ["internal/strconv.uint64pow10", "math/bits.deBruijn32tab", "math/bits.deBruijn64tab", "unicode/utf8.first", "unicode/utf8.acceptRanges", "unicode.CaseRanges"], apart := false, laid := [("math/bits.deBruijn32tab", laid_math_bits_deBruijn32tab), ("math/bits.deBruijn64tab", laid_math_bits_deBruijn64tab), ("internal/strconv.uint64pow10", laid_internal_strconv_uint64pow10), ("unicode/utf8.acceptRanges", laid_unicode_utf8_acceptRanges), ("unicode.CaseRanges", laid_unicode_CaseRanges), ("unicode/utf8.first", laid_unicode_utf8_first)] }
def FnExactCrossLettersSaid : Prop := fnExactCrossLettersRow.holds Tryz.pinned (OpenSpec.ofChange fnExactCrossLettersSpec)

/-- ITS FALSE NEIGHBOUR: 'it returns false'. Refute it at one input. -/
def fnExactCrossLettersWrong : ChangeSpec := { name := "fnExactCrossLetters", fn := fun _ => fun
  | [d1, d2, d3, d4, d5] => { results := [.lit (.bool false)], args := [d1, d2, d3, d4, d5] }
  | _ => none }
def FnExactCrossLettersWrongFalsely : Prop := fnExactCrossLettersRow.holds Tryz.pinned (OpenSpec.ofChange fnExactCrossLettersWrong)

/-- 'laws.FnExactCrossTable': WHATEVER THE INPUT: true; the input reads as it did. -/
def fnExactCrossTableSpec : ChangeSpec := { name := "fnExactCrossTable", fn := fun _ => fun
  | [d1, d2, d3] => { results := [.lit (.bool true)], args := [d1, d2, d3] }
  | _ => none }
def fnExactCrossTableRow : OpenClaim := { program := "ytoeoijkhlpacdaagreatdoor", sum := "e7151cc85dc0a58bf7cbc67480a8ae7829946fd0bcf0886ca02cc9a33f9984d8", func := "loop.example/g00911/laws.FnExactCrossTable", spec := "fnExactCrossTable", inPlace := ["internal/bytealg.IndexByteString", "internal/abi.NoEscape", "internal/bytealg.MakeNoZero"], unfollowed := true, recurses := true, named := ["internal/strconv.uint64pow10", "math/bits.deBruijn32tab", "math/bits.deBruijn64tab", "unicode/utf8.first", "unicode/utf8.acceptRanges", "unicode.CaseRanges"], apart := false, laid := [("math/bits.deBruijn32tab", laid_math_bits_deBruijn32tab), ("math/bits.deBruijn64tab", laid_math_bits_deBruijn64tab), ("internal/strconv.uint64pow10", laid_internal_strconv_uint64pow10), ("unicode/utf8.acceptRanges", laid_unicode_utf8_acceptRanges), ("unicode.CaseRanges", laid_unicode_CaseRanges), ("unicode/utf8.first", laid_unicode_utf8_first)] }
def FnExactCrossTableSaid : Prop := fnExactCrossTableRow.holds Tryz.pinned (OpenSpec.ofChange fnExactCrossTableSpec)

/-- ITS FALSE NEIGHBOUR: 'it returns false'. Refute it at one input. -/
def fnExactCrossTableWrong : ChangeSpec := { name := "fnExactCrossTable", fn := fun _ => fun
  | [d1, d2, d3] => { results := [.lit (.bool false)], args := [d1, d2, d3] }
  | _ => none }
def FnExactCrossTableWrongFalsely : Prop := fnExactCrossTableRow.holds Tryz.pinned (OpenSpec.ofChange fnExactCrossTableWrong)

/-- 'laws.FnExactDeadSquares': WHATEVER THE INPUT: true; the input reads as it did. -/
def fnExactDeadSquaresSpec : ChangeSpec := { name := "fnExactDeadSquares", fn := fun _ => fun
  | [d1, d2] => { results := [.lit (.bool true)], args := [d1, d2] }
  | _ => none }
def fnExactDeadSquaresRow : OpenClaim := { program := "ytoeoijkhlpacdaagreatdoor", sum := "e7151cc85dc0a58bf7cbc67480a8ae7829946fd0bcf0886ca02cc9a33f9984d8", func := "loop.example/g00911/laws.FnExactDeadSquares", spec := "fnExactDeadSquares", inPlace := ["internal/bytealg.IndexByteString", "internal/abi.NoEscape", "internal/bytealg.MakeNoZero"], unfollowed := true, recurses := true, named := ["internal/strconv.uint64pow10", "math/bits.deBruijn32tab", "math/bits.deBruijn64tab", "unicode/utf8.first", "unicode/utf8.acceptRanges", "unicode.CaseRanges"], apart := false, laid := [("math/bits.deBruijn32tab", laid_math_bits_deBruijn32tab), ("math/bits.deBruijn64tab", laid_math_bits_deBruijn64tab), ("internal/strconv.uint64pow10", laid_internal_strconv_uint64pow10), ("unicode/utf8.acceptRanges", laid_unicode_utf8_acceptRanges), ("unicode.CaseRanges", laid_unicode_CaseRanges), ("unicode/utf8.first", laid_unicode_utf8_first)] }
def FnExactDeadSquaresSaid : Prop := fnExactDeadSquaresRow.holds Tryz.pinned (OpenSpec.ofChange fnExactDeadSquaresSpec)

/-- ITS FALSE NEIGHBOUR: 'it returns false'. Refute it at one input. -/
def fnExactDeadSquaresWrong : ChangeSpec := { name := "fnExactDeadSquares", fn := fun _ => fun
  | [d1, d2] => { results := [.lit (.bool false)], args := [d1, d2] }
  | _ => none }
def FnExactDeadSquaresWrongFalsely : Prop := fnExactDeadSquaresRow.holds Tryz.pinned (OpenSpec.ofChange fnExactDeadSquaresWrong)

/-- 'laws.FnExactWrongWords': WHATEVER THE INPUT: true; the input reads as it did. -/
def fnExactWrongWordsSpec : ChangeSpec := { name := "fnExactWrongWords", fn := fun _ => fun
  | [d1, d2, d3] => { results := [.lit (.bool true)], args := [d1, d2, d3] }
  | _ => none }
def fnExactWrongWordsRow : OpenClaim := { program := "ytoeoijkhlpacdaagreatdoor", sum := "e7151cc85dc0a58bf7cbc67480a8ae7829946fd0bcf0886ca02cc9a33f9984d8", func := "loop.example/g00911/laws.FnExactWrongWords", spec := "fnExactWrongWords", inPlace := ["internal/bytealg.IndexByteString", "internal/abi.NoEscape", "internal/bytealg.MakeNoZero"], unfollowed := true, recurses := true, named := ["unicode/utf8.first", "unicode/utf8.acceptRanges", "unicode.CaseRanges"], apart := false, laid := [("unicode/utf8.acceptRanges", laid_unicode_utf8_acceptRanges), ("unicode.CaseRanges", laid_unicode_CaseRanges), ("unicode/utf8.first", laid_unicode_utf8_first)] }
def FnExactWrongWordsSaid : Prop := fnExactWrongWordsRow.holds Tryz.pinned (OpenSpec.ofChange fnExactWrongWordsSpec)

/-- ITS FALSE NEIGHBOUR: 'it returns false'. Refute it at one input. -/
def fnExactWrongWordsWrong : ChangeSpec := { name := "fnExactWrongWords", fn := fun _ => fun
  | [d1, d2, d3] => { results := [.lit (.bool false)], args := [d1, d2, d3] }
  | _ => none }
def FnExactWrongWordsWrongFalsely : Prop := fnExactWrongWordsRow.holds Tryz.pinned (OpenSpec.ofChange fnExactWrongWordsWrong)

/-- 'laws.FnExactScorePlay': WHATEVER THE INPUT: true; the input reads as it did. -/
def fnExactScorePlaySpec : ChangeSpec := { name := "fnExactScorePlay", fn := fun _ => fun
  | [d1, d2, d3] => { results := [.lit (.bool true)], args := [d1, d2, d3] }
  | _ => none }
def fnExactScorePlayRow : OpenClaim := { program := "ytoeoijkhlpacdaagreatdoor", sum := "e7151cc85dc0a58bf7cbc67480a8ae7829946fd0bcf0886ca02cc9a33f9984d8", func := "loop.example/g00911/laws.FnExactScorePlay", spec := "fnExactScorePlay", inPlace := ["internal/bytealg.IndexByteString", "internal/abi.NoEscape", "internal/bytealg.MakeNoZero"], unfollowed := true, recurses := true, named := ["unicode/utf8.first", "unicode/utf8.acceptRanges", "unicode.CaseRanges"], apart := false, laid := [("unicode/utf8.acceptRanges", laid_unicode_utf8_acceptRanges), ("unicode.CaseRanges", laid_unicode_CaseRanges), ("unicode/utf8.first", laid_unicode_utf8_first)] }
def FnExactScorePlaySaid : Prop := fnExactScorePlayRow.holds Tryz.pinned (OpenSpec.ofChange fnExactScorePlaySpec)

/-- ITS FALSE NEIGHBOUR: 'it returns false'. Refute it at one input. -/
def fnExactScorePlayWrong : ChangeSpec := { name := "fnExactScorePlay", fn := fun _ => fun
  | [d1, d2, d3] => { results := [.lit (.bool false)], args := [d1, d2, d3] }
  | _ => none }
def FnExactScorePlayWrongFalsely : Prop := fnExactScorePlayRow.holds Tryz.pinned (OpenSpec.ofChange fnExactScorePlayWrong)

/-- 'laws.FnExactScoreParts': WHATEVER THE INPUT: true; the input reads as it did. -/
def fnExactScorePartsSpec : ChangeSpec := { name := "fnExactScoreParts", fn := fun _ => fun
  | [d1, d2, d3] => { results := [.lit (.bool true)], args := [d1, d2, d3] }
  | _ => none }
def fnExactScorePartsRow : OpenClaim := { program := "ytoeoijkhlpacdaagreatdoor", sum := "e7151cc85dc0a58bf7cbc67480a8ae7829946fd0bcf0886ca02cc9a33f9984d8", func := "loop.example/g00911/laws.FnExactScoreParts", spec := "fnExactScoreParts", inPlace := ["internal/bytealg.IndexByteString", "internal/abi.NoEscape", "internal/bytealg.MakeNoZero"], unfollowed := true, recurses := true, named := ["unicode/utf8.first", "unicode/utf8.acceptRanges", "unicode.CaseRanges"], apart := false, laid := [("unicode/utf8.acceptRanges", laid_unicode_utf8_acceptRanges), ("unicode.CaseRanges", laid_unicode_CaseRanges), ("unicode/utf8.first", laid_unicode_utf8_first)] }
def FnExactScorePartsSaid : Prop := fnExactScorePartsRow.holds Tryz.pinned (OpenSpec.ofChange fnExactScorePartsSpec)

/-- ITS FALSE NEIGHBOUR: 'it returns false'. Refute it at one input. -/
def fnExactScorePartsWrong : ChangeSpec := { name := "fnExactScoreParts", fn := fun _ => fun
  | [d1, d2, d3] => { results := [.lit (.bool false)], args := [d1, d2, d3] }
  | _ => none }
def FnExactScorePartsWrongFalsely : Prop := fnExactScorePartsRow.holds Tryz.pinned (OpenSpec.ofChange fnExactScorePartsWrong)

/-- 'laws.FnExactLegalPlay': WHATEVER THE INPUT: true; the input reads as it did. -/
def fnExactLegalPlaySpec : ChangeSpec := { name := "fnExactLegalPlay", fn := fun _ => fun
  | [d1, d2, d3, d4] => { results := [.lit (.bool true)], args := [d1, d2, d3, d4] }
  | _ => none }
def fnExactLegalPlayRow : OpenClaim := { program := "ytoeoijkhlpacdaagreatdoor", sum := "e7151cc85dc0a58bf7cbc67480a8ae7829946fd0bcf0886ca02cc9a33f9984d8", func := "loop.example/g00911/laws.FnExactLegalPlay", spec := "fnExactLegalPlay", inPlace := ["internal/bytealg.IndexByteString", "internal/abi.NoEscape", "internal/bytealg.MakeNoZero", "internal/bytealg.CountString", "internal/bytealg.IndexString"], unfollowed := true, recurses := true, named := ["unicode/utf8.first", "unicode/utf8.acceptRanges", "unicode.CaseRanges", "internal/bytealg.MaxLen"], apart := false, laid := [("unicode/utf8.acceptRanges", laid_unicode_utf8_acceptRanges), ("unicode.CaseRanges", laid_unicode_CaseRanges), ("unicode/utf8.first", laid_unicode_utf8_first)] }
def FnExactLegalPlaySaid : Prop := fnExactLegalPlayRow.holds Tryz.pinned (OpenSpec.ofChange fnExactLegalPlaySpec)

/-- ITS FALSE NEIGHBOUR: 'it returns false'. Refute it at one input. -/
def fnExactLegalPlayWrong : ChangeSpec := { name := "fnExactLegalPlay", fn := fun _ => fun
  | [d1, d2, d3, d4] => { results := [.lit (.bool false)], args := [d1, d2, d3, d4] }
  | _ => none }
def FnExactLegalPlayWrongFalsely : Prop := fnExactLegalPlayRow.holds Tryz.pinned (OpenSpec.ofChange fnExactLegalPlayWrong)

/- THE SECOND FORM. 'bulk': how many values and letters a reading holds, each counted each time it is reached (what is shared counts as often as it is met; a slice's spare places count too). A statement '..UptoSaid' is the law's where the arguments, and the package variables that the reading takes, are together of bulk at most 1048576: NARROWER than '..Said'. Prove '..Said' where nothing that the law and all that it calls make is longer than what came in: it says more and counts as full. Else prove '..UptoSaid'. A law counts once. -/
mutual
def uptoBulk {H : Type} : DataW H → Nat
  | .lit (.string bytes) => bytes.length + 1
  | .lit _ => 1
  | .nil => 1
  | .ptr d => uptoBulk d + 1
  | .slice elems spare => uptoBulkAll elems + uptoBulkAll spare + 1
  | .agg parts => uptoBulkAll parts + 1
  | .iface _ d => uptoBulk d + 1
  | .map entries => uptoBulkEntries entries + 1
  | .held _ => 1
def uptoBulkAll {H : Type} : List (DataW H) → Nat
  | [] => 0
  | d :: r => uptoBulk d + uptoBulkAll r
def uptoBulkEntries {H : Type} : List (Lit × DataW H) → Nat
  | [] => 0
  | x :: r => uptoBulkEntry x + uptoBulkEntries r
def uptoBulkEntry {H : Type} : Lit × DataW H → Nat
  | (.string bytes, d) => bytes.length + uptoBulk d + 1
  | (_, d) => uptoBulk d + 1
 end
def uptoSmall : (H : Type) → List (DataW H) → Bool := fun _ ds => decide (uptoBulkAll ds ≤ 1048576)
def OpenSpec.upto (s : _root_.Go.ChangeSpec) : _root_.Go.OpenSpec := { _root_.Go.OpenSpec.ofChange s with cond := some uptoSmall }

/-- 'laws.FnExactCrossLetters', WHERE WHAT IT READS IS OF BULK AT MOST 1048576: true; the input reads as it did. -/
def fnExactCrossLettersUptoRow : OpenClaim := { program := "ytoeoijkhlpacdaagreatdoor", sum := "e7151cc85dc0a58bf7cbc67480a8ae7829946fd0bcf0886ca02cc9a33f9984d8", func := "loop.example/g00911/laws.FnExactCrossLetters", spec := "fnExactCrossLetters", inPlace := ["internal/abi.NoEscape", "internal/bytealg.IndexByteString", "internal/bytealg.MakeNoZero"], unfollowed := true, recurses := true, named := ["internal/strconv.uint64pow10", "math/bits.deBruijn32tab", "math/bits.deBruijn64tab", "unicode/utf8.first", "unicode/utf8.acceptRanges", "unicode.CaseRanges"], apart := false, laid := [("math/bits.deBruijn32tab", laid_math_bits_deBruijn32tab), ("math/bits.deBruijn64tab", laid_math_bits_deBruijn64tab), ("internal/strconv.uint64pow10", laid_internal_strconv_uint64pow10), ("unicode/utf8.acceptRanges", laid_unicode_utf8_acceptRanges), ("unicode.CaseRanges", laid_unicode_CaseRanges), ("unicode/utf8.first", laid_unicode_utf8_first)], narrowed := true }
def FnExactCrossLettersUptoSaid : Prop := fnExactCrossLettersUptoRow.holds Tryz.pinned (OpenSpec.upto fnExactCrossLettersSpec)

/-- 'laws.FnExactCrossTable', WHERE WHAT IT READS IS OF BULK AT MOST 1048576: true; the input reads as it did. -/
def fnExactCrossTableUptoRow : OpenClaim := { program := "ytoeoijkhlpacdaagreatdoor", sum := "e7151cc85dc0a58bf7cbc67480a8ae7829946fd0bcf0886ca02cc9a33f9984d8", func := "loop.example/g00911/laws.FnExactCrossTable", spec := "fnExactCrossTable", inPlace := ["internal/bytealg.IndexByteString", "internal/abi.NoEscape", "internal/bytealg.MakeNoZero"], unfollowed := true, recurses := true, named := ["internal/strconv.uint64pow10", "math/bits.deBruijn32tab", "math/bits.deBruijn64tab", "unicode/utf8.first", "unicode/utf8.acceptRanges", "unicode.CaseRanges"], apart := false, laid := [("math/bits.deBruijn32tab", laid_math_bits_deBruijn32tab), ("math/bits.deBruijn64tab", laid_math_bits_deBruijn64tab), ("internal/strconv.uint64pow10", laid_internal_strconv_uint64pow10), ("unicode/utf8.acceptRanges", laid_unicode_utf8_acceptRanges), ("unicode.CaseRanges", laid_unicode_CaseRanges), ("unicode/utf8.first", laid_unicode_utf8_first)], narrowed := true }
def FnExactCrossTableUptoSaid : Prop := fnExactCrossTableUptoRow.holds Tryz.pinned (OpenSpec.upto fnExactCrossTableSpec)

/-- 'laws.FnExactDeadSquares', WHERE WHAT IT READS IS OF BULK AT MOST 1048576: true; the input reads as it did. -/
def fnExactDeadSquaresUptoRow : OpenClaim := { program := "ytoeoijkhlpacdaagreatdoor", sum := "e7151cc85dc0a58bf7cbc67480a8ae7829946fd0bcf0886ca02cc9a33f9984d8", func := "loop.example/g00911/laws.FnExactDeadSquares", spec := "fnExactDeadSquares", inPlace := ["internal/bytealg.IndexByteString", "internal/abi.NoEscape", "internal/bytealg.MakeNoZero"], unfollowed := true, recurses := true, named := ["internal/strconv.uint64pow10", "math/bits.deBruijn32tab", "math/bits.deBruijn64tab", "unicode/utf8.first", "unicode/utf8.acceptRanges", "unicode.CaseRanges"], apart := false, laid := [("math/bits.deBruijn32tab", laid_math_bits_deBruijn32tab), ("math/bits.deBruijn64tab", laid_math_bits_deBruijn64tab), ("internal/strconv.uint64pow10", laid_internal_strconv_uint64pow10), ("unicode/utf8.acceptRanges", laid_unicode_utf8_acceptRanges), ("unicode.CaseRanges", laid_unicode_CaseRanges), ("unicode/utf8.first", laid_unicode_utf8_first)], narrowed := true }
def FnExactDeadSquaresUptoSaid : Prop := fnExactDeadSquaresUptoRow.holds Tryz.pinned (OpenSpec.upto fnExactDeadSquaresSpec)

/-- 'laws.FnExactWrongWords', WHERE WHAT IT READS IS OF BULK AT MOST 1048576: true; the input reads as it did. -/
def fnExactWrongWordsUptoRow : OpenClaim := { program := "ytoeoijkhlpacdaagreatdoor", sum := "e7151cc85dc0a58bf7cbc67480a8ae7829946fd0bcf0886ca02cc9a33f9984d8", func := "loop.example/g00911/laws.FnExactWrongWords", spec := "fnExactWrongWords", inPlace := ["internal/bytealg.IndexByteString", "internal/abi.NoEscape", "internal/bytealg.MakeNoZero"], unfollowed := true, recurses := true, named := ["unicode/utf8.first", "unicode/utf8.acceptRanges", "unicode.CaseRanges"], apart := false, laid := [("unicode/utf8.acceptRanges", laid_unicode_utf8_acceptRanges), ("unicode.CaseRanges", laid_unicode_CaseRanges), ("unicode/utf8.first", laid_unicode_utf8_first)], narrowed := true }
def FnExactWrongWordsUptoSaid : Prop := fnExactWrongWordsUptoRow.holds Tryz.pinned (OpenSpec.upto fnExactWrongWordsSpec)

/-- 'laws.FnExactScorePlay', WHERE WHAT IT READS IS OF BULK AT MOST 1048576: true; the input reads as it did. -/
def fnExactScorePlayUptoRow : OpenClaim := { program := "ytoeoijkhlpacdaagreatdoor", sum := "e7151cc85dc0a58bf7cbc67480a8ae7829946fd0bcf0886ca02cc9a33f9984d8", func := "loop.example/g00911/laws.FnExactScorePlay", spec := "fnExactScorePlay", inPlace := ["internal/bytealg.IndexByteString", "internal/abi.NoEscape", "internal/bytealg.MakeNoZero"], unfollowed := true, recurses := true, named := ["unicode/utf8.first", "unicode/utf8.acceptRanges", "unicode.CaseRanges"], apart := false, laid := [("unicode/utf8.acceptRanges", laid_unicode_utf8_acceptRanges), ("unicode.CaseRanges", laid_unicode_CaseRanges), ("unicode/utf8.first", laid_unicode_utf8_first)], narrowed := true }
def FnExactScorePlayUptoSaid : Prop := fnExactScorePlayUptoRow.holds Tryz.pinned (OpenSpec.upto fnExactScorePlaySpec)

/-- 'laws.FnExactScoreParts', WHERE WHAT IT READS IS OF BULK AT MOST 1048576: true; the input reads as it did. -/
def fnExactScorePartsUptoRow : OpenClaim := { program := "ytoeoijkhlpacdaagreatdoor", sum := "e7151cc85dc0a58bf7cbc67480a8ae7829946fd0bcf0886ca02cc9a33f9984d8", func := "loop.example/g00911/laws.FnExactScoreParts", spec := "fnExactScoreParts", inPlace := ["internal/bytealg.IndexByteString", "internal/abi.NoEscape", "internal/bytealg.MakeNoZero"], unfollowed := true, recurses := true, named := ["unicode/utf8.first", "unicode/utf8.acceptRanges", "unicode.CaseRanges"], apart := false, laid := [("unicode/utf8.acceptRanges", laid_unicode_utf8_acceptRanges), ("unicode.CaseRanges", laid_unicode_CaseRanges), ("unicode/utf8.first", laid_unicode_utf8_first)], narrowed := true }
def FnExactScorePartsUptoSaid : Prop := fnExactScorePartsUptoRow.holds Tryz.pinned (OpenSpec.upto fnExactScorePartsSpec)

/-- 'laws.FnExactLegalPlay', WHERE WHAT IT READS IS OF BULK AT MOST 1048576: true; the input reads as it did. -/
def fnExactLegalPlayUptoRow : OpenClaim := { program := "ytoeoijkhlpacdaagreatdoor", sum := "e7151cc85dc0a58bf7cbc67480a8ae7829946fd0bcf0886ca02cc9a33f9984d8", func := "loop.example/g00911/laws.FnExactLegalPlay", spec := "fnExactLegalPlay", inPlace := ["internal/bytealg.IndexByteString", "internal/abi.NoEscape", "internal/bytealg.MakeNoZero", "internal/bytealg.CountString", "internal/bytealg.IndexString"], unfollowed := true, recurses := true, named := ["unicode/utf8.first", "unicode/utf8.acceptRanges", "unicode.CaseRanges", "internal/bytealg.MaxLen"], apart := false, laid := [("unicode/utf8.acceptRanges", laid_unicode_utf8_acceptRanges), ("unicode.CaseRanges", laid_unicode_CaseRanges), ("unicode/utf8.first", laid_unicode_utf8_first)], narrowed := true }
def FnExactLegalPlayUptoSaid : Prop := fnExactLegalPlayUptoRow.holds Tryz.pinned (OpenSpec.upto fnExactLegalPlaySpec)

end Rows
end Go.Proofs.YtoeoijkhlpacdaaGreatDoor
