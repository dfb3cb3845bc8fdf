/-
  NARROWER THAN 'FOR EVERY INPUT', by the rows' own cells (each row's printed sentence says how): FnExactScoreParts: laid · FnExactLegalPlay: laid · FnExactBestPlay: laid · FnExactValidGame: laid · FnExactWinnerOf: laid · FnExactUnseenBy: laid · FnExactCanChallenge: laid.
  DERIVED. THE GIVEN ROWS OF THIS SEAT. 7 by the template 'for every input the law returns true; each argument reads behind the call as it read before'; 0 by the template 'total and deterministic' (their statements: YtpkadgibfmjmcaaGreatDoorTotals.lean).
  GIVEN WITH THE SEED: the statements are not yours to turn. If you find one false, say at which input.
  Laid BY PROGRAM, IN A SANDBOX (cutbox-rows.mjs): the forced cells as the released guide's own fill.sh prints them over the translation c1fde2b6e9abe818… (all of the seat's roots in one cut). By AI agents, Wed Nov 11 2026. No macro, syntax, notation, axiom, sorry.
-/
import Derived.Test.YtpkadgibfmjmcaaGreatDoorChecked
import GoSem.PinnedTables
import GoSem.Claim
import GoSem.ClaimJoined
import GoSem.ClaimMapViews
import Derived.JoinedTies
import Derived.KernelRfl
namespace Go.Proofs.YtpkadgibfmjmcaaGreatDoor
/- THE CELL 'sum', in the pinned program and in every row, IS THE sha256 OF THE DUMP (.gsa) THAT YtpkadgibfmjmcaaGreatDoorProg.lean LOADS. Nothing in Lean hashes anything: it is a label: what it is worth is what the hold of that sum in a sandbox is worth. -/
noncomputable def Tryz.pinned : Pinned := { name := "ytpkadgibfmjmcaagreatdoor", sum := "c1fde2b6e9abe818a0a50c39a581411f4138c9912b5c4148573eb2deaede981a", checked := Tryz.checked }
namespace Rows
def none {H : Type} : Left H := { results := [], args := [] }

/- WHAT THE LISTED PACKAGE-LEVEL VARIABLES READ AS WHEN THE CALL BEGINS. Each datum BY PROGRAM (the guide's laid-datum.mjs) off the statement by which the dump's own 'gosem.cut.vars' lays the variable. In a bare row this is a premise. The card (YtpkadgibfmjmcaaGreatDoorCards.lean) ties it to the program's text. -/
def laid_unicode_utf8_acceptRanges {H : Type} : DataW H := .agg [.agg [.lit (.int .u8 128), .lit (.int .u8 191)], .agg [.lit (.int .u8 160), .lit (.int .u8 191)], .agg [.lit (.int .u8 128), .lit (.int .u8 159)], .agg [.lit (.int .u8 144), .lit (.int .u8 191)], .agg [.lit (.int .u8 128), .lit (.int .u8 143)], .agg [.lit (.int .u8 0), .lit (.int .u8 0)], .agg [.lit (.int .u8 0), .lit (.int .u8 0)], .agg [.lit (.int .u8 0), .lit (.int .u8 0)], .agg [.lit (.int .u8 0), .lit (.int .u8 0)], .agg [.lit (.int .u8 0), .lit (.int .u8 0)], .agg [.lit (.int .u8 0), .lit (.int .u8 0)], .agg [.lit (.int .u8 0), .lit (.int .u8 0)], .agg [.lit (.int .u8 0), .lit (.int .u8 0)], .agg [.lit (.int .u8 0), .lit (.int .u8 0)], .agg [.lit (.int .u8 0), .lit (.int .u8 0)], .agg [.lit (.int .u8 0), .lit (.int .u8 0)]]
/-- One of Go's own tables, pinned by name: the form's constant. -/
def laid_unicode_CaseRanges : DataW Unit := Go.Pinned.caseRanges
/-- One of Go's own tables, pinned by name: the form's constant. -/
def laid_unicode_utf8_first : DataW Unit := Go.Pinned.utf8First

/-- 'laws.FnExactScoreParts': WHATEVER THE INPUT: true; the input reads as it did. -/
def fnExactScorePartsSpec : ChangeSpec := { name := "fnExactScoreParts", fn := fun _ => fun
  | [d1, d2, d3] => { results := [.lit (.bool true)], args := [d1, d2, d3] }
  | _ => none }
def fnExactScorePartsRow : OpenClaim := { program := "ytpkadgibfmjmcaagreatdoor", sum := "c1fde2b6e9abe818a0a50c39a581411f4138c9912b5c4148573eb2deaede981a", func := "loop.example/g00911/laws.FnExactScoreParts", spec := "fnExactScoreParts", inPlace := ["internal/bytealg.IndexByteString", "internal/abi.NoEscape", "internal/bytealg.MakeNoZero"], unfollowed := true, recurses := true, named := ["unicode/utf8.first", "unicode/utf8.acceptRanges", "unicode.CaseRanges"], apart := false, laid := [("unicode/utf8.acceptRanges", laid_unicode_utf8_acceptRanges), ("unicode.CaseRanges", laid_unicode_CaseRanges), ("unicode/utf8.first", laid_unicode_utf8_first)] }
def FnExactScorePartsSaid : Prop := fnExactScorePartsRow.holds Tryz.pinned (OpenSpec.ofChange fnExactScorePartsSpec)

/-- ITS FALSE NEIGHBOUR: 'it returns false'. Refute it at one input. -/
def fnExactScorePartsWrong : ChangeSpec := { name := "fnExactScoreParts", fn := fun _ => fun
  | [d1, d2, d3] => { results := [.lit (.bool false)], args := [d1, d2, d3] }
  | _ => none }
def FnExactScorePartsWrongFalsely : Prop := fnExactScorePartsRow.holds Tryz.pinned (OpenSpec.ofChange fnExactScorePartsWrong)

/-- 'laws.FnExactLegalPlay': WHATEVER THE INPUT: true; the input reads as it did. -/
def fnExactLegalPlaySpec : ChangeSpec := { name := "fnExactLegalPlay", fn := fun _ => fun
  | [d1, d2, d3, d4] => { results := [.lit (.bool true)], args := [d1, d2, d3, d4] }
  | _ => none }
def fnExactLegalPlayRow : OpenClaim := { program := "ytpkadgibfmjmcaagreatdoor", sum := "c1fde2b6e9abe818a0a50c39a581411f4138c9912b5c4148573eb2deaede981a", func := "loop.example/g00911/laws.FnExactLegalPlay", spec := "fnExactLegalPlay", inPlace := ["internal/bytealg.IndexByteString", "internal/abi.NoEscape", "internal/bytealg.MakeNoZero", "internal/bytealg.CountString", "internal/bytealg.IndexString"], unfollowed := true, recurses := true, named := ["unicode/utf8.first", "unicode/utf8.acceptRanges", "unicode.CaseRanges", "internal/bytealg.MaxLen"], apart := false, laid := [("unicode/utf8.acceptRanges", laid_unicode_utf8_acceptRanges), ("unicode.CaseRanges", laid_unicode_CaseRanges), ("unicode/utf8.first", laid_unicode_utf8_first)] }
def FnExactLegalPlaySaid : Prop := fnExactLegalPlayRow.holds Tryz.pinned (OpenSpec.ofChange fnExactLegalPlaySpec)

/-- ITS FALSE NEIGHBOUR: 'it returns false'. Refute it at one input. -/
def fnExactLegalPlayWrong : ChangeSpec := { name := "fnExactLegalPlay", fn := fun _ => fun
  | [d1, d2, d3, d4] => { results := [.lit (.bool false)], args := [d1, d2, d3, d4] }
  | _ => none }
def FnExactLegalPlayWrongFalsely : Prop := fnExactLegalPlayRow.holds Tryz.pinned (OpenSpec.ofChange fnExactLegalPlayWrong)

/-- 'laws.FnExactBestPlay': WHATEVER THE INPUT: true; the input reads as it did. -/
def fnExactBestPlaySpec : ChangeSpec := { name := "fnExactBestPlay", fn := fun _ => fun
  | [d1, d2, d3] => { results := [.lit (.bool true)], args := [d1, d2, d3] }
  | _ => none }
def fnExactBestPlayRow : OpenClaim := { program := "ytpkadgibfmjmcaagreatdoor", sum := "c1fde2b6e9abe818a0a50c39a581411f4138c9912b5c4148573eb2deaede981a", func := "loop.example/g00911/laws.FnExactBestPlay", spec := "fnExactBestPlay", inPlace := ["internal/bytealg.IndexByteString", "internal/abi.NoEscape", "internal/bytealg.MakeNoZero"], unfollowed := true, recurses := true, named := ["unicode/utf8.first", "unicode/utf8.acceptRanges", "unicode.CaseRanges"], apart := false, laid := [("unicode/utf8.acceptRanges", laid_unicode_utf8_acceptRanges), ("unicode.CaseRanges", laid_unicode_CaseRanges), ("unicode/utf8.first", laid_unicode_utf8_first)] }
def FnExactBestPlaySaid : Prop := fnExactBestPlayRow.holds Tryz.pinned (OpenSpec.ofChange fnExactBestPlaySpec)

/-- ITS FALSE NEIGHBOUR: 'it returns false'. Refute it at one input. -/
def fnExactBestPlayWrong : ChangeSpec := { name := "fnExactBestPlay", fn := fun _ => fun
  | [d1, d2, d3] => { results := [.lit (.bool false)], args := [d1, d2, d3] }
  | _ => none }
def FnExactBestPlayWrongFalsely : Prop := fnExactBestPlayRow.holds Tryz.pinned (OpenSpec.ofChange fnExactBestPlayWrong)

/-- 'laws.FnExactValidGame': WHATEVER THE INPUT: true; the input reads as it did. -/
def fnExactValidGameSpec : ChangeSpec := { name := "fnExactValidGame", fn := fun _ => fun
  | [d] => { results := [.lit (.bool true)], args := [d] }
  | _ => none }
def fnExactValidGameRow : OpenClaim := { program := "ytpkadgibfmjmcaagreatdoor", sum := "c1fde2b6e9abe818a0a50c39a581411f4138c9912b5c4148573eb2deaede981a", func := "loop.example/g00911/laws.FnExactValidGame", spec := "fnExactValidGame", inPlace := ["internal/bytealg.IndexByteString", "internal/bytealg.CountString", "internal/bytealg.IndexString", "internal/abi.NoEscape", "internal/bytealg.MakeNoZero"], unfollowed := true, recurses := true, named := ["internal/bytealg.MaxLen", "unicode/utf8.first", "unicode/utf8.acceptRanges", "unicode.CaseRanges"], apart := false, laid := [("unicode/utf8.acceptRanges", laid_unicode_utf8_acceptRanges), ("unicode.CaseRanges", laid_unicode_CaseRanges), ("unicode/utf8.first", laid_unicode_utf8_first)] }
def FnExactValidGameSaid : Prop := fnExactValidGameRow.holds Tryz.pinned (OpenSpec.ofChange fnExactValidGameSpec)

/-- ITS FALSE NEIGHBOUR: 'it returns false'. Refute it at one input. -/
def fnExactValidGameWrong : ChangeSpec := { name := "fnExactValidGame", fn := fun _ => fun
  | [d] => { results := [.lit (.bool false)], args := [d] }
  | _ => none }
def FnExactValidGameWrongFalsely : Prop := fnExactValidGameRow.holds Tryz.pinned (OpenSpec.ofChange fnExactValidGameWrong)

/-- 'laws.FnExactWinnerOf': WHATEVER THE INPUT: true; the input reads as it did. -/
def fnExactWinnerOfSpec : ChangeSpec := { name := "fnExactWinnerOf", fn := fun _ => fun
  | [d] => { results := [.lit (.bool true)], args := [d] }
  | _ => none }
def fnExactWinnerOfRow : OpenClaim := { program := "ytpkadgibfmjmcaagreatdoor", sum := "c1fde2b6e9abe818a0a50c39a581411f4138c9912b5c4148573eb2deaede981a", func := "loop.example/g00911/laws.FnExactWinnerOf", spec := "fnExactWinnerOf", inPlace := ["internal/bytealg.IndexByteString", "internal/bytealg.CountString", "internal/bytealg.IndexString", "internal/abi.NoEscape", "internal/bytealg.MakeNoZero"], unfollowed := true, recurses := true, named := ["internal/bytealg.MaxLen", "unicode/utf8.first", "unicode/utf8.acceptRanges", "unicode.CaseRanges"], apart := false, laid := [("unicode/utf8.acceptRanges", laid_unicode_utf8_acceptRanges), ("unicode.CaseRanges", laid_unicode_CaseRanges), ("unicode/utf8.first", laid_unicode_utf8_first)] }
def FnExactWinnerOfSaid : Prop := fnExactWinnerOfRow.holds Tryz.pinned (OpenSpec.ofChange fnExactWinnerOfSpec)

/-- ITS FALSE NEIGHBOUR: 'it returns false'. Refute it at one input. -/
def fnExactWinnerOfWrong : ChangeSpec := { name := "fnExactWinnerOf", fn := fun _ => fun
  | [d] => { results := [.lit (.bool false)], args := [d] }
  | _ => none }
def FnExactWinnerOfWrongFalsely : Prop := fnExactWinnerOfRow.holds Tryz.pinned (OpenSpec.ofChange fnExactWinnerOfWrong)

/-- 'laws.FnExactUnseenBy': WHATEVER THE INPUT: true; the input reads as it did. -/
def fnExactUnseenBySpec : ChangeSpec := { name := "fnExactUnseenBy", fn := fun _ => fun
  | [d1, d2] => { results := [.lit (.bool true)], args := [d1, d2] }
  | _ => none }
def fnExactUnseenByRow : OpenClaim := { program := "ytpkadgibfmjmcaagreatdoor", sum := "c1fde2b6e9abe818a0a50c39a581411f4138c9912b5c4148573eb2deaede981a", func := "loop.example/g00911/laws.FnExactUnseenBy", spec := "fnExactUnseenBy", inPlace := ["internal/bytealg.IndexByteString", "internal/bytealg.CountString", "internal/bytealg.IndexString", "internal/abi.NoEscape", "internal/bytealg.MakeNoZero"], unfollowed := true, recurses := true, named := ["internal/bytealg.MaxLen", "unicode/utf8.first", "unicode/utf8.acceptRanges", "unicode.CaseRanges"], apart := false, laid := [("unicode/utf8.acceptRanges", laid_unicode_utf8_acceptRanges), ("unicode.CaseRanges", laid_unicode_CaseRanges), ("unicode/utf8.first", laid_unicode_utf8_first)] }
def FnExactUnseenBySaid : Prop := fnExactUnseenByRow.holds Tryz.pinned (OpenSpec.ofChange fnExactUnseenBySpec)

/-- ITS FALSE NEIGHBOUR: 'it returns false'. Refute it at one input. -/
def fnExactUnseenByWrong : ChangeSpec := { name := "fnExactUnseenBy", fn := fun _ => fun
  | [d1, d2] => { results := [.lit (.bool false)], args := [d1, d2] }
  | _ => none }
def FnExactUnseenByWrongFalsely : Prop := fnExactUnseenByRow.holds Tryz.pinned (OpenSpec.ofChange fnExactUnseenByWrong)

/-- 'laws.FnExactCanChallenge': WHATEVER THE INPUT: true; the input reads as it did. -/
def fnExactCanChallengeSpec : ChangeSpec := { name := "fnExactCanChallenge", fn := fun _ => fun
  | [d] => { results := [.lit (.bool true)], args := [d] }
  | _ => none }
def fnExactCanChallengeRow : OpenClaim := { program := "ytpkadgibfmjmcaagreatdoor", sum := "c1fde2b6e9abe818a0a50c39a581411f4138c9912b5c4148573eb2deaede981a", func := "loop.example/g00911/laws.FnExactCanChallenge", spec := "fnExactCanChallenge", inPlace := ["internal/bytealg.IndexByteString", "internal/bytealg.CountString", "internal/bytealg.IndexString", "internal/abi.NoEscape", "internal/bytealg.MakeNoZero"], unfollowed := true, recurses := true, named := ["internal/bytealg.MaxLen", "unicode/utf8.first", "unicode/utf8.acceptRanges", "unicode.CaseRanges"], apart := false, laid := [("unicode/utf8.acceptRanges", laid_unicode_utf8_acceptRanges), ("unicode.CaseRanges", laid_unicode_CaseRanges), ("unicode/utf8.first", laid_unicode_utf8_first)] }
def FnExactCanChallengeSaid : Prop := fnExactCanChallengeRow.holds Tryz.pinned (OpenSpec.ofChange fnExactCanChallengeSpec)

/-- ITS FALSE NEIGHBOUR: 'it returns false'. Refute it at one input. -/
def fnExactCanChallengeWrong : ChangeSpec := { name := "fnExactCanChallenge", fn := fun _ => fun
  | [d] => { results := [.lit (.bool false)], args := [d] }
  | _ => none }
def FnExactCanChallengeWrongFalsely : Prop := fnExactCanChallengeRow.holds Tryz.pinned (OpenSpec.ofChange fnExactCanChallengeWrong)

/- THE SECOND FORM. 'bulk': how many values and letters a reading holds, each counted each time it is reached (what is shared counts as often as it is met; a slice's spare places count too). A statement '..UptoSaid' is the law's where the arguments, and the package variables that the reading takes, are together of bulk at most 1048576: NARROWER than '..Said'. Prove '..Said' where nothing that the law and all that it calls make is longer than what came in: it says more and counts as full. Else prove '..UptoSaid'. A law counts once. -/
mutual
def uptoBulk {H : Type} : DataW H → Nat
  | .lit (.string bytes) => bytes.length + 1
  | .lit _ => 1
  | .nil => 1
  | .ptr d => uptoBulk d + 1
  | .slice elems spare => uptoBulkAll elems + uptoBulkAll spare + 1
  | .agg parts => uptoBulkAll parts + 1
  | .iface _ d => uptoBulk d + 1
  | .map entries => uptoBulkEntries entries + 1
  | .held _ => 1
def uptoBulkAll {H : Type} : List (DataW H) → Nat
  | [] => 0
  | d :: r => uptoBulk d + uptoBulkAll r
def uptoBulkEntries {H : Type} : List (Lit × DataW H) → Nat
  | [] => 0
  | x :: r => uptoBulkEntry x + uptoBulkEntries r
def uptoBulkEntry {H : Type} : Lit × DataW H → Nat
  | (.string bytes, d) => bytes.length + uptoBulk d + 1
  | (_, d) => uptoBulk d + 1
 end
def uptoSmall : (H : Type) → List (DataW H) → Bool := fun _ ds => decide (uptoBulkAll ds ≤ 1048576)
def OpenSpec.upto (s : _root_.Go.ChangeSpec) : _root_.Go.OpenSpec := { _root_.Go.OpenSpec.ofChange s with cond := some uptoSmall }

/-- 'laws.FnExactScoreParts', WHERE WHAT IT READS IS OF BULK AT MOST 1048576: true; the input reads as it did. -/
def fnExactScorePartsUptoRow : OpenClaim := { program := "ytpkadgibfmjmcaagreatdoor", sum := "c1fde2b6e9abe818a0a50c39a581411f4138c9912b5c4148573eb2deaede981a", func := "loop.example/g00911/laws.FnExactScoreParts", spec := "fnExactScoreParts", inPlace := ["internal/bytealg.IndexByteString", "internal/abi.NoEscape", "internal/bytealg.MakeNoZero"], unfollowed := true, recurses := true, named := ["unicode/utf8.first", "unicode/utf8.acceptRanges", "unicode.CaseRanges"], apart := false, laid := [("unicode/utf8.acceptRanges", laid_unicode_utf8_acceptRanges), ("unicode.CaseRanges", laid_unicode_CaseRanges), ("unicode/utf8.first", laid_unicode_utf8_first)], narrowed := true }
def FnExactScorePartsUptoSaid : Prop := fnExactScorePartsUptoRow.holds Tryz.pinned (OpenSpec.upto fnExactScorePartsSpec)

/-- 'laws.FnExactLegalPlay', WHERE WHAT IT READS IS OF BULK AT MOST 1048576: true; the input reads as it did. -/
def fnExactLegalPlayUptoRow : OpenClaim := { program := "ytpkadgibfmjmcaagreatdoor", sum := "c1fde2b6e9abe818a0a50c39a581411f4138c9912b5c4148573eb2deaede981a", func := "loop.example/g00911/laws.FnExactLegalPlay", spec := "fnExactLegalPlay", inPlace := ["internal/bytealg.IndexByteString", "internal/abi.NoEscape", "internal/bytealg.MakeNoZero", "internal/bytealg.CountString", "internal/bytealg.IndexString"], unfollowed := true, recurses := true, named := ["unicode/utf8.first", "unicode/utf8.acceptRanges", "unicode.CaseRanges", "internal/bytealg.MaxLen"], apart := false, laid := [("unicode/utf8.acceptRanges", laid_unicode_utf8_acceptRanges), ("unicode.CaseRanges", laid_unicode_CaseRanges), ("unicode/utf8.first", laid_unicode_utf8_first)], narrowed := true }
def FnExactLegalPlayUptoSaid : Prop := fnExactLegalPlayUptoRow.holds Tryz.pinned (OpenSpec.upto fnExactLegalPlaySpec)

/-- 'laws.FnExactBestPlay', WHERE WHAT IT READS IS OF BULK AT MOST 1048576: true; the input reads as it did. -/
def fnExactBestPlayUptoRow : OpenClaim := { program := "ytpkadgibfmjmcaagreatdoor", sum := "c1fde2b6e9abe818a0a50c39a581411f4138c9912b5c4148573eb2deaede981a", func := "loop.example/g00911/laws.FnExactBestPlay", spec := "fnExactBestPlay", inPlace := ["internal/bytealg.IndexByteString", "internal/abi.NoEscape", "internal/bytealg.MakeNoZero"], unfollowed := true, recurses := true, named := ["unicode/utf8.first", "unicode/utf8.acceptRanges", "unicode.CaseRanges"], apart := false, laid := [("unicode/utf8.acceptRanges", laid_unicode_utf8_acceptRanges), ("unicode.CaseRanges", laid_unicode_CaseRanges), ("unicode/utf8.first", laid_unicode_utf8_first)], narrowed := true }
def FnExactBestPlayUptoSaid : Prop := fnExactBestPlayUptoRow.holds Tryz.pinned (OpenSpec.upto fnExactBestPlaySpec)

/-- 'laws.FnExactValidGame', WHERE WHAT IT READS IS OF BULK AT MOST 1048576: true; the input reads as it did. -/
def fnExactValidGameUptoRow : OpenClaim := { program := "ytpkadgibfmjmcaagreatdoor", sum := "c1fde2b6e9abe818a0a50c39a581411f4138c9912b5c4148573eb2deaede981a", func := "loop.example/g00911/laws.FnExactValidGame", spec := "fnExactValidGame", inPlace := ["internal/bytealg.IndexByteString", "internal/bytealg.CountString", "internal/bytealg.IndexString", "internal/abi.NoEscape", "internal/bytealg.MakeNoZero"], unfollowed := true, recurses := true, named := ["internal/bytealg.MaxLen", "unicode/utf8.first", "unicode/utf8.acceptRanges", "unicode.CaseRanges"], apart := false, laid := [("unicode/utf8.acceptRanges", laid_unicode_utf8_acceptRanges), ("unicode.CaseRanges", laid_unicode_CaseRanges), ("unicode/utf8.first", laid_unicode_utf8_first)], narrowed := true }
def FnExactValidGameUptoSaid : Prop := fnExactValidGameUptoRow.holds Tryz.pinned (OpenSpec.upto fnExactValidGameSpec)

/-- 'laws.FnExactWinnerOf', WHERE WHAT IT READS IS OF BULK AT MOST 1048576: true; the input reads as it did. -/
def fnExactWinnerOfUptoRow : OpenClaim := { program := "ytpkadgibfmjmcaagreatdoor", sum := "c1fde2b6e9abe818a0a50c39a581411f4138c9912b5c4148573eb2deaede981a", func := "loop.example/g00911/laws.FnExactWinnerOf", spec := "fnExactWinnerOf", inPlace := ["internal/bytealg.IndexByteString", "internal/bytealg.CountString", "internal/bytealg.IndexString", "internal/abi.NoEscape", "internal/bytealg.MakeNoZero"], unfollowed := true, recurses := true, named := ["internal/bytealg.MaxLen", "unicode/utf8.first", "unicode/utf8.acceptRanges", "unicode.CaseRanges"], apart := false, laid := [("unicode/utf8.acceptRanges", laid_unicode_utf8_acceptRanges), ("unicode.CaseRanges", laid_unicode_CaseRanges), ("unicode/utf8.first", laid_unicode_utf8_first)], narrowed := true }
def FnExactWinnerOfUptoSaid : Prop := fnExactWinnerOfUptoRow.holds Tryz.pinned (OpenSpec.upto fnExactWinnerOfSpec)

/-- 'laws.FnExactUnseenBy', WHERE WHAT IT READS IS OF BULK AT MOST 1048576: true; the input reads as it did. -/
def fnExactUnseenByUptoRow : OpenClaim := { program := "ytpkadgibfmjmcaagreatdoor", sum := "c1fde2b6e9abe818a0a50c39a581411f4138c9912b5c4148573eb2deaede981a", func := "loop.example/g00911/laws.FnExactUnseenBy", spec := "fnExactUnseenBy", inPlace := ["internal/bytealg.IndexByteString", "internal/bytealg.CountString", "internal/bytealg.IndexString", "internal/abi.NoEscape", "internal/bytealg.MakeNoZero"], unfollowed := true, recurses := true, named := ["internal/bytealg.MaxLen", "unicode/utf8.first", "unicode/utf8.acceptRanges", "unicode.CaseRanges"], apart := false, laid := [("unicode/utf8.acceptRanges", laid_unicode_utf8_acceptRanges), ("unicode.CaseRanges", laid_unicode_CaseRanges), ("unicode/utf8.first", laid_unicode_utf8_first)], narrowed := true }
def FnExactUnseenByUptoSaid : Prop := fnExactUnseenByUptoRow.holds Tryz.pinned (OpenSpec.upto fnExactUnseenBySpec)

/-- 'laws.FnExactCanChallenge', WHERE WHAT IT READS IS OF BULK AT MOST 1048576: true; the input reads as it did. -/
def fnExactCanChallengeUptoRow : OpenClaim := { program := "ytpkadgibfmjmcaagreatdoor", sum := "c1fde2b6e9abe818a0a50c39a581411f4138c9912b5c4148573eb2deaede981a", func := "loop.example/g00911/laws.FnExactCanChallenge", spec := "fnExactCanChallenge", inPlace := ["internal/bytealg.IndexByteString", "internal/bytealg.CountString", "internal/bytealg.IndexString", "internal/abi.NoEscape", "internal/bytealg.MakeNoZero"], unfollowed := true, recurses := true, named := ["internal/bytealg.MaxLen", "unicode/utf8.first", "unicode/utf8.acceptRanges", "unicode.CaseRanges"], apart := false, laid := [("unicode/utf8.acceptRanges", laid_unicode_utf8_acceptRanges), ("unicode.CaseRanges", laid_unicode_CaseRanges), ("unicode/utf8.first", laid_unicode_utf8_first)], narrowed := true }
def FnExactCanChallengeUptoSaid : Prop := fnExactCanChallengeUptoRow.holds Tryz.pinned (OpenSpec.upto fnExactCanChallengeSpec)

end Rows
end Go.Proofs.YtpkadgibfmjmcaaGreatDoor
