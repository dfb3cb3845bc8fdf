/-
  No cell of these rows narrows 'for every input' (looked for: loops, veiled, ifaces, maps, wideKeys, modest, calm, conditions, laid).
  DERIVED. THE GIVEN ROWS OF THIS SEAT. 9 by the template 'for every input the law returns true; each argument reads behind the call as it read before'; 0 by the template 'total and deterministic' (their statements: YtpodkgfapbcmlaaTotals.lean).
  GIVEN WITH THE SEED: the statements are not yours to turn. If you find one false, say at which input.
  Laid BY PROGRAM, IN A SANDBOX (cutbox-rows.mjs): the forced cells as the released guide's own fill.sh prints them over the translation 5607076cc9563648… (all of the seat's roots in one cut). By AI agents, Wed Nov 11 2026. No macro, syntax, notation, axiom, sorry.
-/
import Derived.Test.YtpodkgfapbcmlaaChecked
import GoSem.Claim
import GoSem.ClaimJoined
import GoSem.ClaimMapViews
import Derived.JoinedTies
import Derived.KernelRfl
namespace Go.Proofs.Ytpodkgfapbcmlaa
/- THE CELL 'sum', in the pinned program and in every row, IS THE sha256 OF THE DUMP (.gsa) THAT YtpodkgfapbcmlaaProg.lean LOADS. Nothing in Lean hashes anything: it is a label: what it is worth is what the hold of that sum in a sandbox is worth. -/
noncomputable def Try.pinned : Pinned := { name := "ytpodkgfapbcmlaa", sum := "5607076cc95636483644e84f98cdae238b755ff2c7b420f7a6c05e0bc576826a", checked := Try.checked }
namespace Rows
def none {H : Type} : Left H := { results := [], args := [] }

/-- 'laws.FnExactRatingOf': WHATEVER THE INPUT: true; the input reads as it did. -/
def fnExactRatingOfSpec : ChangeSpec := { name := "fnExactRatingOf", fn := fun _ => fun
  | [d1, d2] => { results := [.lit (.bool true)], args := [d1, d2] }
  | _ => none }
def fnExactRatingOfRow : OpenClaim := { program := "ytpodkgfapbcmlaa", sum := "5607076cc95636483644e84f98cdae238b755ff2c7b420f7a6c05e0bc576826a", func := "loop.example/g00911/laws.FnExactRatingOf", spec := "fnExactRatingOf", unfollowed := true, recurses := true, apart := false }
def FnExactRatingOfSaid : Prop := fnExactRatingOfRow.holds Try.pinned (OpenSpec.ofChange fnExactRatingOfSpec)

/-- ITS FALSE NEIGHBOUR: 'it returns false'. Refute it at one input. -/
def fnExactRatingOfWrong : ChangeSpec := { name := "fnExactRatingOf", fn := fun _ => fun
  | [d1, d2] => { results := [.lit (.bool false)], args := [d1, d2] }
  | _ => none }
def FnExactRatingOfWrongFalsely : Prop := fnExactRatingOfRow.holds Try.pinned (OpenSpec.ofChange fnExactRatingOfWrong)

/-- 'laws.FnExactRateResult': WHATEVER THE INPUT: true; the input reads as it did. -/
def fnExactRateResultSpec : ChangeSpec := { name := "fnExactRateResult", fn := fun _ => fun
  | [d1, d2] => { results := [.lit (.bool true)], args := [d1, d2] }
  | _ => none }
def fnExactRateResultRow : OpenClaim := { program := "ytpodkgfapbcmlaa", sum := "5607076cc95636483644e84f98cdae238b755ff2c7b420f7a6c05e0bc576826a", func := "loop.example/g00911/laws.FnExactRateResult", spec := "fnExactRateResult", unfollowed := true, recurses := true, apart := false }
def FnExactRateResultSaid : Prop := fnExactRateResultRow.holds Try.pinned (OpenSpec.ofChange fnExactRateResultSpec)

/-- ITS FALSE NEIGHBOUR: 'it returns false'. Refute it at one input. -/
def fnExactRateResultWrong : ChangeSpec := { name := "fnExactRateResult", fn := fun _ => fun
  | [d1, d2] => { results := [.lit (.bool false)], args := [d1, d2] }
  | _ => none }
def FnExactRateResultWrongFalsely : Prop := fnExactRateResultRow.holds Try.pinned (OpenSpec.ofChange fnExactRateResultWrong)

/-- 'laws.FnExactRateAll': WHATEVER THE INPUT: true; the input reads as it did. -/
def fnExactRateAllSpec : ChangeSpec := { name := "fnExactRateAll", fn := fun _ => fun
  | [d1, d2] => { results := [.lit (.bool true)], args := [d1, d2] }
  | _ => none }
def fnExactRateAllRow : OpenClaim := { program := "ytpodkgfapbcmlaa", sum := "5607076cc95636483644e84f98cdae238b755ff2c7b420f7a6c05e0bc576826a", func := "loop.example/g00911/laws.FnExactRateAll", spec := "fnExactRateAll", unfollowed := true, recurses := true, apart := false }
def FnExactRateAllSaid : Prop := fnExactRateAllRow.holds Try.pinned (OpenSpec.ofChange fnExactRateAllSpec)

/-- ITS FALSE NEIGHBOUR: 'it returns false'. Refute it at one input. -/
def fnExactRateAllWrong : ChangeSpec := { name := "fnExactRateAll", fn := fun _ => fun
  | [d1, d2] => { results := [.lit (.bool false)], args := [d1, d2] }
  | _ => none }
def FnExactRateAllWrongFalsely : Prop := fnExactRateAllRow.holds Try.pinned (OpenSpec.ofChange fnExactRateAllWrong)

/-- 'laws.FnExactAddMember': WHATEVER THE INPUT: true; the input reads as it did. -/
def fnExactAddMemberSpec : ChangeSpec := { name := "fnExactAddMember", fn := fun _ => fun
  | [d1, d2] => { results := [.lit (.bool true)], args := [d1, d2] }
  | _ => none }
def fnExactAddMemberRow : OpenClaim := { program := "ytpodkgfapbcmlaa", sum := "5607076cc95636483644e84f98cdae238b755ff2c7b420f7a6c05e0bc576826a", func := "loop.example/g00911/laws.FnExactAddMember", spec := "fnExactAddMember", inPlace := ["internal/reflectlite.ValueOf", "internal/reflectlite.Swapper", "(internal/reflectlite.Value).Len"], unfollowed := true, recurses := true, apart := false }
def FnExactAddMemberSaid : Prop := fnExactAddMemberRow.holds Try.pinned (OpenSpec.ofChange fnExactAddMemberSpec)

/-- ITS FALSE NEIGHBOUR: 'it returns false'. Refute it at one input. -/
def fnExactAddMemberWrong : ChangeSpec := { name := "fnExactAddMember", fn := fun _ => fun
  | [d1, d2] => { results := [.lit (.bool false)], args := [d1, d2] }
  | _ => none }
def FnExactAddMemberWrongFalsely : Prop := fnExactAddMemberRow.holds Try.pinned (OpenSpec.ofChange fnExactAddMemberWrong)

/-- 'laws.FnRatings': WHATEVER THE INPUT: true; the input reads as it did. -/
def fnRatingsSpec : ChangeSpec := { name := "fnRatings", fn := fun _ => fun
  | [d] => { results := [.lit (.bool true)], args := [d] }
  | _ => none }
def fnRatingsRow : OpenClaim := { program := "ytpodkgfapbcmlaa", sum := "5607076cc95636483644e84f98cdae238b755ff2c7b420f7a6c05e0bc576826a", func := "loop.example/g00911/laws.FnRatings", spec := "fnRatings", inPlace := ["internal/reflectlite.ValueOf", "internal/reflectlite.Swapper", "(internal/reflectlite.Value).Len"], unfollowed := true, recurses := true, apart := false }
def FnRatingsSaid : Prop := fnRatingsRow.holds Try.pinned (OpenSpec.ofChange fnRatingsSpec)

/-- ITS FALSE NEIGHBOUR: 'it returns false'. Refute it at one input. -/
def fnRatingsWrong : ChangeSpec := { name := "fnRatings", fn := fun _ => fun
  | [d] => { results := [.lit (.bool false)], args := [d] }
  | _ => none }
def FnRatingsWrongFalsely : Prop := fnRatingsRow.holds Try.pinned (OpenSpec.ofChange fnRatingsWrong)

/-- 'laws.FnTables': WHATEVER THE INPUT: true; the input reads as it did. -/
def fnTablesSpec : ChangeSpec := { name := "fnTables", fn := fun _ => fun
  | [d] => { results := [.lit (.bool true)], args := [d] }
  | _ => none }
def fnTablesRow : OpenClaim := { program := "ytpodkgfapbcmlaa", sum := "5607076cc95636483644e84f98cdae238b755ff2c7b420f7a6c05e0bc576826a", func := "loop.example/g00911/laws.FnTables", spec := "fnTables", inPlace := ["internal/reflectlite.ValueOf", "internal/reflectlite.Swapper", "(internal/reflectlite.Value).Len"], unfollowed := true, recurses := true, apart := false }
def FnTablesSaid : Prop := fnTablesRow.holds Try.pinned (OpenSpec.ofChange fnTablesSpec)

/-- ITS FALSE NEIGHBOUR: 'it returns false'. Refute it at one input. -/
def fnTablesWrong : ChangeSpec := { name := "fnTables", fn := fun _ => fun
  | [d] => { results := [.lit (.bool false)], args := [d] }
  | _ => none }
def FnTablesWrongFalsely : Prop := fnTablesRow.holds Try.pinned (OpenSpec.ofChange fnTablesWrong)

/-- 'laws.FnExactStandingsOf': WHATEVER THE INPUT: true; the input reads as it did. -/
def fnExactStandingsOfSpec : ChangeSpec := { name := "fnExactStandingsOf", fn := fun _ => fun
  | [d1, d2] => { results := [.lit (.bool true)], args := [d1, d2] }
  | _ => none }
def fnExactStandingsOfRow : OpenClaim := { program := "ytpodkgfapbcmlaa", sum := "5607076cc95636483644e84f98cdae238b755ff2c7b420f7a6c05e0bc576826a", func := "loop.example/g00911/laws.FnExactStandingsOf", spec := "fnExactStandingsOf", inPlace := ["internal/reflectlite.ValueOf", "internal/reflectlite.Swapper", "(internal/reflectlite.Value).Len"], unfollowed := true, recurses := true, apart := false }
def FnExactStandingsOfSaid : Prop := fnExactStandingsOfRow.holds Try.pinned (OpenSpec.ofChange fnExactStandingsOfSpec)

/-- ITS FALSE NEIGHBOUR: 'it returns false'. Refute it at one input. -/
def fnExactStandingsOfWrong : ChangeSpec := { name := "fnExactStandingsOf", fn := fun _ => fun
  | [d1, d2] => { results := [.lit (.bool false)], args := [d1, d2] }
  | _ => none }
def FnExactStandingsOfWrongFalsely : Prop := fnExactStandingsOfRow.holds Try.pinned (OpenSpec.ofChange fnExactStandingsOfWrong)

/-- 'laws.FnRounds': WHATEVER THE INPUT: true; the input reads as it did. -/
def fnRoundsSpec : ChangeSpec := { name := "fnRounds", fn := fun _ => fun
  | [d] => { results := [.lit (.bool true)], args := [d] }
  | _ => none }
def fnRoundsRow : OpenClaim := { program := "ytpodkgfapbcmlaa", sum := "5607076cc95636483644e84f98cdae238b755ff2c7b420f7a6c05e0bc576826a", func := "loop.example/g00911/laws.FnRounds", spec := "fnRounds", inPlace := ["internal/reflectlite.ValueOf", "internal/reflectlite.Swapper", "(internal/reflectlite.Value).Len"], unfollowed := true, recurses := true, apart := false }
def FnRoundsSaid : Prop := fnRoundsRow.holds Try.pinned (OpenSpec.ofChange fnRoundsSpec)

/-- ITS FALSE NEIGHBOUR: 'it returns false'. Refute it at one input. -/
def fnRoundsWrong : ChangeSpec := { name := "fnRounds", fn := fun _ => fun
  | [d] => { results := [.lit (.bool false)], args := [d] }
  | _ => none }
def FnRoundsWrongFalsely : Prop := fnRoundsRow.holds Try.pinned (OpenSpec.ofChange fnRoundsWrong)

/-- 'laws.FnExactPairRound': WHATEVER THE INPUT: true; the input reads as it did. -/
def fnExactPairRoundSpec : ChangeSpec := { name := "fnExactPairRound", fn := fun _ => fun
  | [d1, d2] => { results := [.lit (.bool true)], args := [d1, d2] }
  | _ => none }
def fnExactPairRoundRow : OpenClaim := { program := "ytpodkgfapbcmlaa", sum := "5607076cc95636483644e84f98cdae238b755ff2c7b420f7a6c05e0bc576826a", func := "loop.example/g00911/laws.FnExactPairRound", spec := "fnExactPairRound", inPlace := ["internal/reflectlite.ValueOf", "internal/reflectlite.Swapper", "(internal/reflectlite.Value).Len"], unfollowed := true, recurses := true, apart := false }
def FnExactPairRoundSaid : Prop := fnExactPairRoundRow.holds Try.pinned (OpenSpec.ofChange fnExactPairRoundSpec)

/-- ITS FALSE NEIGHBOUR: 'it returns false'. Refute it at one input. -/
def fnExactPairRoundWrong : ChangeSpec := { name := "fnExactPairRound", fn := fun _ => fun
  | [d1, d2] => { results := [.lit (.bool false)], args := [d1, d2] }
  | _ => none }
def FnExactPairRoundWrongFalsely : Prop := fnExactPairRoundRow.holds Try.pinned (OpenSpec.ofChange fnExactPairRoundWrong)

/- THE SECOND FORM. 'bulk': how many values and letters a reading holds, each counted each time it is reached (what is shared counts as often as it is met; a slice's spare places count too). A statement '..UptoSaid' is the law's where the arguments, and the package variables that the reading takes, are together of bulk at most 1048576: NARROWER than '..Said'. Prove '..Said' where nothing that the law and all that it calls make is longer than what came in: it says more and counts as full. Else prove '..UptoSaid'. A law counts once. -/
mutual
def uptoBulk {H : Type} : DataW H → Nat
  | .lit (.string bytes) => bytes.length + 1
  | .lit _ => 1
  | .nil => 1
  | .ptr d => uptoBulk d + 1
  | .slice elems spare => uptoBulkAll elems + uptoBulkAll spare + 1
  | .agg parts => uptoBulkAll parts + 1
  | .iface _ d => uptoBulk d + 1
  | .map entries => uptoBulkEntries entries + 1
  | .held _ => 1
def uptoBulkAll {H : Type} : List (DataW H) → Nat
  | [] => 0
  | d :: r => uptoBulk d + uptoBulkAll r
def uptoBulkEntries {H : Type} : List (Lit × DataW H) → Nat
  | [] => 0
  | x :: r => uptoBulkEntry x + uptoBulkEntries r
def uptoBulkEntry {H : Type} : Lit × DataW H → Nat
  | (.string bytes, d) => bytes.length + uptoBulk d + 1
  | (_, d) => uptoBulk d + 1
 end
def uptoSmall : (H : Type) → List (DataW H) → Bool := fun _ ds => decide (uptoBulkAll ds ≤ 1048576)
def OpenSpec.upto (s : _root_.Go.ChangeSpec) : _root_.Go.OpenSpec := { _root_.Go.OpenSpec.ofChange s with cond := some uptoSmall }

/-- 'laws.FnExactRatingOf', WHERE WHAT IT READS IS OF BULK AT MOST 1048576: true; the input reads as it did. -/
def fnExactRatingOfUptoRow : OpenClaim := { program := "ytpodkgfapbcmlaa", sum := "5607076cc95636483644e84f98cdae238b755ff2c7b420f7a6c05e0bc576826a", func := "loop.example/g00911/laws.FnExactRatingOf", spec := "fnExactRatingOf", unfollowed := true, recurses := true, apart := false, narrowed := true }
def FnExactRatingOfUptoSaid : Prop := fnExactRatingOfUptoRow.holds Try.pinned (OpenSpec.upto fnExactRatingOfSpec)

/-- 'laws.FnExactRateResult', WHERE WHAT IT READS IS OF BULK AT MOST 1048576: true; the input reads as it did. -/
def fnExactRateResultUptoRow : OpenClaim := { program := "ytpodkgfapbcmlaa", sum := "5607076cc95636483644e84f98cdae238b755ff2c7b420f7a6c05e0bc576826a", func := "loop.example/g00911/laws.FnExactRateResult", spec := "fnExactRateResult", unfollowed := true, recurses := true, apart := false, narrowed := true }
def FnExactRateResultUptoSaid : Prop := fnExactRateResultUptoRow.holds Try.pinned (OpenSpec.upto fnExactRateResultSpec)

/-- 'laws.FnExactRateAll', WHERE WHAT IT READS IS OF BULK AT MOST 1048576: true; the input reads as it did. -/
def fnExactRateAllUptoRow : OpenClaim := { program := "ytpodkgfapbcmlaa", sum := "5607076cc95636483644e84f98cdae238b755ff2c7b420f7a6c05e0bc576826a", func := "loop.example/g00911/laws.FnExactRateAll", spec := "fnExactRateAll", unfollowed := true, recurses := true, apart := false, narrowed := true }
def FnExactRateAllUptoSaid : Prop := fnExactRateAllUptoRow.holds Try.pinned (OpenSpec.upto fnExactRateAllSpec)

/-- 'laws.FnExactAddMember', WHERE WHAT IT READS IS OF BULK AT MOST 1048576: true; the input reads as it did. -/
def fnExactAddMemberUptoRow : OpenClaim := { program := "ytpodkgfapbcmlaa", sum := "5607076cc95636483644e84f98cdae238b755ff2c7b420f7a6c05e0bc576826a", func := "loop.example/g00911/laws.FnExactAddMember", spec := "fnExactAddMember", inPlace := ["internal/reflectlite.ValueOf", "internal/reflectlite.Swapper", "(internal/reflectlite.Value).Len"], unfollowed := true, recurses := true, apart := false, narrowed := true }
def FnExactAddMemberUptoSaid : Prop := fnExactAddMemberUptoRow.holds Try.pinned (OpenSpec.upto fnExactAddMemberSpec)

/-- 'laws.FnRatings', WHERE WHAT IT READS IS OF BULK AT MOST 1048576: true; the input reads as it did. -/
def fnRatingsUptoRow : OpenClaim := { program := "ytpodkgfapbcmlaa", sum := "5607076cc95636483644e84f98cdae238b755ff2c7b420f7a6c05e0bc576826a", func := "loop.example/g00911/laws.FnRatings", spec := "fnRatings", inPlace := ["internal/reflectlite.ValueOf", "internal/reflectlite.Swapper", "(internal/reflectlite.Value).Len"], unfollowed := true, recurses := true, apart := false, narrowed := true }
def FnRatingsUptoSaid : Prop := fnRatingsUptoRow.holds Try.pinned (OpenSpec.upto fnRatingsSpec)

/-- 'laws.FnTables', WHERE WHAT IT READS IS OF BULK AT MOST 1048576: true; the input reads as it did. -/
def fnTablesUptoRow : OpenClaim := { program := "ytpodkgfapbcmlaa", sum := "5607076cc95636483644e84f98cdae238b755ff2c7b420f7a6c05e0bc576826a", func := "loop.example/g00911/laws.FnTables", spec := "fnTables", inPlace := ["internal/reflectlite.ValueOf", "internal/reflectlite.Swapper", "(internal/reflectlite.Value).Len"], unfollowed := true, recurses := true, apart := false, narrowed := true }
def FnTablesUptoSaid : Prop := fnTablesUptoRow.holds Try.pinned (OpenSpec.upto fnTablesSpec)

/-- 'laws.FnExactStandingsOf', WHERE WHAT IT READS IS OF BULK AT MOST 1048576: true; the input reads as it did. -/
def fnExactStandingsOfUptoRow : OpenClaim := { program := "ytpodkgfapbcmlaa", sum := "5607076cc95636483644e84f98cdae238b755ff2c7b420f7a6c05e0bc576826a", func := "loop.example/g00911/laws.FnExactStandingsOf", spec := "fnExactStandingsOf", inPlace := ["internal/reflectlite.ValueOf", "internal/reflectlite.Swapper", "(internal/reflectlite.Value).Len"], unfollowed := true, recurses := true, apart := false, narrowed := true }
def FnExactStandingsOfUptoSaid : Prop := fnExactStandingsOfUptoRow.holds Try.pinned (OpenSpec.upto fnExactStandingsOfSpec)

/-- 'laws.FnRounds', WHERE WHAT IT READS IS OF BULK AT MOST 1048576: true; the input reads as it did. -/
def fnRoundsUptoRow : OpenClaim := { program := "ytpodkgfapbcmlaa", sum := "5607076cc95636483644e84f98cdae238b755ff2c7b420f7a6c05e0bc576826a", func := "loop.example/g00911/laws.FnRounds", spec := "fnRounds", inPlace := ["internal/reflectlite.ValueOf", "internal/reflectlite.Swapper", "(internal/reflectlite.Value).Len"], unfollowed := true, recurses := true, apart := false, narrowed := true }
def FnRoundsUptoSaid : Prop := fnRoundsUptoRow.holds Try.pinned (OpenSpec.upto fnRoundsSpec)

/-- 'laws.FnExactPairRound', WHERE WHAT IT READS IS OF BULK AT MOST 1048576: true; the input reads as it did. -/
def fnExactPairRoundUptoRow : OpenClaim := { program := "ytpodkgfapbcmlaa", sum := "5607076cc95636483644e84f98cdae238b755ff2c7b420f7a6c05e0bc576826a", func := "loop.example/g00911/laws.FnExactPairRound", spec := "fnExactPairRound", inPlace := ["internal/reflectlite.ValueOf", "internal/reflectlite.Swapper", "(internal/reflectlite.Value).Len"], unfollowed := true, recurses := true, apart := false, narrowed := true }
def FnExactPairRoundUptoSaid : Prop := fnExactPairRoundUptoRow.holds Try.pinned (OpenSpec.upto fnExactPairRoundSpec)

end Rows
end Go.Proofs.Ytpodkgfapbcmlaa
