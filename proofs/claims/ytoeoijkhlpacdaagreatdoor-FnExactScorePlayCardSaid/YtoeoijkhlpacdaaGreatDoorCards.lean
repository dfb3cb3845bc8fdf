/-
  DERIVED. GIVEN WITH THE SEED: THE CARDS: each row of YtoeoijkhlpacdaaGreatDoorRows.lean that lists a variable, with what it lists TIED to the program's text (the seventh form; the later family's looks); each row that meets fmt, with fmt's text TOLD by the authors' own Lean function (tested against real Go, not proved from fmt's source: count such statements apart). THE CARD IS WHAT COUNTS. Prove the row's statement (the work); the ties are given (YtoeoijkhlpacdaaGreatDoorTie.lean); close each card by the builder's one call (the guide's Derived/Test/ToyasCard.lean, 'card_holds'). Laid BY PROGRAM, IN A SANDBOX (cutbox-door.mjs). By AI agents, Wed Nov 11 2026. No macro, syntax, notation, axiom, sorry.
-/
import Derived.Test.YtoeoijkhlpacdaaGreatDoorRows
import GoSem.ClaimSeven
namespace Go.Proofs.YtoeoijkhlpacdaaGreatDoor
namespace Rows

/-- THE TIED CARD OF 'laws.FnExactCrossLetters'. -/
def fnExactCrossLettersCard : Claim7 := { stood := { row := fnExactCrossLettersRow, standIns := [], harness := (true, "d96d266c6ccdb224d1e63341ed23bf66426e90f8e71452352ffccb47701f3949"), looks := false }, kinds := [], alts := [], laidByText := true, laidKinds := [.data, .data, .data, .data, .pinned, .pinned], laidTests := true, laidLooks := .later }
def FnExactCrossLettersCardSaid : Prop := Claim7.holds Tryz.pinned (.plain (OpenSpec.ofChange fnExactCrossLettersSpec)) fnExactCrossLettersCard

/-- THE TIED CARD OF 'laws.FnExactCrossTable'. -/
def fnExactCrossTableCard : Claim7 := { stood := { row := fnExactCrossTableRow, standIns := [], harness := (true, "d96d266c6ccdb224d1e63341ed23bf66426e90f8e71452352ffccb47701f3949"), looks := false }, kinds := [], alts := [], laidByText := true, laidKinds := [.data, .data, .data, .data, .pinned, .pinned], laidTests := true, laidLooks := .later }
def FnExactCrossTableCardSaid : Prop := Claim7.holds Tryz.pinned (.plain (OpenSpec.ofChange fnExactCrossTableSpec)) fnExactCrossTableCard

/-- THE TIED CARD OF 'laws.FnExactDeadSquares'. -/
def fnExactDeadSquaresCard : Claim7 := { stood := { row := fnExactDeadSquaresRow, standIns := [], harness := (true, "d96d266c6ccdb224d1e63341ed23bf66426e90f8e71452352ffccb47701f3949"), looks := false }, kinds := [], alts := [], laidByText := true, laidKinds := [.data, .data, .data, .data, .pinned, .pinned], laidTests := true, laidLooks := .later }
def FnExactDeadSquaresCardSaid : Prop := Claim7.holds Tryz.pinned (.plain (OpenSpec.ofChange fnExactDeadSquaresSpec)) fnExactDeadSquaresCard

/-- THE TIED CARD OF 'laws.FnExactWrongWords'. -/
def fnExactWrongWordsCard : Claim7 := { stood := { row := fnExactWrongWordsRow, standIns := [], harness := (true, "d96d266c6ccdb224d1e63341ed23bf66426e90f8e71452352ffccb47701f3949"), looks := false }, kinds := [], alts := [], laidByText := true, laidKinds := [.data, .pinned, .pinned], laidTests := true, laidLooks := .later }
def FnExactWrongWordsCardSaid : Prop := Claim7.holds Tryz.pinned (.plain (OpenSpec.ofChange fnExactWrongWordsSpec)) fnExactWrongWordsCard

/-- THE TIED CARD OF 'laws.FnExactScorePlay'. -/
def fnExactScorePlayCard : Claim7 := { stood := { row := fnExactScorePlayRow, standIns := [], harness := (true, "d96d266c6ccdb224d1e63341ed23bf66426e90f8e71452352ffccb47701f3949"), looks := false }, kinds := [], alts := [], laidByText := true, laidKinds := [.data, .pinned, .pinned], laidTests := true, laidLooks := .later }
def FnExactScorePlayCardSaid : Prop := Claim7.holds Tryz.pinned (.plain (OpenSpec.ofChange fnExactScorePlaySpec)) fnExactScorePlayCard

/-- THE TIED CARD OF 'laws.FnExactScoreParts'. -/
def fnExactScorePartsCard : Claim7 := { stood := { row := fnExactScorePartsRow, standIns := [], harness := (true, "d96d266c6ccdb224d1e63341ed23bf66426e90f8e71452352ffccb47701f3949"), looks := false }, kinds := [], alts := [], laidByText := true, laidKinds := [.data, .pinned, .pinned], laidTests := true, laidLooks := .later }
def FnExactScorePartsCardSaid : Prop := Claim7.holds Tryz.pinned (.plain (OpenSpec.ofChange fnExactScorePartsSpec)) fnExactScorePartsCard

/-- THE TIED CARD OF 'laws.FnExactLegalPlay'. -/
def fnExactLegalPlayCard : Claim7 := { stood := { row := fnExactLegalPlayRow, standIns := [], harness := (true, "d96d266c6ccdb224d1e63341ed23bf66426e90f8e71452352ffccb47701f3949"), looks := false }, kinds := [], alts := [], laidByText := true, laidKinds := [.data, .pinned, .pinned], laidTests := true, laidLooks := .later }
def FnExactLegalPlayCardSaid : Prop := Claim7.holds Tryz.pinned (.plain (OpenSpec.ofChange fnExactLegalPlaySpec)) fnExactLegalPlayCard

/-- THE SECOND FORM's CARD OF 'laws.FnExactCrossLetters'. -/
def fnExactCrossLettersUptoCard : Claim7 := { stood := { row := fnExactCrossLettersUptoRow, standIns := [], harness := (true, "d96d266c6ccdb224d1e63341ed23bf66426e90f8e71452352ffccb47701f3949"), looks := false }, kinds := [], alts := [], laidByText := true, laidKinds := [.data, .data, .data, .data, .pinned, .pinned], laidTests := true, laidLooks := .later }
def FnExactCrossLettersUptoCardSaid : Prop := Claim7.holds Tryz.pinned (.plain (OpenSpec.upto fnExactCrossLettersSpec)) fnExactCrossLettersUptoCard

/-- THE SECOND FORM's CARD OF 'laws.FnExactCrossTable'. -/
def fnExactCrossTableUptoCard : Claim7 := { stood := { row := fnExactCrossTableUptoRow, standIns := [], harness := (true, "d96d266c6ccdb224d1e63341ed23bf66426e90f8e71452352ffccb47701f3949"), looks := false }, kinds := [], alts := [], laidByText := true, laidKinds := [.data, .data, .data, .data, .pinned, .pinned], laidTests := true, laidLooks := .later }
def FnExactCrossTableUptoCardSaid : Prop := Claim7.holds Tryz.pinned (.plain (OpenSpec.upto fnExactCrossTableSpec)) fnExactCrossTableUptoCard

/-- THE SECOND FORM's CARD OF 'laws.FnExactDeadSquares'. -/
def fnExactDeadSquaresUptoCard : Claim7 := { stood := { row := fnExactDeadSquaresUptoRow, standIns := [], harness := (true, "d96d266c6ccdb224d1e63341ed23bf66426e90f8e71452352ffccb47701f3949"), looks := false }, kinds := [], alts := [], laidByText := true, laidKinds := [.data, .data, .data, .data, .pinned, .pinned], laidTests := true, laidLooks := .later }
def FnExactDeadSquaresUptoCardSaid : Prop := Claim7.holds Tryz.pinned (.plain (OpenSpec.upto fnExactDeadSquaresSpec)) fnExactDeadSquaresUptoCard

/-- THE SECOND FORM's CARD OF 'laws.FnExactWrongWords'. -/
def fnExactWrongWordsUptoCard : Claim7 := { stood := { row := fnExactWrongWordsUptoRow, standIns := [], harness := (true, "d96d266c6ccdb224d1e63341ed23bf66426e90f8e71452352ffccb47701f3949"), looks := false }, kinds := [], alts := [], laidByText := true, laidKinds := [.data, .pinned, .pinned], laidTests := true, laidLooks := .later }
def FnExactWrongWordsUptoCardSaid : Prop := Claim7.holds Tryz.pinned (.plain (OpenSpec.upto fnExactWrongWordsSpec)) fnExactWrongWordsUptoCard

/-- THE SECOND FORM's CARD OF 'laws.FnExactScorePlay'. -/
def fnExactScorePlayUptoCard : Claim7 := { stood := { row := fnExactScorePlayUptoRow, standIns := [], harness := (true, "d96d266c6ccdb224d1e63341ed23bf66426e90f8e71452352ffccb47701f3949"), looks := false }, kinds := [], alts := [], laidByText := true, laidKinds := [.data, .pinned, .pinned], laidTests := true, laidLooks := .later }
def FnExactScorePlayUptoCardSaid : Prop := Claim7.holds Tryz.pinned (.plain (OpenSpec.upto fnExactScorePlaySpec)) fnExactScorePlayUptoCard

/-- THE SECOND FORM's CARD OF 'laws.FnExactScoreParts'. -/
def fnExactScorePartsUptoCard : Claim7 := { stood := { row := fnExactScorePartsUptoRow, standIns := [], harness := (true, "d96d266c6ccdb224d1e63341ed23bf66426e90f8e71452352ffccb47701f3949"), looks := false }, kinds := [], alts := [], laidByText := true, laidKinds := [.data, .pinned, .pinned], laidTests := true, laidLooks := .later }
def FnExactScorePartsUptoCardSaid : Prop := Claim7.holds Tryz.pinned (.plain (OpenSpec.upto fnExactScorePartsSpec)) fnExactScorePartsUptoCard

/-- THE SECOND FORM's CARD OF 'laws.FnExactLegalPlay'. -/
def fnExactLegalPlayUptoCard : Claim7 := { stood := { row := fnExactLegalPlayUptoRow, standIns := [], harness := (true, "d96d266c6ccdb224d1e63341ed23bf66426e90f8e71452352ffccb47701f3949"), looks := false }, kinds := [], alts := [], laidByText := true, laidKinds := [.data, .pinned, .pinned], laidTests := true, laidLooks := .later }
def FnExactLegalPlayUptoCardSaid : Prop := Claim7.holds Tryz.pinned (.plain (OpenSpec.upto fnExactLegalPlaySpec)) fnExactLegalPlayUptoCard
end Rows
end Go.Proofs.YtoeoijkhlpacdaaGreatDoor
