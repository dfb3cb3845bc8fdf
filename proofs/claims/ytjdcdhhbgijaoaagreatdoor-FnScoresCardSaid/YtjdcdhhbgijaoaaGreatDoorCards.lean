/-
  DERIVED. GIVEN WITH THE SEED: THE CARDS: each row of YtjdcdhhbgijaoaaGreatDoorRows.lean that lists a variable, with what it lists TIED to the program's text (the seventh form; the later family's looks); each row that meets fmt, with fmt's text TOLD by the authors' own Lean function (tested against real Go, not proved from fmt's source: count such statements apart). THE CARD IS WHAT COUNTS. Prove the row's statement (the work); the ties are given (YtjdcdhhbgijaoaaGreatDoorTie.lean); close each card by the builder's one call (the guide's Derived/Test/ToyasCard.lean, 'card_holds'). Laid BY PROGRAM, IN A SANDBOX (cutbox-door.mjs). By AI agents, Wed Nov 11 2026. No macro, syntax, notation, axiom, sorry.
-/
import Derived.Test.YtjdcdhhbgijaoaaGreatDoorRows
import GoSem.ClaimSeven
namespace Go.Proofs.YtjdcdhhbgijaoaaGreatDoor
namespace Rows

/-- THE TIED CARD OF 'laws.FnTransposedPlays'. -/
def fnTransposedPlaysCard : Claim7 := { stood := { row := fnTransposedPlaysRow, standIns := [], harness := (true, "7a554f35fac1f01cb40326fe4ae915f1a0695ea0bfb45fc4e78ca45fbcb614ff"), looks := true }, kinds := [], alts := [], laidByText := true, laidKinds := [.data, .pinned, .pinned], laidTests := true, laidLooks := .later }
def FnTransposedPlaysCardSaid : Prop := Claim7.holds Tryz.pinned (.plain (OpenSpec.ofChange fnTransposedPlaysSpec)) fnTransposedPlaysCard

/-- THE TIED CARD OF 'laws.FnScores'. -/
def fnScoresCard : Claim7 := { stood := { row := fnScoresRow, standIns := [], harness := (true, "7a554f35fac1f01cb40326fe4ae915f1a0695ea0bfb45fc4e78ca45fbcb614ff"), looks := true }, kinds := [], alts := [], laidByText := true, laidKinds := [.data, .pinned, .pinned], laidTests := true, laidLooks := .later }
def FnScoresCardSaid : Prop := Claim7.holds Tryz.pinned (.plain (OpenSpec.ofChange fnScoresSpec)) fnScoresCard

/-- THE TIED CARD OF 'laws.FnFaceValues'. -/
def fnFaceValuesCard : Claim7 := { stood := { row := fnFaceValuesRow, standIns := [], harness := (true, "7a554f35fac1f01cb40326fe4ae915f1a0695ea0bfb45fc4e78ca45fbcb614ff"), looks := true }, kinds := [], alts := [], laidByText := true, laidKinds := [.data, .pinned, .pinned], laidTests := true, laidLooks := .later }
def FnFaceValuesCardSaid : Prop := Claim7.holds Tryz.pinned (.plain (OpenSpec.ofChange fnFaceValuesSpec)) fnFaceValuesCard

/-- THE TIED CARD OF 'laws.FnPlays'. -/
def fnPlaysCard : Claim7 := { stood := { row := fnPlaysRow, standIns := [], harness := (true, "7a554f35fac1f01cb40326fe4ae915f1a0695ea0bfb45fc4e78ca45fbcb614ff"), looks := true }, kinds := [], alts := [], laidByText := true, laidKinds := [.data, .pinned, .pinned], laidTests := true, laidLooks := .later }
def FnPlaysCardSaid : Prop := Claim7.holds Tryz.pinned (.plain (OpenSpec.ofChange fnPlaysSpec)) fnPlaysCard

/-- THE TIED CARD OF 'laws.FnPlayOrder'. -/
def fnPlayOrderCard : Claim7 := { stood := { row := fnPlayOrderRow, standIns := [], harness := (true, "7a554f35fac1f01cb40326fe4ae915f1a0695ea0bfb45fc4e78ca45fbcb614ff"), looks := true }, kinds := [], alts := [], laidByText := true, laidKinds := [.data, .data, .data, .data, .sentinel, .sentinel, .pinned, .pinned], laidTests := true, laidLooks := .later }
def FnPlayOrderCardSaid : Prop := Claim7.holds Tryz.pinned (.plain (OpenSpec.ofChange fnPlayOrderSpec)) fnPlayOrderCard

/-- THE TIED CARD OF 'laws.FnLegalPlays'. -/
def fnLegalPlaysCard : Claim7 := { stood := { row := fnLegalPlaysRow, standIns := [], harness := (true, "7a554f35fac1f01cb40326fe4ae915f1a0695ea0bfb45fc4e78ca45fbcb614ff"), looks := true }, kinds := [], alts := [], laidByText := true, laidKinds := [.data, .pinned, .pinned], laidTests := true, laidLooks := .later }
def FnLegalPlaysCardSaid : Prop := Claim7.holds Tryz.pinned (.plain (OpenSpec.ofChange fnLegalPlaysSpec)) fnLegalPlaysCard

/-- THE SECOND FORM's CARD OF 'laws.FnTransposedPlays'. -/
def fnTransposedPlaysUptoCard : Claim7 := { stood := { row := fnTransposedPlaysUptoRow, standIns := [], harness := (true, "7a554f35fac1f01cb40326fe4ae915f1a0695ea0bfb45fc4e78ca45fbcb614ff"), looks := true }, kinds := [], alts := [], laidByText := true, laidKinds := [.data, .pinned, .pinned], laidTests := true, laidLooks := .later }
def FnTransposedPlaysUptoCardSaid : Prop := Claim7.holds Tryz.pinned (.plain (OpenSpec.upto fnTransposedPlaysSpec)) fnTransposedPlaysUptoCard

/-- THE SECOND FORM's CARD OF 'laws.FnScores'. -/
def fnScoresUptoCard : Claim7 := { stood := { row := fnScoresUptoRow, standIns := [], harness := (true, "7a554f35fac1f01cb40326fe4ae915f1a0695ea0bfb45fc4e78ca45fbcb614ff"), looks := true }, kinds := [], alts := [], laidByText := true, laidKinds := [.data, .pinned, .pinned], laidTests := true, laidLooks := .later }
def FnScoresUptoCardSaid : Prop := Claim7.holds Tryz.pinned (.plain (OpenSpec.upto fnScoresSpec)) fnScoresUptoCard

/-- THE SECOND FORM's CARD OF 'laws.FnFaceValues'. -/
def fnFaceValuesUptoCard : Claim7 := { stood := { row := fnFaceValuesUptoRow, standIns := [], harness := (true, "7a554f35fac1f01cb40326fe4ae915f1a0695ea0bfb45fc4e78ca45fbcb614ff"), looks := true }, kinds := [], alts := [], laidByText := true, laidKinds := [.data, .pinned, .pinned], laidTests := true, laidLooks := .later }
def FnFaceValuesUptoCardSaid : Prop := Claim7.holds Tryz.pinned (.plain (OpenSpec.upto fnFaceValuesSpec)) fnFaceValuesUptoCard

/-- THE SECOND FORM's CARD OF 'laws.FnPlays'. -/
def fnPlaysUptoCard : Claim7 := { stood := { row := fnPlaysUptoRow, standIns := [], harness := (true, "7a554f35fac1f01cb40326fe4ae915f1a0695ea0bfb45fc4e78ca45fbcb614ff"), looks := true }, kinds := [], alts := [], laidByText := true, laidKinds := [.data, .pinned, .pinned], laidTests := true, laidLooks := .later }
def FnPlaysUptoCardSaid : Prop := Claim7.holds Tryz.pinned (.plain (OpenSpec.upto fnPlaysSpec)) fnPlaysUptoCard

/-- THE SECOND FORM's CARD OF 'laws.FnPlayOrder'. -/
def fnPlayOrderUptoCard : Claim7 := { stood := { row := fnPlayOrderUptoRow, standIns := [], harness := (true, "7a554f35fac1f01cb40326fe4ae915f1a0695ea0bfb45fc4e78ca45fbcb614ff"), looks := true }, kinds := [], alts := [], laidByText := true, laidKinds := [.data, .data, .data, .data, .sentinel, .sentinel, .pinned, .pinned], laidTests := true, laidLooks := .later }
def FnPlayOrderUptoCardSaid : Prop := Claim7.holds Tryz.pinned (.plain (OpenSpec.upto fnPlayOrderSpec)) fnPlayOrderUptoCard

/-- THE SECOND FORM's CARD OF 'laws.FnLegalPlays'. -/
def fnLegalPlaysUptoCard : Claim7 := { stood := { row := fnLegalPlaysUptoRow, standIns := [], harness := (true, "7a554f35fac1f01cb40326fe4ae915f1a0695ea0bfb45fc4e78ca45fbcb614ff"), looks := true }, kinds := [], alts := [], laidByText := true, laidKinds := [.data, .pinned, .pinned], laidTests := true, laidLooks := .later }
def FnLegalPlaysUptoCardSaid : Prop := Claim7.holds Tryz.pinned (.plain (OpenSpec.upto fnLegalPlaysSpec)) fnLegalPlaysUptoCard
end Rows
end Go.Proofs.YtjdcdhhbgijaoaaGreatDoor
