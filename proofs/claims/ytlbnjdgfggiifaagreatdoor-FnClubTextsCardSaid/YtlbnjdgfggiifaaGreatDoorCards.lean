/-
  DERIVED. GIVEN WITH THE SEED: THE CARDS: each row of YtlbnjdgfggiifaaGreatDoorRows.lean that lists a variable, with what it lists TIED to the program's text (the seventh form; the later family's looks); each row that meets fmt, with fmt's text TOLD by the authors' own Lean function (tested against real Go, not proved from fmt's source: count such statements apart). THE CARD IS WHAT COUNTS. Prove the row's statement (the work); the ties are given (YtlbnjdgfggiifaaGreatDoorTie.lean); close each card by the builder's one call (the guide's Derived/Test/ToyasCard.lean, 'card_holds'). Laid BY PROGRAM, IN A SANDBOX (cutbox-door.mjs). By AI agents, Wed Nov 11 2026. No macro, syntax, notation, axiom, sorry.
-/
import Derived.Test.YtlbnjdgfggiifaaGreatDoorRows
import GoSem.ClaimSeven
namespace Go.Proofs.YtlbnjdgfggiifaaGreatDoor
namespace Rows

/-- THE TIED CARD OF 'laws.FnClubTexts'. -/
def fnClubTextsCard : Claim7 := { stood := { row := fnClubTextsRow, standIns := [], harness := (true, "e8a528ed5a7552b64066bb258f7ec44a9b6f7507f124a2d983e5069984ea2761"), looks := true }, kinds := [], alts := [], laidByText := true, laidKinds := [.data, .data, .data, .data, .sentinel, .sentinel, .pinned], laidTests := true, laidLooks := .later }
def FnClubTextsCardSaid : Prop := Claim7.holds Tryz.pinned (.plain (OpenSpec.ofChange fnClubTextsSpec)) fnClubTextsCard

/-- THE SECOND FORM's CARD OF 'laws.FnClubTexts'. -/
def fnClubTextsUptoCard : Claim7 := { stood := { row := fnClubTextsUptoRow, standIns := [], harness := (true, "e8a528ed5a7552b64066bb258f7ec44a9b6f7507f124a2d983e5069984ea2761"), looks := true }, kinds := [], alts := [], laidByText := true, laidKinds := [.data, .data, .data, .data, .sentinel, .sentinel, .pinned], laidTests := true, laidLooks := .later }
def FnClubTextsUptoCardSaid : Prop := Claim7.holds Tryz.pinned (.plain (OpenSpec.upto fnClubTextsSpec)) fnClubTextsUptoCard
end Rows
end Go.Proofs.YtlbnjdgfggiifaaGreatDoor
