/-
  DERIVED. GIVEN WITH THE SEED: THE CARDS: each row of YtkjhapbjdjcipaaGreatDoorRows.lean that lists a variable, with what it lists TIED to the program's text (the seventh form; the later family's looks); each row that meets fmt, with fmt's text TOLD by the authors' own Lean function (tested against real Go, not proved from fmt's source: count such statements apart). THE CARD IS WHAT COUNTS. Prove the row's statement (the work); the ties are given (YtkjhapbjdjcipaaGreatDoorTie.lean); close each card by the builder's one call (the guide's Derived/Test/ToyasCard.lean, 'card_holds'). Laid BY PROGRAM, IN A SANDBOX (cutbox-door.mjs). By AI agents, Wed Nov 11 2026. No macro, syntax, notation, axiom, sorry.
-/
import Derived.Test.YtkjhapbjdjcipaaGreatDoorRows
import GoSem.ClaimSeven
namespace Go.Proofs.YtkjhapbjdjcipaaGreatDoor
namespace Rows

/-- THE TIED CARD OF 'laws.FnExactExchangeTurn'. -/
def fnExactExchangeTurnCard : Claim7 := { stood := { row := fnExactExchangeTurnRow, standIns := [], harness := (true, "7204380b3b2b3b9e4acdcc7beb6b54e43d762c7143885885bd534cbdf96c5f01"), looks := false }, kinds := [], alts := [], laidByText := true, laidKinds := [.data, .pinned, .pinned], laidTests := true, laidLooks := .later }
def FnExactExchangeTurnCardSaid : Prop := Claim7.holds Tryz.pinned (.plain (OpenSpec.ofChange fnExactExchangeTurnSpec)) fnExactExchangeTurnCard

/-- THE TIED CARD OF 'laws.FnExactWithdrawPlay'. -/
def fnExactWithdrawPlayCard : Claim7 := { stood := { row := fnExactWithdrawPlayRow, standIns := [], harness := (true, "7204380b3b2b3b9e4acdcc7beb6b54e43d762c7143885885bd534cbdf96c5f01"), looks := false }, kinds := [], alts := [], laidByText := true, laidKinds := [.data, .pinned, .pinned], laidTests := true, laidLooks := .later }
def FnExactWithdrawPlayCardSaid : Prop := Claim7.holds Tryz.pinned (.plain (OpenSpec.ofChange fnExactWithdrawPlaySpec)) fnExactWithdrawPlayCard

/-- THE TIED CARD OF 'laws.FnExactScoreLine'. -/
def fnExactScoreLineCard : Claim7 := { stood := { row := fnExactScoreLineRow, standIns := [], harness := (true, "7204380b3b2b3b9e4acdcc7beb6b54e43d762c7143885885bd534cbdf96c5f01"), looks := false }, kinds := [], alts := [], laidByText := true, laidKinds := [.data, .data, .data, .data, .pinned, .pinned], laidTests := true, laidLooks := .later }
def FnExactScoreLineCardSaid : Prop := Claim7.holds Tryz.pinned (.plain (OpenSpec.ofChange fnExactScoreLineSpec)) fnExactScoreLineCard

/-- THE TIED CARD OF 'laws.FnExactGameLines'. -/
def fnExactGameLinesCard : Claim7 := { stood := { row := fnExactGameLinesRow, standIns := [], harness := (true, "7204380b3b2b3b9e4acdcc7beb6b54e43d762c7143885885bd534cbdf96c5f01"), looks := false }, kinds := [], alts := [], laidByText := true, laidKinds := [.data, .data, .data, .data, .pinned, .pinned], laidTests := true, laidLooks := .later }
def FnExactGameLinesCardSaid : Prop := Claim7.holds Tryz.pinned (.plain (OpenSpec.ofChange fnExactGameLinesSpec)) fnExactGameLinesCard

/-- THE SECOND FORM's CARD OF 'laws.FnExactExchangeTurn'. -/
def fnExactExchangeTurnUptoCard : Claim7 := { stood := { row := fnExactExchangeTurnUptoRow, standIns := [], harness := (true, "7204380b3b2b3b9e4acdcc7beb6b54e43d762c7143885885bd534cbdf96c5f01"), looks := false }, kinds := [], alts := [], laidByText := true, laidKinds := [.data, .pinned, .pinned], laidTests := true, laidLooks := .later }
def FnExactExchangeTurnUptoCardSaid : Prop := Claim7.holds Tryz.pinned (.plain (OpenSpec.upto fnExactExchangeTurnSpec)) fnExactExchangeTurnUptoCard

/-- THE SECOND FORM's CARD OF 'laws.FnExactWithdrawPlay'. -/
def fnExactWithdrawPlayUptoCard : Claim7 := { stood := { row := fnExactWithdrawPlayUptoRow, standIns := [], harness := (true, "7204380b3b2b3b9e4acdcc7beb6b54e43d762c7143885885bd534cbdf96c5f01"), looks := false }, kinds := [], alts := [], laidByText := true, laidKinds := [.data, .pinned, .pinned], laidTests := true, laidLooks := .later }
def FnExactWithdrawPlayUptoCardSaid : Prop := Claim7.holds Tryz.pinned (.plain (OpenSpec.upto fnExactWithdrawPlaySpec)) fnExactWithdrawPlayUptoCard

/-- THE SECOND FORM's CARD OF 'laws.FnExactScoreLine'. -/
def fnExactScoreLineUptoCard : Claim7 := { stood := { row := fnExactScoreLineUptoRow, standIns := [], harness := (true, "7204380b3b2b3b9e4acdcc7beb6b54e43d762c7143885885bd534cbdf96c5f01"), looks := false }, kinds := [], alts := [], laidByText := true, laidKinds := [.data, .data, .data, .data, .pinned, .pinned], laidTests := true, laidLooks := .later }
def FnExactScoreLineUptoCardSaid : Prop := Claim7.holds Tryz.pinned (.plain (OpenSpec.upto fnExactScoreLineSpec)) fnExactScoreLineUptoCard

/-- THE SECOND FORM's CARD OF 'laws.FnExactGameLines'. -/
def fnExactGameLinesUptoCard : Claim7 := { stood := { row := fnExactGameLinesUptoRow, standIns := [], harness := (true, "7204380b3b2b3b9e4acdcc7beb6b54e43d762c7143885885bd534cbdf96c5f01"), looks := false }, kinds := [], alts := [], laidByText := true, laidKinds := [.data, .data, .data, .data, .pinned, .pinned], laidTests := true, laidLooks := .later }
def FnExactGameLinesUptoCardSaid : Prop := Claim7.holds Tryz.pinned (.plain (OpenSpec.upto fnExactGameLinesSpec)) fnExactGameLinesUptoCard
end Rows
end Go.Proofs.YtkjhapbjdjcipaaGreatDoor
