/-
  DERIVED. GIVEN WITH THE SEED: THE CARDS: each row of YtpodkgfapbcmlaaDoorRows.lean that lists a variable, with what it lists TIED to the program's text (the seventh form; the later family's looks); each row that meets fmt, with fmt's text TOLD by the authors' own Lean function (tested against real Go, not proved from fmt's source: count such statements apart). THE CARD IS WHAT COUNTS. Prove the row's statement (the work); the ties are given (YtpodkgfapbcmlaaDoorTie.lean); close each card by the builder's one call (the guide's Derived/Test/ToyasCard.lean, 'card_holds'). Laid BY PROGRAM, IN A SANDBOX (cutbox-door.mjs). By AI agents, Wed Nov 11 2026. No macro, syntax, notation, axiom, sorry.
-/
import Derived.Test.YtpodkgfapbcmlaaDoorRows
import GoSem.ClaimSeven
namespace Go.Proofs.YtpodkgfapbcmlaaDoor
namespace Rows

/-- THE TIED CARD OF 'laws.FnExactResultText'. -/
def fnExactResultTextCard : Claim7 := { stood := { row := fnExactResultTextRow, standIns := [], harness := (true, "ec1f937c369f6175c9452a62832ee5cda420217b20af5bdf96565a1747d7ad93"), looks := true }, kinds := [], alts := [], laidByText := true, laidKinds := [.data, .data, .data], laidTests := true, laidLooks := .later }
def FnExactResultTextCardSaid : Prop := Claim7.holds Tryd.pinned (.plain (OpenSpec.ofChange fnExactResultTextSpec)) fnExactResultTextCard

/-- THE TIED CARD OF 'laws.FnExactClubText'. -/
def fnExactClubTextCard : Claim7 := { stood := { row := fnExactClubTextRow, standIns := [], harness := (true, "ec1f937c369f6175c9452a62832ee5cda420217b20af5bdf96565a1747d7ad93"), looks := true }, kinds := [], alts := [], laidByText := true, laidKinds := [.data, .data, .data], laidTests := true, laidLooks := .later }
def FnExactClubTextCardSaid : Prop := Claim7.holds Tryd.pinned (.plain (OpenSpec.ofChange fnExactClubTextSpec)) fnExactClubTextCard

/-- THE TIED CARD OF 'laws.FnExactReadResult'. -/
def fnExactReadResultCard : Claim7 := { stood := { row := fnExactReadResultRow, standIns := [], harness := (true, "ec1f937c369f6175c9452a62832ee5cda420217b20af5bdf96565a1747d7ad93"), looks := true }, kinds := [], alts := [], laidByText := true, laidKinds := [.data, .data, .data, .data, .sentinel, .sentinel, .pinned], laidTests := true, laidLooks := .later }
def FnExactReadResultCardSaid : Prop := Claim7.holds Tryd.pinned (.plain (OpenSpec.ofChange fnExactReadResultSpec)) fnExactReadResultCard

/-- THE TIED CARD OF 'laws.FnExactReadClub'. -/
def fnExactReadClubCard : Claim7 := { stood := { row := fnExactReadClubRow, standIns := [], harness := (true, "ec1f937c369f6175c9452a62832ee5cda420217b20af5bdf96565a1747d7ad93"), looks := true }, kinds := [], alts := [], laidByText := true, laidKinds := [.data, .data, .data, .data, .sentinel, .sentinel, .pinned], laidTests := true, laidLooks := .later }
def FnExactReadClubCardSaid : Prop := Claim7.holds Tryd.pinned (.plain (OpenSpec.ofChange fnExactReadClubSpec)) fnExactReadClubCard

/-- THE SECOND FORM's CARD OF 'laws.FnExactResultText'. -/
def fnExactResultTextUptoCard : Claim7 := { stood := { row := fnExactResultTextUptoRow, standIns := [], harness := (true, "ec1f937c369f6175c9452a62832ee5cda420217b20af5bdf96565a1747d7ad93"), looks := true }, kinds := [], alts := [], laidByText := true, laidKinds := [.data, .data, .data], laidTests := true, laidLooks := .later }
def FnExactResultTextUptoCardSaid : Prop := Claim7.holds Tryd.pinned (.plain (OpenSpec.upto fnExactResultTextSpec)) fnExactResultTextUptoCard

/-- THE SECOND FORM's CARD OF 'laws.FnExactClubText'. -/
def fnExactClubTextUptoCard : Claim7 := { stood := { row := fnExactClubTextUptoRow, standIns := [], harness := (true, "ec1f937c369f6175c9452a62832ee5cda420217b20af5bdf96565a1747d7ad93"), looks := true }, kinds := [], alts := [], laidByText := true, laidKinds := [.data, .data, .data], laidTests := true, laidLooks := .later }
def FnExactClubTextUptoCardSaid : Prop := Claim7.holds Tryd.pinned (.plain (OpenSpec.upto fnExactClubTextSpec)) fnExactClubTextUptoCard

/-- THE SECOND FORM's CARD OF 'laws.FnExactReadResult'. -/
def fnExactReadResultUptoCard : Claim7 := { stood := { row := fnExactReadResultUptoRow, standIns := [], harness := (true, "ec1f937c369f6175c9452a62832ee5cda420217b20af5bdf96565a1747d7ad93"), looks := true }, kinds := [], alts := [], laidByText := true, laidKinds := [.data, .data, .data, .data, .sentinel, .sentinel, .pinned], laidTests := true, laidLooks := .later }
def FnExactReadResultUptoCardSaid : Prop := Claim7.holds Tryd.pinned (.plain (OpenSpec.upto fnExactReadResultSpec)) fnExactReadResultUptoCard

/-- THE SECOND FORM's CARD OF 'laws.FnExactReadClub'. -/
def fnExactReadClubUptoCard : Claim7 := { stood := { row := fnExactReadClubUptoRow, standIns := [], harness := (true, "ec1f937c369f6175c9452a62832ee5cda420217b20af5bdf96565a1747d7ad93"), looks := true }, kinds := [], alts := [], laidByText := true, laidKinds := [.data, .data, .data, .data, .sentinel, .sentinel, .pinned], laidTests := true, laidLooks := .later }
def FnExactReadClubUptoCardSaid : Prop := Claim7.holds Tryd.pinned (.plain (OpenSpec.upto fnExactReadClubSpec)) fnExactReadClubUptoCard
end Rows
end Go.Proofs.YtpodkgfapbcmlaaDoor
