/-
  DERIVED. GIVEN WITH THE SEED: THE CARDS: each row of YtalnbgcdhcnjfaaGreatDoorRows.lean that lists a variable, with what it lists TIED to the program's text (the seventh form; the later family's looks); each row that meets fmt, with fmt's text TOLD by the authors' own Lean function (tested against real Go, not proved from fmt's source: count such statements apart). THE CARD IS WHAT COUNTS. Prove the row's statement (the work); the ties are given (YtalnbgcdhcnjfaaGreatDoorTie.lean); close each card by the builder's one call (the guide's Derived/Test/ToyasCard.lean, 'card_holds'). Laid BY PROGRAM, IN A SANDBOX (cutbox-door.mjs). By AI agents, Wed Nov 11 2026. No macro, syntax, notation, axiom, sorry.
-/
import Derived.Test.YtalnbgcdhcnjfaaGreatDoorRows
import GoSem.ClaimSeven
namespace Go.Proofs.YtalnbgcdhcnjfaaGreatDoor
namespace Rows

/-- THE TIED CARD OF 'laws.FnExactValidDesk'. -/
def fnExactValidDeskCard : Claim7 := { stood := { row := fnExactValidDeskRow, standIns := [], harness := (true, "3e888998b4f21148aeb96aeed0f4467f8dfffd837025662104be304321b70266"), looks := false }, kinds := [], alts := [], laidByText := true, laidKinds := [.data, .pinned, .pinned], laidTests := true, laidLooks := .later }
def FnExactValidDeskCardSaid : Prop := Claim7.holds Tryz.pinned (.plain (OpenSpec.ofChange fnExactValidDeskSpec)) fnExactValidDeskCard

/-- THE TIED CARD OF 'laws.FnExactDeskText'. -/
def fnExactDeskTextCard : Claim7 := { stood := { row := fnExactDeskTextRow, standIns := [], harness := (true, "3e888998b4f21148aeb96aeed0f4467f8dfffd837025662104be304321b70266"), looks := false }, kinds := [], alts := [], laidByText := true, laidKinds := [.data, .data, .data, .data, .pinned, .pinned], laidTests := true, laidLooks := .later }
def FnExactDeskTextCardSaid : Prop := Claim7.holds Tryz.pinned (.plain (OpenSpec.ofChange fnExactDeskTextSpec)) fnExactDeskTextCard

/-- THE SECOND FORM's CARD OF 'laws.FnExactValidDesk'. -/
def fnExactValidDeskUptoCard : Claim7 := { stood := { row := fnExactValidDeskUptoRow, standIns := [], harness := (true, "3e888998b4f21148aeb96aeed0f4467f8dfffd837025662104be304321b70266"), looks := false }, kinds := [], alts := [], laidByText := true, laidKinds := [.data, .pinned, .pinned], laidTests := true, laidLooks := .later }
def FnExactValidDeskUptoCardSaid : Prop := Claim7.holds Tryz.pinned (.plain (OpenSpec.upto fnExactValidDeskSpec)) fnExactValidDeskUptoCard

/-- THE SECOND FORM's CARD OF 'laws.FnExactDeskText'. -/
def fnExactDeskTextUptoCard : Claim7 := { stood := { row := fnExactDeskTextUptoRow, standIns := [], harness := (true, "3e888998b4f21148aeb96aeed0f4467f8dfffd837025662104be304321b70266"), looks := false }, kinds := [], alts := [], laidByText := true, laidKinds := [.data, .data, .data, .data, .pinned, .pinned], laidTests := true, laidLooks := .later }
def FnExactDeskTextUptoCardSaid : Prop := Claim7.holds Tryz.pinned (.plain (OpenSpec.upto fnExactDeskTextSpec)) fnExactDeskTextUptoCard
end Rows
end Go.Proofs.YtalnbgcdhcnjfaaGreatDoor
