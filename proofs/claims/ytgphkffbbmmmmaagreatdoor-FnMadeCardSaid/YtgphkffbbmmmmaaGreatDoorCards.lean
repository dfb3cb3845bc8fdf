/-
  DERIVED. GIVEN WITH THE SEED: THE CARDS: each row of YtgphkffbbmmmmaaGreatDoorRows.lean that lists a variable, with what it lists TIED to the program's text (the seventh form; the later family's looks); each row that meets fmt, with fmt's text TOLD by the authors' own Lean function (tested against real Go, not proved from fmt's source: count such statements apart). THE CARD IS WHAT COUNTS. Prove the row's statement (the work); the ties are given (YtgphkffbbmmmmaaGreatDoorTie.lean); close each card by the builder's one call (the guide's Derived/Test/ToyasCard.lean, 'card_holds'). Laid BY PROGRAM, IN A SANDBOX (cutbox-door.mjs). By AI agents, Wed Nov 11 2026. No macro, syntax, notation, axiom, sorry.
-/
import Derived.Test.YtgphkffbbmmmmaaGreatDoorRows
import GoSem.ClaimSeven
namespace Go.Proofs.YtgphkffbbmmmmaaGreatDoor
namespace Rows

/-- THE TIED CARD OF 'laws.FnExactMakeGame'. -/
def fnExactMakeGameCard : Claim7 := { stood := { row := fnExactMakeGameRow, standIns := [], harness := (true, "62d2743cea4cef7294f16ecf61f517502b45cc5dde567a309c73d500b4134e95"), looks := true }, kinds := [], alts := [], laidByText := true, laidKinds := [.data, .data, .data, .data, .sentinel, .sentinel, .pinned], laidTests := true, laidLooks := .later }
def FnExactMakeGameCardSaid : Prop := Claim7.holds Tryz.pinned (.plain (OpenSpec.ofChange fnExactMakeGameSpec)) fnExactMakeGameCard

/-- THE TIED CARD OF 'laws.FnExactNewDesk'. -/
def fnExactNewDeskCard : Claim7 := { stood := { row := fnExactNewDeskRow, standIns := [], harness := (true, "62d2743cea4cef7294f16ecf61f517502b45cc5dde567a309c73d500b4134e95"), looks := true }, kinds := [], alts := [], laidByText := true, laidKinds := [.data, .data, .data, .data, .sentinel, .sentinel, .pinned], laidTests := true, laidLooks := .later }
def FnExactNewDeskCardSaid : Prop := Claim7.holds Tryz.pinned (.plain (OpenSpec.ofChange fnExactNewDeskSpec)) fnExactNewDeskCard

/-- THE TIED CARD OF 'laws.FnMade'. -/
def fnMadeCard : Claim7 := { stood := { row := fnMadeRow, standIns := [], harness := (true, "62d2743cea4cef7294f16ecf61f517502b45cc5dde567a309c73d500b4134e95"), looks := true }, kinds := [], alts := [], laidByText := true, laidKinds := [.data, .data, .data, .data, .sentinel, .sentinel, .pinned, .pinned], laidTests := true, laidLooks := .later }
def FnMadeCardSaid : Prop := Claim7.holds Tryz.pinned (.plain (OpenSpec.ofChange fnMadeSpec)) fnMadeCard

/-- THE SECOND FORM's CARD OF 'laws.FnExactMakeGame'. -/
def fnExactMakeGameUptoCard : Claim7 := { stood := { row := fnExactMakeGameUptoRow, standIns := [], harness := (true, "62d2743cea4cef7294f16ecf61f517502b45cc5dde567a309c73d500b4134e95"), looks := true }, kinds := [], alts := [], laidByText := true, laidKinds := [.data, .data, .data, .data, .sentinel, .sentinel, .pinned], laidTests := true, laidLooks := .later }
def FnExactMakeGameUptoCardSaid : Prop := Claim7.holds Tryz.pinned (.plain (OpenSpec.upto fnExactMakeGameSpec)) fnExactMakeGameUptoCard

/-- THE SECOND FORM's CARD OF 'laws.FnExactNewDesk'. -/
def fnExactNewDeskUptoCard : Claim7 := { stood := { row := fnExactNewDeskUptoRow, standIns := [], harness := (true, "62d2743cea4cef7294f16ecf61f517502b45cc5dde567a309c73d500b4134e95"), looks := true }, kinds := [], alts := [], laidByText := true, laidKinds := [.data, .data, .data, .data, .sentinel, .sentinel, .pinned], laidTests := true, laidLooks := .later }
def FnExactNewDeskUptoCardSaid : Prop := Claim7.holds Tryz.pinned (.plain (OpenSpec.upto fnExactNewDeskSpec)) fnExactNewDeskUptoCard

/-- THE SECOND FORM's CARD OF 'laws.FnMade'. -/
def fnMadeUptoCard : Claim7 := { stood := { row := fnMadeUptoRow, standIns := [], harness := (true, "62d2743cea4cef7294f16ecf61f517502b45cc5dde567a309c73d500b4134e95"), looks := true }, kinds := [], alts := [], laidByText := true, laidKinds := [.data, .data, .data, .data, .sentinel, .sentinel, .pinned, .pinned], laidTests := true, laidLooks := .later }
def FnMadeUptoCardSaid : Prop := Claim7.holds Tryz.pinned (.plain (OpenSpec.upto fnMadeSpec)) fnMadeUptoCard
end Rows
end Go.Proofs.YtgphkffbbmmmmaaGreatDoor
