/-
  DERIVED. GIVEN WITH THE SEED: THE CARDS: each row of YtjknpmdmchlfcaaDoorRows.lean that lists a variable, with what it lists TIED to the program's text (the seventh form; the later family's looks); each row that meets fmt, with fmt's text TOLD by the authors' own Lean function (tested against real Go, not proved from fmt's source: count such statements apart). THE CARD IS WHAT COUNTS. Prove the row's statement (the work); the ties are given (YtjknpmdmchlfcaaDoorTie.lean); close each card by the builder's one call (the guide's Derived/Test/ToyasCard.lean, 'card_holds'). Laid BY PROGRAM, IN A SANDBOX (cutbox-door.mjs). By AI agents, Wed Nov 11 2026. No macro, syntax, notation, axiom, sorry.
-/
import Derived.Test.YtjknpmdmchlfcaaDoorRows
import GoSem.ClaimSeven
namespace Go.Proofs.YtjknpmdmchlfcaaDoor
namespace Rows

/-- THE TIED CARD OF 'laws.FnExactStandardWords'. -/
def fnExactStandardWordsCard : Claim7 := { stood := { row := fnExactStandardWordsRow, standIns := [], harness := (true, "3c34fd5160211e59b1ec17138990f54cce1d09707a41d3152aeb5ed6f4022b40"), looks := false }, kinds := [], alts := [], laidByText := true, laidKinds := [.data, .pinned], laidTests := true, laidLooks := .later }
def FnExactStandardWordsCardSaid : Prop := Claim7.holds Tryd.pinned (.plain (OpenSpec.ofChange fnExactStandardWordsSpec)) fnExactStandardWordsCard

/-- THE SECOND FORM's CARD OF 'laws.FnExactStandardWords'. -/
def fnExactStandardWordsUptoCard : Claim7 := { stood := { row := fnExactStandardWordsUptoRow, standIns := [], harness := (true, "3c34fd5160211e59b1ec17138990f54cce1d09707a41d3152aeb5ed6f4022b40"), looks := false }, kinds := [], alts := [], laidByText := true, laidKinds := [.data, .pinned], laidTests := true, laidLooks := .later }
def FnExactStandardWordsUptoCardSaid : Prop := Claim7.holds Tryd.pinned (.plain (OpenSpec.upto fnExactStandardWordsSpec)) fnExactStandardWordsUptoCard
end Rows
end Go.Proofs.YtjknpmdmchlfcaaDoor
