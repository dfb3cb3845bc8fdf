/-
  DERIVED. GIVEN WITH THE SEED: THE CARDS: each row of YtoeoijkhlpacdaaDoorRows.lean that lists a variable, with what it lists TIED to the program's text (the seventh form; the later family's looks); each row that meets fmt, with fmt's text TOLD by the authors' own Lean function (tested against real Go, not proved from fmt's source: count such statements apart). THE CARD IS WHAT COUNTS. Prove the row's statement (the work); the ties are given (YtoeoijkhlpacdaaDoorTie.lean); close each card by the builder's one call (the guide's Derived/Test/ToyasCard.lean, 'card_holds'). Laid BY PROGRAM, IN A SANDBOX (cutbox-door.mjs). By AI agents, Wed Nov 11 2026. No macro, syntax, notation, axiom, sorry.
-/
import Derived.Test.YtoeoijkhlpacdaaDoorRows
import GoSem.ClaimSeven
namespace Go.Proofs.YtoeoijkhlpacdaaDoor
namespace Rows

/-- THE TIED CARD OF 'laws.FnExactAroundOf'. -/
def fnExactAroundOfCard : Claim7 := { stood := { row := fnExactAroundOfRow, standIns := [], harness := (true, "63aeaaacaa635c553405d39670b26a33cae0fee22c6f1f576fbaf07f6bdb9c36"), looks := false }, kinds := [], alts := [], laidByText := true, laidKinds := [.data, .pinned, .pinned], laidTests := true, laidLooks := .later }
def FnExactAroundOfCardSaid : Prop := Claim7.holds Tryd.pinned (.plain (OpenSpec.ofChange fnExactAroundOfSpec)) fnExactAroundOfCard

/-- THE TIED CARD OF 'laws.FnExactWordsFormed'. -/
def fnExactWordsFormedCard : Claim7 := { stood := { row := fnExactWordsFormedRow, standIns := [], harness := (true, "63aeaaacaa635c553405d39670b26a33cae0fee22c6f1f576fbaf07f6bdb9c36"), looks := false }, kinds := [], alts := [], laidByText := true, laidKinds := [.data, .pinned, .pinned], laidTests := true, laidLooks := .later }
def FnExactWordsFormedCardSaid : Prop := Claim7.holds Tryd.pinned (.plain (OpenSpec.ofChange fnExactWordsFormedSpec)) fnExactWordsFormedCard

/-- THE TIED CARD OF 'laws.FnExactTouchesBoard'. -/
def fnExactTouchesBoardCard : Claim7 := { stood := { row := fnExactTouchesBoardRow, standIns := [], harness := (true, "63aeaaacaa635c553405d39670b26a33cae0fee22c6f1f576fbaf07f6bdb9c36"), looks := false }, kinds := [], alts := [], laidByText := true, laidKinds := [.data, .pinned, .pinned], laidTests := true, laidLooks := .later }
def FnExactTouchesBoardCardSaid : Prop := Claim7.holds Tryd.pinned (.plain (OpenSpec.ofChange fnExactTouchesBoardSpec)) fnExactTouchesBoardCard

/-- THE SECOND FORM's CARD OF 'laws.FnExactAroundOf'. -/
def fnExactAroundOfUptoCard : Claim7 := { stood := { row := fnExactAroundOfUptoRow, standIns := [], harness := (true, "63aeaaacaa635c553405d39670b26a33cae0fee22c6f1f576fbaf07f6bdb9c36"), looks := false }, kinds := [], alts := [], laidByText := true, laidKinds := [.data, .pinned, .pinned], laidTests := true, laidLooks := .later }
def FnExactAroundOfUptoCardSaid : Prop := Claim7.holds Tryd.pinned (.plain (OpenSpec.upto fnExactAroundOfSpec)) fnExactAroundOfUptoCard

/-- THE SECOND FORM's CARD OF 'laws.FnExactWordsFormed'. -/
def fnExactWordsFormedUptoCard : Claim7 := { stood := { row := fnExactWordsFormedUptoRow, standIns := [], harness := (true, "63aeaaacaa635c553405d39670b26a33cae0fee22c6f1f576fbaf07f6bdb9c36"), looks := false }, kinds := [], alts := [], laidByText := true, laidKinds := [.data, .pinned, .pinned], laidTests := true, laidLooks := .later }
def FnExactWordsFormedUptoCardSaid : Prop := Claim7.holds Tryd.pinned (.plain (OpenSpec.upto fnExactWordsFormedSpec)) fnExactWordsFormedUptoCard

/-- THE SECOND FORM's CARD OF 'laws.FnExactTouchesBoard'. -/
def fnExactTouchesBoardUptoCard : Claim7 := { stood := { row := fnExactTouchesBoardUptoRow, standIns := [], harness := (true, "63aeaaacaa635c553405d39670b26a33cae0fee22c6f1f576fbaf07f6bdb9c36"), looks := false }, kinds := [], alts := [], laidByText := true, laidKinds := [.data, .pinned, .pinned], laidTests := true, laidLooks := .later }
def FnExactTouchesBoardUptoCardSaid : Prop := Claim7.holds Tryd.pinned (.plain (OpenSpec.upto fnExactTouchesBoardSpec)) fnExactTouchesBoardUptoCard
end Rows
end Go.Proofs.YtoeoijkhlpacdaaDoor
