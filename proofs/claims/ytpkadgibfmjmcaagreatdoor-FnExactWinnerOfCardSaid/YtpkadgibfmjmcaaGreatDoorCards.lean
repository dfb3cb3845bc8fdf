/-
  DERIVED. GIVEN WITH THE SEED: THE CARDS: each row of YtpkadgibfmjmcaaGreatDoorRows.lean that lists a variable, with what it lists TIED to the program's text (the seventh form; the later family's looks); each row that meets fmt, with fmt's text TOLD by the authors' own Lean function (tested against real Go, not proved from fmt's source: count such statements apart). THE CARD IS WHAT COUNTS. Prove the row's statement (the work); the ties are given (YtpkadgibfmjmcaaGreatDoorTie.lean); close each card by the builder's one call (the guide's Derived/Test/ToyasCard.lean, 'card_holds'). Laid BY PROGRAM, IN A SANDBOX (cutbox-door.mjs). By AI agents, Wed Nov 11 2026. No macro, syntax, notation, axiom, sorry.
-/
import Derived.Test.YtpkadgibfmjmcaaGreatDoorRows
import GoSem.ClaimSeven
namespace Go.Proofs.YtpkadgibfmjmcaaGreatDoor
namespace Rows

/-- THE TIED CARD OF 'laws.FnExactScoreParts'. -/
def fnExactScorePartsCard : Claim7 := { stood := { row := fnExactScorePartsRow, standIns := [], harness := (true, "62b31ebfebb85373336faa1ae90d83e84a575c045c43a402e8edc76e7ab58e3a"), looks := false }, kinds := [], alts := [], laidByText := true, laidKinds := [.data, .pinned, .pinned], laidTests := true, laidLooks := .later }
def FnExactScorePartsCardSaid : Prop := Claim7.holds Tryz.pinned (.plain (OpenSpec.ofChange fnExactScorePartsSpec)) fnExactScorePartsCard

/-- THE TIED CARD OF 'laws.FnExactLegalPlay'. -/
def fnExactLegalPlayCard : Claim7 := { stood := { row := fnExactLegalPlayRow, standIns := [], harness := (true, "62b31ebfebb85373336faa1ae90d83e84a575c045c43a402e8edc76e7ab58e3a"), looks := false }, kinds := [], alts := [], laidByText := true, laidKinds := [.data, .pinned, .pinned], laidTests := true, laidLooks := .later }
def FnExactLegalPlayCardSaid : Prop := Claim7.holds Tryz.pinned (.plain (OpenSpec.ofChange fnExactLegalPlaySpec)) fnExactLegalPlayCard

/-- THE TIED CARD OF 'laws.FnExactBestPlay'. -/
def fnExactBestPlayCard : Claim7 := { stood := { row := fnExactBestPlayRow, standIns := [], harness := (true, "62b31ebfebb85373336faa1ae90d83e84a575c045c43a402e8edc76e7ab58e3a"), looks := false }, kinds := [], alts := [], laidByText := true, laidKinds := [.data, .pinned, .pinned], laidTests := true, laidLooks := .later }
def FnExactBestPlayCardSaid : Prop := Claim7.holds Tryz.pinned (.plain (OpenSpec.ofChange fnExactBestPlaySpec)) fnExactBestPlayCard

/-- THE TIED CARD OF 'laws.FnExactValidGame'. -/
def fnExactValidGameCard : Claim7 := { stood := { row := fnExactValidGameRow, standIns := [], harness := (true, "62b31ebfebb85373336faa1ae90d83e84a575c045c43a402e8edc76e7ab58e3a"), looks := false }, kinds := [], alts := [], laidByText := true, laidKinds := [.data, .pinned, .pinned], laidTests := true, laidLooks := .later }
def FnExactValidGameCardSaid : Prop := Claim7.holds Tryz.pinned (.plain (OpenSpec.ofChange fnExactValidGameSpec)) fnExactValidGameCard

/-- THE TIED CARD OF 'laws.FnExactWinnerOf'. -/
def fnExactWinnerOfCard : Claim7 := { stood := { row := fnExactWinnerOfRow, standIns := [], harness := (true, "62b31ebfebb85373336faa1ae90d83e84a575c045c43a402e8edc76e7ab58e3a"), looks := false }, kinds := [], alts := [], laidByText := true, laidKinds := [.data, .pinned, .pinned], laidTests := true, laidLooks := .later }
def FnExactWinnerOfCardSaid : Prop := Claim7.holds Tryz.pinned (.plain (OpenSpec.ofChange fnExactWinnerOfSpec)) fnExactWinnerOfCard

/-- THE TIED CARD OF 'laws.FnExactUnseenBy'. -/
def fnExactUnseenByCard : Claim7 := { stood := { row := fnExactUnseenByRow, standIns := [], harness := (true, "62b31ebfebb85373336faa1ae90d83e84a575c045c43a402e8edc76e7ab58e3a"), looks := false }, kinds := [], alts := [], laidByText := true, laidKinds := [.data, .pinned, .pinned], laidTests := true, laidLooks := .later }
def FnExactUnseenByCardSaid : Prop := Claim7.holds Tryz.pinned (.plain (OpenSpec.ofChange fnExactUnseenBySpec)) fnExactUnseenByCard

/-- THE TIED CARD OF 'laws.FnExactCanChallenge'. -/
def fnExactCanChallengeCard : Claim7 := { stood := { row := fnExactCanChallengeRow, standIns := [], harness := (true, "62b31ebfebb85373336faa1ae90d83e84a575c045c43a402e8edc76e7ab58e3a"), looks := false }, kinds := [], alts := [], laidByText := true, laidKinds := [.data, .pinned, .pinned], laidTests := true, laidLooks := .later }
def FnExactCanChallengeCardSaid : Prop := Claim7.holds Tryz.pinned (.plain (OpenSpec.ofChange fnExactCanChallengeSpec)) fnExactCanChallengeCard

/-- THE SECOND FORM's CARD OF 'laws.FnExactScoreParts'. -/
def fnExactScorePartsUptoCard : Claim7 := { stood := { row := fnExactScorePartsUptoRow, standIns := [], harness := (true, "62b31ebfebb85373336faa1ae90d83e84a575c045c43a402e8edc76e7ab58e3a"), looks := false }, kinds := [], alts := [], laidByText := true, laidKinds := [.data, .pinned, .pinned], laidTests := true, laidLooks := .later }
def FnExactScorePartsUptoCardSaid : Prop := Claim7.holds Tryz.pinned (.plain (OpenSpec.upto fnExactScorePartsSpec)) fnExactScorePartsUptoCard

/-- THE SECOND FORM's CARD OF 'laws.FnExactLegalPlay'. -/
def fnExactLegalPlayUptoCard : Claim7 := { stood := { row := fnExactLegalPlayUptoRow, standIns := [], harness := (true, "62b31ebfebb85373336faa1ae90d83e84a575c045c43a402e8edc76e7ab58e3a"), looks := false }, kinds := [], alts := [], laidByText := true, laidKinds := [.data, .pinned, .pinned], laidTests := true, laidLooks := .later }
def FnExactLegalPlayUptoCardSaid : Prop := Claim7.holds Tryz.pinned (.plain (OpenSpec.upto fnExactLegalPlaySpec)) fnExactLegalPlayUptoCard

/-- THE SECOND FORM's CARD OF 'laws.FnExactBestPlay'. -/
def fnExactBestPlayUptoCard : Claim7 := { stood := { row := fnExactBestPlayUptoRow, standIns := [], harness := (true, "62b31ebfebb85373336faa1ae90d83e84a575c045c43a402e8edc76e7ab58e3a"), looks := false }, kinds := [], alts := [], laidByText := true, laidKinds := [.data, .pinned, .pinned], laidTests := true, laidLooks := .later }
def FnExactBestPlayUptoCardSaid : Prop := Claim7.holds Tryz.pinned (.plain (OpenSpec.upto fnExactBestPlaySpec)) fnExactBestPlayUptoCard

/-- THE SECOND FORM's CARD OF 'laws.FnExactValidGame'. -/
def fnExactValidGameUptoCard : Claim7 := { stood := { row := fnExactValidGameUptoRow, standIns := [], harness := (true, "62b31ebfebb85373336faa1ae90d83e84a575c045c43a402e8edc76e7ab58e3a"), looks := false }, kinds := [], alts := [], laidByText := true, laidKinds := [.data, .pinned, .pinned], laidTests := true, laidLooks := .later }
def FnExactValidGameUptoCardSaid : Prop := Claim7.holds Tryz.pinned (.plain (OpenSpec.upto fnExactValidGameSpec)) fnExactValidGameUptoCard

/-- THE SECOND FORM's CARD OF 'laws.FnExactWinnerOf'. -/
def fnExactWinnerOfUptoCard : Claim7 := { stood := { row := fnExactWinnerOfUptoRow, standIns := [], harness := (true, "62b31ebfebb85373336faa1ae90d83e84a575c045c43a402e8edc76e7ab58e3a"), looks := false }, kinds := [], alts := [], laidByText := true, laidKinds := [.data, .pinned, .pinned], laidTests := true, laidLooks := .later }
def FnExactWinnerOfUptoCardSaid : Prop := Claim7.holds Tryz.pinned (.plain (OpenSpec.upto fnExactWinnerOfSpec)) fnExactWinnerOfUptoCard

/-- THE SECOND FORM's CARD OF 'laws.FnExactUnseenBy'. -/
def fnExactUnseenByUptoCard : Claim7 := { stood := { row := fnExactUnseenByUptoRow, standIns := [], harness := (true, "62b31ebfebb85373336faa1ae90d83e84a575c045c43a402e8edc76e7ab58e3a"), looks := false }, kinds := [], alts := [], laidByText := true, laidKinds := [.data, .pinned, .pinned], laidTests := true, laidLooks := .later }
def FnExactUnseenByUptoCardSaid : Prop := Claim7.holds Tryz.pinned (.plain (OpenSpec.upto fnExactUnseenBySpec)) fnExactUnseenByUptoCard

/-- THE SECOND FORM's CARD OF 'laws.FnExactCanChallenge'. -/
def fnExactCanChallengeUptoCard : Claim7 := { stood := { row := fnExactCanChallengeUptoRow, standIns := [], harness := (true, "62b31ebfebb85373336faa1ae90d83e84a575c045c43a402e8edc76e7ab58e3a"), looks := false }, kinds := [], alts := [], laidByText := true, laidKinds := [.data, .pinned, .pinned], laidTests := true, laidLooks := .later }
def FnExactCanChallengeUptoCardSaid : Prop := Claim7.holds Tryz.pinned (.plain (OpenSpec.upto fnExactCanChallengeSpec)) fnExactCanChallengeUptoCard
end Rows
end Go.Proofs.YtpkadgibfmjmcaaGreatDoor
