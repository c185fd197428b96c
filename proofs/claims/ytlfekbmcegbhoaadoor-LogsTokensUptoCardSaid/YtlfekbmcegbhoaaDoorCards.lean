/-
  DERIVED. GIVEN WITH THE SEED: THE CARDS: each row of YtlfekbmcegbhoaaDoorRows.lean that lists a variable, with what it lists TIED to the program's text (the seventh form; the later family's looks); each row that meets fmt, with fmt's text TOLD by the authors' own Lean function (tested against real Go, not proved from fmt's source: count such statements apart). THE CARD IS WHAT COUNTS. Prove the row's statement (the work); the ties are given (YtlfekbmcegbhoaaDoorTie.lean); close each card by the builder's one call (the guide's Derived/Test/ToyasCard.lean, 'card_holds'). Laid BY PROGRAM, IN A SANDBOX (cutbox-door.mjs). By AI agents, Wed Nov 11 2026. No macro, syntax, notation, axiom, sorry.
-/
import Derived.Test.YtlfekbmcegbhoaaDoorRows
import GoSem.ClaimSeven
namespace Go.Proofs.YtlfekbmcegbhoaaDoor
namespace Rows

/-- THE TIED CARD OF 'galleylaw25.LogsWidth'. -/
def logsWidthCard : Claim7 := { stood := { row := logsWidthRow, standIns := [], harness := (true, "49d6310241e98dd0fd7ab2d2713e300056caefa38ace18c596561f013c3a1157"), looks := false }, kinds := [], alts := [], laidByText := true, laidKinds := [.data, .data, .data], laidTests := true, laidLooks := .later }
def LogsWidthCardSaid : Prop := Claim7.holds Tryd.pinned (.plain (OpenSpec.ofChange logsWidthSpec)) logsWidthCard

/-- THE TIED CARD OF 'galleylaw25.LogsNil'. -/
def logsNilCard : Claim7 := { stood := { row := logsNilRow, standIns := [], harness := (true, "49d6310241e98dd0fd7ab2d2713e300056caefa38ace18c596561f013c3a1157"), looks := false }, kinds := [], alts := [], laidByText := true, laidKinds := [.data, .data, .data], laidTests := true, laidLooks := .later }
def LogsNilCardSaid : Prop := Claim7.holds Tryd.pinned (.plain (OpenSpec.ofChange logsNilSpec)) logsNilCard

/-- THE TIED CARD OF 'galleylaw25.LogsJoined'. -/
def logsJoinedCard : Claim7 := { stood := { row := logsJoinedRow, standIns := [], harness := (true, "49d6310241e98dd0fd7ab2d2713e300056caefa38ace18c596561f013c3a1157"), looks := false }, kinds := [], alts := [], laidByText := true, laidKinds := [.data, .data, .data], laidTests := true, laidLooks := .later }
def LogsJoinedCardSaid : Prop := Claim7.holds Tryd.pinned (.plain (OpenSpec.ofChange logsJoinedSpec)) logsJoinedCard

/-- THE TIED CARD OF 'galleylaw25.LogsTokens'. -/
def logsTokensCard : Claim7 := { stood := { row := logsTokensRow, standIns := [], harness := (true, "49d6310241e98dd0fd7ab2d2713e300056caefa38ace18c596561f013c3a1157"), looks := false }, kinds := [], alts := [], laidByText := true, laidKinds := [.data, .data, .data], laidTests := true, laidLooks := .later }
def LogsTokensCardSaid : Prop := Claim7.holds Tryd.pinned (.plain (OpenSpec.ofChange logsTokensSpec)) logsTokensCard

/-- THE SECOND FORM's CARD OF 'galleylaw25.LogsWidth'. -/
def logsWidthUptoCard : Claim7 := { stood := { row := logsWidthUptoRow, standIns := [], harness := (true, "49d6310241e98dd0fd7ab2d2713e300056caefa38ace18c596561f013c3a1157"), looks := false }, kinds := [], alts := [], laidByText := true, laidKinds := [.data, .data, .data], laidTests := true, laidLooks := .later }
def LogsWidthUptoCardSaid : Prop := Claim7.holds Tryd.pinned (.plain (OpenSpec.upto logsWidthSpec)) logsWidthUptoCard

/-- THE SECOND FORM's CARD OF 'galleylaw25.LogsNil'. -/
def logsNilUptoCard : Claim7 := { stood := { row := logsNilUptoRow, standIns := [], harness := (true, "49d6310241e98dd0fd7ab2d2713e300056caefa38ace18c596561f013c3a1157"), looks := false }, kinds := [], alts := [], laidByText := true, laidKinds := [.data, .data, .data], laidTests := true, laidLooks := .later }
def LogsNilUptoCardSaid : Prop := Claim7.holds Tryd.pinned (.plain (OpenSpec.upto logsNilSpec)) logsNilUptoCard

/-- THE SECOND FORM's CARD OF 'galleylaw25.LogsJoined'. -/
def logsJoinedUptoCard : Claim7 := { stood := { row := logsJoinedUptoRow, standIns := [], harness := (true, "49d6310241e98dd0fd7ab2d2713e300056caefa38ace18c596561f013c3a1157"), looks := false }, kinds := [], alts := [], laidByText := true, laidKinds := [.data, .data, .data], laidTests := true, laidLooks := .later }
def LogsJoinedUptoCardSaid : Prop := Claim7.holds Tryd.pinned (.plain (OpenSpec.upto logsJoinedSpec)) logsJoinedUptoCard

/-- THE SECOND FORM's CARD OF 'galleylaw25.LogsTokens'. -/
def logsTokensUptoCard : Claim7 := { stood := { row := logsTokensUptoRow, standIns := [], harness := (true, "49d6310241e98dd0fd7ab2d2713e300056caefa38ace18c596561f013c3a1157"), looks := false }, kinds := [], alts := [], laidByText := true, laidKinds := [.data, .data, .data], laidTests := true, laidLooks := .later }
def LogsTokensUptoCardSaid : Prop := Claim7.holds Tryd.pinned (.plain (OpenSpec.upto logsTokensSpec)) logsTokensUptoCard
end Rows
end Go.Proofs.YtlfekbmcegbhoaaDoor
