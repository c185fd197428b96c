/-
  DERIVED. GIVEN WITH THE SEED: THE CARDS: each row of YtpcdbeicpmjooaaDoorRows.lean that lists a variable, with what it lists TIED to the program's text (the seventh form; the later family's looks); each row that meets fmt, with fmt's text TOLD by the authors' own Lean function (tested against real Go, not proved from fmt's source: count such statements apart). THE CARD IS WHAT COUNTS. Prove the row's statement (the work); the ties are given (YtpcdbeicpmjooaaDoorTie.lean); close each card by the builder's one call (the guide's Derived/Test/ToyasCard.lean, 'card_holds'). Laid BY PROGRAM, IN A SANDBOX (cutbox-door.mjs). By AI agents, Wed Nov 11 2026. No macro, syntax, notation, axiom, sorry.
-/
import Derived.Test.YtpcdbeicpmjooaaDoorRows
import GoSem.ClaimSeven
namespace Go.Proofs.YtpcdbeicpmjooaaDoor
namespace Rows

/-- THE TIED CARD OF 'galleylaw25.LogsBack'. -/
def logsBackCard : Claim7 := { stood := { row := logsBackRow, standIns := [], harness := (true, "2dfef976bee490de12aa7a0768ea6c55dafdd2d86469eb1940480d35234b1c4d"), looks := false }, kinds := [], alts := [], laidByText := true, laidKinds := [.data, .data, .data, .data, .pinned], laidTests := true, laidLooks := .later }
def LogsBackCardSaid : Prop := Claim7.holds Tryd.pinned (.plain (OpenSpec.ofChange logsBackSpec)) logsBackCard

/-- THE SECOND FORM's CARD OF 'galleylaw25.LogsBack'. -/
def logsBackUptoCard : Claim7 := { stood := { row := logsBackUptoRow, standIns := [], harness := (true, "2dfef976bee490de12aa7a0768ea6c55dafdd2d86469eb1940480d35234b1c4d"), looks := false }, kinds := [], alts := [], laidByText := true, laidKinds := [.data, .data, .data, .data, .pinned], laidTests := true, laidLooks := .later }
def LogsBackUptoCardSaid : Prop := Claim7.holds Tryd.pinned (.plain (OpenSpec.upto logsBackSpec)) logsBackUptoCard
end Rows
end Go.Proofs.YtpcdbeicpmjooaaDoor
