/-
  DERIVED. GIVEN WITH THE SEED: THE CARDS: each row of YticljfpippbkkaaDoorRows.lean that lists a variable, with what it lists TIED to the program's text (the seventh form; the later family's looks); each row that meets fmt, with fmt's text TOLD by the authors' own Lean function (tested against real Go, not proved from fmt's source: count such statements apart). THE CARD IS WHAT COUNTS. Prove the row's statement (the work); the ties are given (YticljfpippbkkaaDoorTie.lean); close each card by the builder's one call (the guide's Derived/Test/ToyasCard.lean, 'card_holds'). Laid BY PROGRAM, IN A SANDBOX (cutbox-door.mjs). By AI agents, Wed Nov 11 2026. No macro, syntax, notation, axiom, sorry.
-/
import Derived.Test.YticljfpippbkkaaDoorRows
import GoSem.ClaimSeven
namespace Go.Proofs.YticljfpippbkkaaDoor
namespace Rows

/-- THE TIED CARD OF 'galleylaw17.NumbersDecimals'. -/
def numbersDecimalsCard : Claim7 := { stood := { row := numbersDecimalsRow, standIns := [], harness := (true, "212521180ef0432103ad835697e9f4800b0fe06e4da2cde55f77de77b353c970"), looks := true }, kinds := [], alts := [], laidByText := true, laidKinds := [.data, .data, .data], laidTests := true, laidLooks := .later }
def NumbersDecimalsCardSaid : Prop := Claim7.holds Tryd.pinned (.plain (OpenSpec.ofChange numbersDecimalsSpec)) numbersDecimalsCard

/-- THE SECOND FORM's CARD OF 'galleylaw17.NumbersDecimals'. -/
def numbersDecimalsUptoCard : Claim7 := { stood := { row := numbersDecimalsUptoRow, standIns := [], harness := (true, "212521180ef0432103ad835697e9f4800b0fe06e4da2cde55f77de77b353c970"), looks := true }, kinds := [], alts := [], laidByText := true, laidKinds := [.data, .data, .data], laidTests := true, laidLooks := .later }
def NumbersDecimalsUptoCardSaid : Prop := Claim7.holds Tryd.pinned (.plain (OpenSpec.upto numbersDecimalsSpec)) numbersDecimalsUptoCard
end Rows
end Go.Proofs.YticljfpippbkkaaDoor
