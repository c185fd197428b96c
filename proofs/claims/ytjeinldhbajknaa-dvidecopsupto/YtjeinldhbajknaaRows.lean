/-
  No cell of these rows narrows 'for every input' (looked for: loops, veiled, ifaces, maps, wideKeys, modest, calm, conditions, laid).
  DERIVED. THE GIVEN ROWS OF THIS SEAT. 5 by the template 'for every input the law returns true; each argument reads behind the call as it read before'; 0 by the template 'total and deterministic' (their statements: YtjeinldhbajknaaTotals.lean).
  GIVEN WITH THE SEED: the statements are not yours to turn. If you find one false, say at which input.
  Laid BY PROGRAM, IN A SANDBOX (cutbox-rows.mjs): the forced cells as the released guide's own fill.sh prints them over the translation 411ef7fd093e67da… (all of the seat's roots in one cut). By AI agents, Wed Nov 11 2026. No macro, syntax, notation, axiom, sorry.
-/
import Derived.Test.YtjeinldhbajknaaChecked
import GoSem.Claim
import GoSem.ClaimJoined
import GoSem.ClaimMapViews
import Derived.JoinedTies
import Derived.KernelRfl
namespace Go.Proofs.Ytjeinldhbajknaa
/- THE CELL 'sum', in the pinned program and in every row, IS THE sha256 OF THE DUMP (.gsa) THAT YtjeinldhbajknaaProg.lean LOADS. Nothing in Lean hashes anything: it is a label: what it is worth is what the hold of that sum in a sandbox is worth. -/
noncomputable def Try.pinned : Pinned := { name := "ytjeinldhbajknaa", sum := "411ef7fd093e67da455fc741747d46fb0dced022248899a75fadf609103ecc1a", checked := Try.checked }
namespace Rows
def none {H : Type} : Left H := { results := [], args := [] }

/-- 'galleylaw24.DvidecOps': WHATEVER THE INPUT: true; the input reads as it did. -/
def dvidecOpsSpec : ChangeSpec := { name := "dvidecOps", fn := fun _ => fun
  | [d] => { results := [.lit (.bool true)], args := [d] }
  | _ => none }
def dvidecOpsRow : OpenClaim := { program := "ytjeinldhbajknaa", sum := "411ef7fd093e67da455fc741747d46fb0dced022248899a75fadf609103ecc1a", func := "galley/galleylaw24.DvidecOps", spec := "dvidecOps", apart := false }
def DvidecOpsSaid : Prop := dvidecOpsRow.holds Try.pinned (OpenSpec.ofChange dvidecOpsSpec)

/-- ITS FALSE NEIGHBOUR: 'it returns false'. Refute it at one input. -/
def dvidecOpsWrong : ChangeSpec := { name := "dvidecOps", fn := fun _ => fun
  | [d] => { results := [.lit (.bool false)], args := [d] }
  | _ => none }
def DvidecOpsWrongFalsely : Prop := dvidecOpsRow.holds Try.pinned (OpenSpec.ofChange dvidecOpsWrong)

/-- 'galleylaw24.DvidecBack': WHATEVER THE INPUT: true; the input reads as it did. -/
def dvidecBackSpec : ChangeSpec := { name := "dvidecBack", fn := fun _ => fun
  | [d] => { results := [.lit (.bool true)], args := [d] }
  | _ => none }
def dvidecBackRow : OpenClaim := { program := "ytjeinldhbajknaa", sum := "411ef7fd093e67da455fc741747d46fb0dced022248899a75fadf609103ecc1a", func := "galley/galleylaw24.DvidecBack", spec := "dvidecBack", apart := false }
def DvidecBackSaid : Prop := dvidecBackRow.holds Try.pinned (OpenSpec.ofChange dvidecBackSpec)

/-- ITS FALSE NEIGHBOUR: 'it returns false'. Refute it at one input. -/
def dvidecBackWrong : ChangeSpec := { name := "dvidecBack", fn := fun _ => fun
  | [d] => { results := [.lit (.bool false)], args := [d] }
  | _ => none }
def DvidecBackWrongFalsely : Prop := dvidecBackRow.holds Try.pinned (OpenSpec.ofChange dvidecBackWrong)

/-- 'galleylaw24.DvidecSpoilt': WHATEVER THE INPUT: true; the input reads as it did. -/
def dvidecSpoiltSpec : ChangeSpec := { name := "dvidecSpoilt", fn := fun _ => fun
  | [d1, d2] => { results := [.lit (.bool true)], args := [d1, d2] }
  | _ => none }
def dvidecSpoiltRow : OpenClaim := { program := "ytjeinldhbajknaa", sum := "411ef7fd093e67da455fc741747d46fb0dced022248899a75fadf609103ecc1a", func := "galley/galleylaw24.DvidecSpoilt", spec := "dvidecSpoilt", apart := false }
def DvidecSpoiltSaid : Prop := dvidecSpoiltRow.holds Try.pinned (OpenSpec.ofChange dvidecSpoiltSpec)

/-- ITS FALSE NEIGHBOUR: 'it returns false'. Refute it at one input. -/
def dvidecSpoiltWrong : ChangeSpec := { name := "dvidecSpoilt", fn := fun _ => fun
  | [d1, d2] => { results := [.lit (.bool false)], args := [d1, d2] }
  | _ => none }
def DvidecSpoiltWrongFalsely : Prop := dvidecSpoiltRow.holds Try.pinned (OpenSpec.ofChange dvidecSpoiltWrong)

/-- 'galleylaw24.DvidecChecks': WHATEVER THE INPUT: true; the input reads as it did. -/
def dvidecChecksSpec : ChangeSpec := { name := "dvidecChecks", fn := fun _ => fun
  | [d] => { results := [.lit (.bool true)], args := [d] }
  | _ => none }
def dvidecChecksRow : OpenClaim := { program := "ytjeinldhbajknaa", sum := "411ef7fd093e67da455fc741747d46fb0dced022248899a75fadf609103ecc1a", func := "galley/galleylaw24.DvidecChecks", spec := "dvidecChecks", apart := false }
def DvidecChecksSaid : Prop := dvidecChecksRow.holds Try.pinned (OpenSpec.ofChange dvidecChecksSpec)

/-- ITS FALSE NEIGHBOUR: 'it returns false'. Refute it at one input. -/
def dvidecChecksWrong : ChangeSpec := { name := "dvidecChecks", fn := fun _ => fun
  | [d] => { results := [.lit (.bool false)], args := [d] }
  | _ => none }
def DvidecChecksWrongFalsely : Prop := dvidecChecksRow.holds Try.pinned (OpenSpec.ofChange dvidecChecksWrong)

/-- 'galleylaw24.DvidecIdle': WHATEVER THE INPUT: true; the input reads as it did. -/
def dvidecIdleSpec : ChangeSpec := { name := "dvidecIdle", fn := fun _ => fun
  | [d1, d2] => { results := [.lit (.bool true)], args := [d1, d2] }
  | _ => none }
def dvidecIdleRow : OpenClaim := { program := "ytjeinldhbajknaa", sum := "411ef7fd093e67da455fc741747d46fb0dced022248899a75fadf609103ecc1a", func := "galley/galleylaw24.DvidecIdle", spec := "dvidecIdle", unfollowed := true, recurses := true, apart := false }
def DvidecIdleSaid : Prop := dvidecIdleRow.holds Try.pinned (OpenSpec.ofChange dvidecIdleSpec)

/-- ITS FALSE NEIGHBOUR: 'it returns false'. Refute it at one input. -/
def dvidecIdleWrong : ChangeSpec := { name := "dvidecIdle", fn := fun _ => fun
  | [d1, d2] => { results := [.lit (.bool false)], args := [d1, d2] }
  | _ => none }
def DvidecIdleWrongFalsely : Prop := dvidecIdleRow.holds Try.pinned (OpenSpec.ofChange dvidecIdleWrong)

/- THE SECOND FORM. 'bulk': how many values and letters a reading holds, each counted each time it is reached (what is shared counts as often as it is met; a slice's spare places count too). A statement '..UptoSaid' is the law's where the arguments, and the package variables that the reading takes, are together of bulk at most 1048576: NARROWER than '..Said'. Prove '..Said' where nothing that the law and all that it calls make is longer than what came in: it says more and counts as full. Else prove '..UptoSaid'. A law counts once. -/
mutual
def uptoBulk {H : Type} : DataW H → Nat
  | .lit (.string bytes) => bytes.length + 1
  | .lit _ => 1
  | .nil => 1
  | .ptr d => uptoBulk d + 1
  | .slice elems spare => uptoBulkAll elems + uptoBulkAll spare + 1
  | .agg parts => uptoBulkAll parts + 1
  | .iface _ d => uptoBulk d + 1
  | .map entries => uptoBulkEntries entries + 1
  | .held _ => 1
def uptoBulkAll {H : Type} : List (DataW H) → Nat
  | [] => 0
  | d :: r => uptoBulk d + uptoBulkAll r
def uptoBulkEntries {H : Type} : List (Lit × DataW H) → Nat
  | [] => 0
  | x :: r => uptoBulkEntry x + uptoBulkEntries r
def uptoBulkEntry {H : Type} : Lit × DataW H → Nat
  | (.string bytes, d) => bytes.length + uptoBulk d + 1
  | (_, d) => uptoBulk d + 1
 end
def uptoSmall : (H : Type) → List (DataW H) → Bool := fun _ ds => decide (uptoBulkAll ds ≤ 1048576)
def OpenSpec.upto (s : _root_.Go.ChangeSpec) : _root_.Go.OpenSpec := { _root_.Go.OpenSpec.ofChange s with cond := some uptoSmall }

/-- 'galleylaw24.DvidecOps', WHERE WHAT IT READS IS OF BULK AT MOST 1048576: true; the input reads as it did. -/
def dvidecOpsUptoRow : OpenClaim := { program := "ytjeinldhbajknaa", sum := "411ef7fd093e67da455fc741747d46fb0dced022248899a75fadf609103ecc1a", func := "galley/galleylaw24.DvidecOps", spec := "dvidecOps", apart := false, narrowed := true }
def DvidecOpsUptoSaid : Prop := dvidecOpsUptoRow.holds Try.pinned (OpenSpec.upto dvidecOpsSpec)

/-- 'galleylaw24.DvidecBack', WHERE WHAT IT READS IS OF BULK AT MOST 1048576: true; the input reads as it did. -/
def dvidecBackUptoRow : OpenClaim := { program := "ytjeinldhbajknaa", sum := "411ef7fd093e67da455fc741747d46fb0dced022248899a75fadf609103ecc1a", func := "galley/galleylaw24.DvidecBack", spec := "dvidecBack", apart := false, narrowed := true }
def DvidecBackUptoSaid : Prop := dvidecBackUptoRow.holds Try.pinned (OpenSpec.upto dvidecBackSpec)

/-- 'galleylaw24.DvidecSpoilt', WHERE WHAT IT READS IS OF BULK AT MOST 1048576: true; the input reads as it did. -/
def dvidecSpoiltUptoRow : OpenClaim := { program := "ytjeinldhbajknaa", sum := "411ef7fd093e67da455fc741747d46fb0dced022248899a75fadf609103ecc1a", func := "galley/galleylaw24.DvidecSpoilt", spec := "dvidecSpoilt", apart := false, narrowed := true }
def DvidecSpoiltUptoSaid : Prop := dvidecSpoiltUptoRow.holds Try.pinned (OpenSpec.upto dvidecSpoiltSpec)

/-- 'galleylaw24.DvidecChecks', WHERE WHAT IT READS IS OF BULK AT MOST 1048576: true; the input reads as it did. -/
def dvidecChecksUptoRow : OpenClaim := { program := "ytjeinldhbajknaa", sum := "411ef7fd093e67da455fc741747d46fb0dced022248899a75fadf609103ecc1a", func := "galley/galleylaw24.DvidecChecks", spec := "dvidecChecks", apart := false, narrowed := true }
def DvidecChecksUptoSaid : Prop := dvidecChecksUptoRow.holds Try.pinned (OpenSpec.upto dvidecChecksSpec)

/-- 'galleylaw24.DvidecIdle', WHERE WHAT IT READS IS OF BULK AT MOST 1048576: true; the input reads as it did. -/
def dvidecIdleUptoRow : OpenClaim := { program := "ytjeinldhbajknaa", sum := "411ef7fd093e67da455fc741747d46fb0dced022248899a75fadf609103ecc1a", func := "galley/galleylaw24.DvidecIdle", spec := "dvidecIdle", unfollowed := true, recurses := true, apart := false, narrowed := true }
def DvidecIdleUptoSaid : Prop := dvidecIdleUptoRow.holds Try.pinned (OpenSpec.upto dvidecIdleSpec)

end Rows
end Go.Proofs.Ytjeinldhbajknaa
