/-
  No cell of these rows narrows 'for every input' (looked for: loops, veiled, ifaces, maps, wideKeys, modest, calm, conditions, laid).
  DERIVED. THE GIVEN ROWS OF THIS SEAT. 4 by the template 'for every input the law returns true; each argument reads behind the call as it read before'; 0 by the template 'total and deterministic' (their statements: YtebggkgciocciaaTotals.lean).
  GIVEN WITH THE SEED: the statements are not yours to turn. If you find one false, say at which input.
  Laid BY PROGRAM, IN A SANDBOX (cutbox-rows.mjs): the forced cells as the released guide's own fill.sh prints them over the translation ae258f77a528cc68… (all of the seat's roots in one cut). By AI agents, Wed Nov 11 2026. No macro, syntax, notation, axiom, sorry.
-/
import Derived.Test.YtebggkgciocciaaChecked
import GoSem.Claim
import GoSem.ClaimJoined
import GoSem.ClaimMapViews
import Derived.JoinedTies
import Derived.KernelRfl
namespace Go.Proofs.Ytebggkgciocciaa
/- THE CELL 'sum', in the pinned program and in every row, IS THE sha256 OF THE DUMP (.gsa) THAT YtebggkgciocciaaProg.lean LOADS. Nothing in Lean hashes anything: it is a label: what it is worth is what the hold of that sum in a sandbox is worth. -/
noncomputable def Try.pinned : Pinned := { name := "ytebggkgciocciaa", sum := "ae258f77a528cc68a010195f1b1fbf625fad03cbb7204d77134f6dd8cef15ad7", checked := Try.checked }
namespace Rows
def none {H : Type} : Left H := { results := [], args := [] }

/-- 'galleylaw15.TableAfters': WHATEVER THE INPUT: true; the input reads as it did. -/
def tableAftersSpec : ChangeSpec := { name := "tableAfters", fn := fun _ => fun
  | [d1, d2] => { results := [.lit (.bool true)], args := [d1, d2] }
  | _ => none }
def tableAftersRow : OpenClaim := { program := "ytebggkgciocciaa", sum := "ae258f77a528cc68a010195f1b1fbf625fad03cbb7204d77134f6dd8cef15ad7", func := "galley/galleylaw15.TableAfters", spec := "tableAfters", unfollowed := true, recurses := true, plainKeys := false, apart := false }
def TableAftersSaid : Prop := tableAftersRow.holds Try.pinned (OpenSpec.ofChange tableAftersSpec)

/-- ITS FALSE NEIGHBOUR: 'it returns false'. Refute it at one input. -/
def tableAftersWrong : ChangeSpec := { name := "tableAfters", fn := fun _ => fun
  | [d1, d2] => { results := [.lit (.bool false)], args := [d1, d2] }
  | _ => none }
def TableAftersWrongFalsely : Prop := tableAftersRow.holds Try.pinned (OpenSpec.ofChange tableAftersWrong)

/-- 'galleylaw15.TableSums': WHATEVER THE INPUT: true; the input reads as it did. -/
def tableSumsSpec : ChangeSpec := { name := "tableSums", fn := fun _ => fun
  | [d1, d2, d3, d4] => { results := [.lit (.bool true)], args := [d1, d2, d3, d4] }
  | _ => none }
def tableSumsRow : OpenClaim := { program := "ytebggkgciocciaa", sum := "ae258f77a528cc68a010195f1b1fbf625fad03cbb7204d77134f6dd8cef15ad7", func := "galley/galleylaw15.TableSums", spec := "tableSums", unfollowed := true, recurses := true, plainKeys := false, apart := false }
def TableSumsSaid : Prop := tableSumsRow.holds Try.pinned (OpenSpec.ofChange tableSumsSpec)

/-- ITS FALSE NEIGHBOUR: 'it returns false'. Refute it at one input. -/
def tableSumsWrong : ChangeSpec := { name := "tableSums", fn := fun _ => fun
  | [d1, d2, d3, d4] => { results := [.lit (.bool false)], args := [d1, d2, d3, d4] }
  | _ => none }
def TableSumsWrongFalsely : Prop := tableSumsRow.holds Try.pinned (OpenSpec.ofChange tableSumsWrong)

/-- 'galleylaw15.TableGlobal': WHATEVER THE INPUT: true; the input reads as it did. -/
def tableGlobalSpec : ChangeSpec := { name := "tableGlobal", fn := fun _ => fun
  | [d1, d2] => { results := [.lit (.bool true)], args := [d1, d2] }
  | _ => none }
def tableGlobalRow : OpenClaim := { program := "ytebggkgciocciaa", sum := "ae258f77a528cc68a010195f1b1fbf625fad03cbb7204d77134f6dd8cef15ad7", func := "galley/galleylaw15.TableGlobal", spec := "tableGlobal", unfollowed := true, recurses := true, plainKeys := false, apart := false }
def TableGlobalSaid : Prop := tableGlobalRow.holds Try.pinned (OpenSpec.ofChange tableGlobalSpec)

/-- ITS FALSE NEIGHBOUR: 'it returns false'. Refute it at one input. -/
def tableGlobalWrong : ChangeSpec := { name := "tableGlobal", fn := fun _ => fun
  | [d1, d2] => { results := [.lit (.bool false)], args := [d1, d2] }
  | _ => none }
def TableGlobalWrongFalsely : Prop := tableGlobalRow.holds Try.pinned (OpenSpec.ofChange tableGlobalWrong)

/-- 'galleylaw15.TableGroups': WHATEVER THE INPUT: true; the input reads as it did. -/
def tableGroupsSpec : ChangeSpec := { name := "tableGroups", fn := fun _ => fun
  | [d1, d2, d3] => { results := [.lit (.bool true)], args := [d1, d2, d3] }
  | _ => none }
def tableGroupsRow : OpenClaim := { program := "ytebggkgciocciaa", sum := "ae258f77a528cc68a010195f1b1fbf625fad03cbb7204d77134f6dd8cef15ad7", func := "galley/galleylaw15.TableGroups", spec := "tableGroups", unfollowed := true, recurses := true, plainKeys := false, apart := false }
def TableGroupsSaid : Prop := tableGroupsRow.holds Try.pinned (OpenSpec.ofChange tableGroupsSpec)

/-- ITS FALSE NEIGHBOUR: 'it returns false'. Refute it at one input. -/
def tableGroupsWrong : ChangeSpec := { name := "tableGroups", fn := fun _ => fun
  | [d1, d2, d3] => { results := [.lit (.bool false)], args := [d1, d2, d3] }
  | _ => none }
def TableGroupsWrongFalsely : Prop := tableGroupsRow.holds Try.pinned (OpenSpec.ofChange tableGroupsWrong)

/- THE SECOND FORM. 'bulk': how many values and letters a reading holds, each counted each time it is reached (what is shared counts as often as it is met; a slice's spare places count too). A statement '..UptoSaid' is the law's where the arguments, and the package variables that the reading takes, are together of bulk at most 1048576: NARROWER than '..Said'. Prove '..Said' where nothing that the law and all that it calls make is longer than what came in: it says more and counts as full. Else prove '..UptoSaid'. A law counts once. -/
mutual
def uptoBulk {H : Type} : DataW H → Nat
  | .lit (.string bytes) => bytes.length + 1
  | .lit _ => 1
  | .nil => 1
  | .ptr d => uptoBulk d + 1
  | .slice elems spare => uptoBulkAll elems + uptoBulkAll spare + 1
  | .agg parts => uptoBulkAll parts + 1
  | .iface _ d => uptoBulk d + 1
  | .map entries => uptoBulkEntries entries + 1
  | .held _ => 1
def uptoBulkAll {H : Type} : List (DataW H) → Nat
  | [] => 0
  | d :: r => uptoBulk d + uptoBulkAll r
def uptoBulkEntries {H : Type} : List (Lit × DataW H) → Nat
  | [] => 0
  | x :: r => uptoBulkEntry x + uptoBulkEntries r
def uptoBulkEntry {H : Type} : Lit × DataW H → Nat
  | (.string bytes, d) => bytes.length + uptoBulk d + 1
  | (_, d) => uptoBulk d + 1
 end
def uptoSmall : (H : Type) → List (DataW H) → Bool := fun _ ds => decide (uptoBulkAll ds ≤ 1048576)
def OpenSpec.upto (s : _root_.Go.ChangeSpec) : _root_.Go.OpenSpec := { _root_.Go.OpenSpec.ofChange s with cond := some uptoSmall }

/-- 'galleylaw15.TableAfters', WHERE WHAT IT READS IS OF BULK AT MOST 1048576: true; the input reads as it did. -/
def tableAftersUptoRow : OpenClaim := { program := "ytebggkgciocciaa", sum := "ae258f77a528cc68a010195f1b1fbf625fad03cbb7204d77134f6dd8cef15ad7", func := "galley/galleylaw15.TableAfters", spec := "tableAfters", unfollowed := true, recurses := true, plainKeys := false, apart := false, narrowed := true }
def TableAftersUptoSaid : Prop := tableAftersUptoRow.holds Try.pinned (OpenSpec.upto tableAftersSpec)

/-- 'galleylaw15.TableSums', WHERE WHAT IT READS IS OF BULK AT MOST 1048576: true; the input reads as it did. -/
def tableSumsUptoRow : OpenClaim := { program := "ytebggkgciocciaa", sum := "ae258f77a528cc68a010195f1b1fbf625fad03cbb7204d77134f6dd8cef15ad7", func := "galley/galleylaw15.TableSums", spec := "tableSums", unfollowed := true, recurses := true, plainKeys := false, apart := false, narrowed := true }
def TableSumsUptoSaid : Prop := tableSumsUptoRow.holds Try.pinned (OpenSpec.upto tableSumsSpec)

/-- 'galleylaw15.TableGlobal', WHERE WHAT IT READS IS OF BULK AT MOST 1048576: true; the input reads as it did. -/
def tableGlobalUptoRow : OpenClaim := { program := "ytebggkgciocciaa", sum := "ae258f77a528cc68a010195f1b1fbf625fad03cbb7204d77134f6dd8cef15ad7", func := "galley/galleylaw15.TableGlobal", spec := "tableGlobal", unfollowed := true, recurses := true, plainKeys := false, apart := false, narrowed := true }
def TableGlobalUptoSaid : Prop := tableGlobalUptoRow.holds Try.pinned (OpenSpec.upto tableGlobalSpec)

/-- 'galleylaw15.TableGroups', WHERE WHAT IT READS IS OF BULK AT MOST 1048576: true; the input reads as it did. -/
def tableGroupsUptoRow : OpenClaim := { program := "ytebggkgciocciaa", sum := "ae258f77a528cc68a010195f1b1fbf625fad03cbb7204d77134f6dd8cef15ad7", func := "galley/galleylaw15.TableGroups", spec := "tableGroups", unfollowed := true, recurses := true, plainKeys := false, apart := false, narrowed := true }
def TableGroupsUptoSaid : Prop := tableGroupsUptoRow.holds Try.pinned (OpenSpec.upto tableGroupsSpec)

end Rows
end Go.Proofs.Ytebggkgciocciaa
