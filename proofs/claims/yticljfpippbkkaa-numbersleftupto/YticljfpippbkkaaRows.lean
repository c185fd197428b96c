/-
  No cell of these rows narrows 'for every input' (looked for: loops, veiled, ifaces, maps, wideKeys, modest, calm, conditions, laid).
  DERIVED. THE GIVEN ROWS OF THIS SEAT. 5 by the template 'for every input the law returns true; each argument reads behind the call as it read before'; 0 by the template 'total and deterministic' (their statements: YticljfpippbkkaaTotals.lean).
  GIVEN WITH THE SEED: the statements are not yours to turn. If you find one false, say at which input.
  Laid BY PROGRAM, IN A SANDBOX (cutbox-rows.mjs): the forced cells as the released guide's own fill.sh prints them over the translation f68d75579757152a… (all of the seat's roots in one cut). By AI agents, Wed Nov 11 2026. No macro, syntax, notation, axiom, sorry.
-/
import Derived.Test.YticljfpippbkkaaChecked
import GoSem.Claim
import GoSem.ClaimJoined
import GoSem.ClaimMapViews
import Derived.JoinedTies
import Derived.KernelRfl
namespace Go.Proofs.Yticljfpippbkkaa
/- THE CELL 'sum', in the pinned program and in every row, IS THE sha256 OF THE DUMP (.gsa) THAT YticljfpippbkkaaProg.lean LOADS. Nothing in Lean hashes anything: it is a label: what it is worth is what the hold of that sum in a sandbox is worth. -/
noncomputable def Try.pinned : Pinned := { name := "yticljfpippbkkaa", sum := "f68d75579757152a699fcb2971811c757eb50a650b8efcc4ffff48cc611c2abc", checked := Try.checked }
namespace Rows
def none {H : Type} : Left H := { results := [], args := [] }

/-- 'galleylaw17.NumbersLists': WHATEVER THE INPUT: true; the input reads as it did. -/
def numbersListsSpec : ChangeSpec := { name := "numbersLists", fn := fun _ => fun
  | [d1, d2, d3] => { results := [.lit (.bool true)], args := [d1, d2, d3] }
  | _ => none }
def numbersListsRow : OpenClaim := { program := "yticljfpippbkkaa", sum := "f68d75579757152a699fcb2971811c757eb50a650b8efcc4ffff48cc611c2abc", func := "galley/galleylaw17.NumbersLists", spec := "numbersLists", unfollowed := true, recurses := true, plainKeys := false, apart := false }
def NumbersListsSaid : Prop := numbersListsRow.holds Try.pinned (OpenSpec.ofChange numbersListsSpec)

/-- ITS FALSE NEIGHBOUR: 'it returns false'. Refute it at one input. -/
def numbersListsWrong : ChangeSpec := { name := "numbersLists", fn := fun _ => fun
  | [d1, d2, d3] => { results := [.lit (.bool false)], args := [d1, d2, d3] }
  | _ => none }
def NumbersListsWrongFalsely : Prop := numbersListsRow.holds Try.pinned (OpenSpec.ofChange numbersListsWrong)

/-- 'galleylaw17.NumbersSigns': WHATEVER THE INPUT: true; the input reads as it did. -/
def numbersSignsSpec : ChangeSpec := { name := "numbersSigns", fn := fun _ => fun
  | [d1, d2] => { results := [.lit (.bool true)], args := [d1, d2] }
  | _ => none }
def numbersSignsRow : OpenClaim := { program := "yticljfpippbkkaa", sum := "f68d75579757152a699fcb2971811c757eb50a650b8efcc4ffff48cc611c2abc", func := "galley/galleylaw17.NumbersSigns", spec := "numbersSigns", unfollowed := true, recurses := true, plainKeys := false, apart := false }
def NumbersSignsSaid : Prop := numbersSignsRow.holds Try.pinned (OpenSpec.ofChange numbersSignsSpec)

/-- ITS FALSE NEIGHBOUR: 'it returns false'. Refute it at one input. -/
def numbersSignsWrong : ChangeSpec := { name := "numbersSigns", fn := fun _ => fun
  | [d1, d2] => { results := [.lit (.bool false)], args := [d1, d2] }
  | _ => none }
def NumbersSignsWrongFalsely : Prop := numbersSignsRow.holds Try.pinned (OpenSpec.ofChange numbersSignsWrong)

/-- 'galleylaw17.NumbersKeys': WHATEVER THE INPUT: true; the input reads as it did. -/
def numbersKeysSpec : ChangeSpec := { name := "numbersKeys", fn := fun _ => fun
  | [d1, d2] => { results := [.lit (.bool true)], args := [d1, d2] }
  | _ => none }
def numbersKeysRow : OpenClaim := { program := "yticljfpippbkkaa", sum := "f68d75579757152a699fcb2971811c757eb50a650b8efcc4ffff48cc611c2abc", func := "galley/galleylaw17.NumbersKeys", spec := "numbersKeys", unfollowed := true, recurses := true, plainKeys := false, apart := false }
def NumbersKeysSaid : Prop := numbersKeysRow.holds Try.pinned (OpenSpec.ofChange numbersKeysSpec)

/-- ITS FALSE NEIGHBOUR: 'it returns false'. Refute it at one input. -/
def numbersKeysWrong : ChangeSpec := { name := "numbersKeys", fn := fun _ => fun
  | [d1, d2] => { results := [.lit (.bool false)], args := [d1, d2] }
  | _ => none }
def NumbersKeysWrongFalsely : Prop := numbersKeysRow.holds Try.pinned (OpenSpec.ofChange numbersKeysWrong)

/-- 'galleylaw17.NumbersNil': WHATEVER THE INPUT: true; the input reads as it did. -/
def numbersNilSpec : ChangeSpec := { name := "numbersNil", fn := fun _ => fun
  | [d] => { results := [.lit (.bool true)], args := [d] }
  | _ => none }
def numbersNilRow : OpenClaim := { program := "yticljfpippbkkaa", sum := "f68d75579757152a699fcb2971811c757eb50a650b8efcc4ffff48cc611c2abc", func := "galley/galleylaw17.NumbersNil", spec := "numbersNil", unfollowed := true, recurses := true, plainKeys := false, apart := false }
def NumbersNilSaid : Prop := numbersNilRow.holds Try.pinned (OpenSpec.ofChange numbersNilSpec)

/-- ITS FALSE NEIGHBOUR: 'it returns false'. Refute it at one input. -/
def numbersNilWrong : ChangeSpec := { name := "numbersNil", fn := fun _ => fun
  | [d] => { results := [.lit (.bool false)], args := [d] }
  | _ => none }
def NumbersNilWrongFalsely : Prop := numbersNilRow.holds Try.pinned (OpenSpec.ofChange numbersNilWrong)

/-- 'galleylaw17.NumbersLeft': WHATEVER THE INPUT: true; the input reads as it did. -/
def numbersLeftSpec : ChangeSpec := { name := "numbersLeft", fn := fun _ => fun
  | [d1, d2] => { results := [.lit (.bool true)], args := [d1, d2] }
  | _ => none }
def numbersLeftRow : OpenClaim := { program := "yticljfpippbkkaa", sum := "f68d75579757152a699fcb2971811c757eb50a650b8efcc4ffff48cc611c2abc", func := "galley/galleylaw17.NumbersLeft", spec := "numbersLeft", unfollowed := true, recurses := true, plainKeys := false, apart := false }
def NumbersLeftSaid : Prop := numbersLeftRow.holds Try.pinned (OpenSpec.ofChange numbersLeftSpec)

/-- ITS FALSE NEIGHBOUR: 'it returns false'. Refute it at one input. -/
def numbersLeftWrong : ChangeSpec := { name := "numbersLeft", fn := fun _ => fun
  | [d1, d2] => { results := [.lit (.bool false)], args := [d1, d2] }
  | _ => none }
def NumbersLeftWrongFalsely : Prop := numbersLeftRow.holds Try.pinned (OpenSpec.ofChange numbersLeftWrong)

/- THE SECOND FORM. 'bulk': how many values and letters a reading holds, each counted each time it is reached (what is shared counts as often as it is met; a slice's spare places count too). A statement '..UptoSaid' is the law's where the arguments, and the package variables that the reading takes, are together of bulk at most 1048576: NARROWER than '..Said'. Prove '..Said' where nothing that the law and all that it calls make is longer than what came in: it says more and counts as full. Else prove '..UptoSaid'. A law counts once. -/
mutual
def uptoBulk {H : Type} : DataW H → Nat
  | .lit (.string bytes) => bytes.length + 1
  | .lit _ => 1
  | .nil => 1
  | .ptr d => uptoBulk d + 1
  | .slice elems spare => uptoBulkAll elems + uptoBulkAll spare + 1
  | .agg parts => uptoBulkAll parts + 1
  | .iface _ d => uptoBulk d + 1
  | .map entries => uptoBulkEntries entries + 1
  | .held _ => 1
def uptoBulkAll {H : Type} : List (DataW H) → Nat
  | [] => 0
  | d :: r => uptoBulk d + uptoBulkAll r
def uptoBulkEntries {H : Type} : List (Lit × DataW H) → Nat
  | [] => 0
  | x :: r => uptoBulkEntry x + uptoBulkEntries r
def uptoBulkEntry {H : Type} : Lit × DataW H → Nat
  | (.string bytes, d) => bytes.length + uptoBulk d + 1
  | (_, d) => uptoBulk d + 1
 end
def uptoSmall : (H : Type) → List (DataW H) → Bool := fun _ ds => decide (uptoBulkAll ds ≤ 1048576)
def OpenSpec.upto (s : _root_.Go.ChangeSpec) : _root_.Go.OpenSpec := { _root_.Go.OpenSpec.ofChange s with cond := some uptoSmall }

/-- 'galleylaw17.NumbersLists', WHERE WHAT IT READS IS OF BULK AT MOST 1048576: true; the input reads as it did. -/
def numbersListsUptoRow : OpenClaim := { program := "yticljfpippbkkaa", sum := "f68d75579757152a699fcb2971811c757eb50a650b8efcc4ffff48cc611c2abc", func := "galley/galleylaw17.NumbersLists", spec := "numbersLists", unfollowed := true, recurses := true, plainKeys := false, apart := false, narrowed := true }
def NumbersListsUptoSaid : Prop := numbersListsUptoRow.holds Try.pinned (OpenSpec.upto numbersListsSpec)

/-- 'galleylaw17.NumbersSigns', WHERE WHAT IT READS IS OF BULK AT MOST 1048576: true; the input reads as it did. -/
def numbersSignsUptoRow : OpenClaim := { program := "yticljfpippbkkaa", sum := "f68d75579757152a699fcb2971811c757eb50a650b8efcc4ffff48cc611c2abc", func := "galley/galleylaw17.NumbersSigns", spec := "numbersSigns", unfollowed := true, recurses := true, plainKeys := false, apart := false, narrowed := true }
def NumbersSignsUptoSaid : Prop := numbersSignsUptoRow.holds Try.pinned (OpenSpec.upto numbersSignsSpec)

/-- 'galleylaw17.NumbersKeys', WHERE WHAT IT READS IS OF BULK AT MOST 1048576: true; the input reads as it did. -/
def numbersKeysUptoRow : OpenClaim := { program := "yticljfpippbkkaa", sum := "f68d75579757152a699fcb2971811c757eb50a650b8efcc4ffff48cc611c2abc", func := "galley/galleylaw17.NumbersKeys", spec := "numbersKeys", unfollowed := true, recurses := true, plainKeys := false, apart := false, narrowed := true }
def NumbersKeysUptoSaid : Prop := numbersKeysUptoRow.holds Try.pinned (OpenSpec.upto numbersKeysSpec)

/-- 'galleylaw17.NumbersNil', WHERE WHAT IT READS IS OF BULK AT MOST 1048576: true; the input reads as it did. -/
def numbersNilUptoRow : OpenClaim := { program := "yticljfpippbkkaa", sum := "f68d75579757152a699fcb2971811c757eb50a650b8efcc4ffff48cc611c2abc", func := "galley/galleylaw17.NumbersNil", spec := "numbersNil", unfollowed := true, recurses := true, plainKeys := false, apart := false, narrowed := true }
def NumbersNilUptoSaid : Prop := numbersNilUptoRow.holds Try.pinned (OpenSpec.upto numbersNilSpec)

/-- 'galleylaw17.NumbersLeft', WHERE WHAT IT READS IS OF BULK AT MOST 1048576: true; the input reads as it did. -/
def numbersLeftUptoRow : OpenClaim := { program := "yticljfpippbkkaa", sum := "f68d75579757152a699fcb2971811c757eb50a650b8efcc4ffff48cc611c2abc", func := "galley/galleylaw17.NumbersLeft", spec := "numbersLeft", unfollowed := true, recurses := true, plainKeys := false, apart := false, narrowed := true }
def NumbersLeftUptoSaid : Prop := numbersLeftUptoRow.holds Try.pinned (OpenSpec.upto numbersLeftSpec)

end Rows
end Go.Proofs.Yticljfpippbkkaa
