/-
  No cell of these rows narrows 'for every input' (looked for: loops, veiled, ifaces, maps, wideKeys, modest, calm, conditions, laid).
  DERIVED. THE GIVEN ROWS OF THIS SEAT. 8 by the template 'for every input the law returns true; each argument reads behind the call as it read before'; 0 by the template 'total and deterministic' (their statements: YtlbebcioabfbgaaTotals.lean).
  GIVEN WITH THE SEED: the statements are not yours to turn. If you find one false, say at which input.
  Laid BY PROGRAM, IN A SANDBOX (cutbox-rows.mjs): the forced cells as the released guide's own fill.sh prints them over the translation 930f927c65d23e9b… (all of the seat's roots in one cut). By AI agents, Wed Nov 11 2026. No macro, syntax, notation, axiom, sorry.
-/
import Derived.Test.YtlbebcioabfbgaaChecked
import GoSem.Claim
import GoSem.ClaimJoined
import GoSem.ClaimMapViews
import Derived.JoinedTies
import Derived.KernelRfl
namespace Go.Proofs.Ytlbebcioabfbgaa
/- THE CELL 'sum', in the pinned program and in every row, IS THE sha256 OF THE DUMP (.gsa) THAT YtlbebcioabfbgaaProg.lean LOADS. Nothing in Lean hashes anything: it is a label: what it is worth is what the hold of that sum in a sandbox is worth. -/
noncomputable def Try.pinned : Pinned := { name := "ytlbebcioabfbgaa", sum := "930f927c65d23e9b6a71e54c6dd7d613ee4a59596432c1e2dd7988ac663f71c5", checked := Try.checked }
namespace Rows
def none {H : Type} : Left H := { results := [], args := [] }

/-- 'galleylaw16.MacrosDefines': WHATEVER THE INPUT: true; the input reads as it did. -/
def macrosDefinesSpec : ChangeSpec := { name := "macrosDefines", fn := fun _ => fun
  | [d1, d2, d3] => { results := [.lit (.bool true)], args := [d1, d2, d3] }
  | _ => none }
def macrosDefinesRow : OpenClaim := { program := "ytlbebcioabfbgaa", sum := "930f927c65d23e9b6a71e54c6dd7d613ee4a59596432c1e2dd7988ac663f71c5", func := "galley/galleylaw16.MacrosDefines", spec := "macrosDefines", unfollowed := true, recurses := true, apart := false }
def MacrosDefinesSaid : Prop := macrosDefinesRow.holds Try.pinned (OpenSpec.ofChange macrosDefinesSpec)

/-- ITS FALSE NEIGHBOUR: 'it returns false'. Refute it at one input. -/
def macrosDefinesWrong : ChangeSpec := { name := "macrosDefines", fn := fun _ => fun
  | [d1, d2, d3] => { results := [.lit (.bool false)], args := [d1, d2, d3] }
  | _ => none }
def MacrosDefinesWrongFalsely : Prop := macrosDefinesRow.holds Try.pinned (OpenSpec.ofChange macrosDefinesWrong)

/-- 'galleylaw16.MacrosMatches': WHATEVER THE INPUT: true; the input reads as it did. -/
def macrosMatchesSpec : ChangeSpec := { name := "macrosMatches", fn := fun _ => fun
  | [d1, d2] => { results := [.lit (.bool true)], args := [d1, d2] }
  | _ => none }
def macrosMatchesRow : OpenClaim := { program := "ytlbebcioabfbgaa", sum := "930f927c65d23e9b6a71e54c6dd7d613ee4a59596432c1e2dd7988ac663f71c5", func := "galley/galleylaw16.MacrosMatches", spec := "macrosMatches", unfollowed := true, recurses := true, apart := false }
def MacrosMatchesSaid : Prop := macrosMatchesRow.holds Try.pinned (OpenSpec.ofChange macrosMatchesSpec)

/-- ITS FALSE NEIGHBOUR: 'it returns false'. Refute it at one input. -/
def macrosMatchesWrong : ChangeSpec := { name := "macrosMatches", fn := fun _ => fun
  | [d1, d2] => { results := [.lit (.bool false)], args := [d1, d2] }
  | _ => none }
def MacrosMatchesWrongFalsely : Prop := macrosMatchesRow.holds Try.pinned (OpenSpec.ofChange macrosMatchesWrong)

/-- 'galleylaw16.MacrosApplies': WHATEVER THE INPUT: true; the input reads as it did. -/
def macrosAppliesSpec : ChangeSpec := { name := "macrosApplies", fn := fun _ => fun
  | [d1, d2, d3] => { results := [.lit (.bool true)], args := [d1, d2, d3] }
  | _ => none }
def macrosAppliesRow : OpenClaim := { program := "ytlbebcioabfbgaa", sum := "930f927c65d23e9b6a71e54c6dd7d613ee4a59596432c1e2dd7988ac663f71c5", func := "galley/galleylaw16.MacrosApplies", spec := "macrosApplies", unfollowed := true, recurses := true, apart := false }
def MacrosAppliesSaid : Prop := macrosAppliesRow.holds Try.pinned (OpenSpec.ofChange macrosAppliesSpec)

/-- ITS FALSE NEIGHBOUR: 'it returns false'. Refute it at one input. -/
def macrosAppliesWrong : ChangeSpec := { name := "macrosApplies", fn := fun _ => fun
  | [d1, d2, d3] => { results := [.lit (.bool false)], args := [d1, d2, d3] }
  | _ => none }
def MacrosAppliesWrongFalsely : Prop := macrosAppliesRow.holds Try.pinned (OpenSpec.ofChange macrosAppliesWrong)

/-- 'galleylaw16.MacrosBalanced': WHATEVER THE INPUT: true; the input reads as it did. -/
def macrosBalancedSpec : ChangeSpec := { name := "macrosBalanced", fn := fun _ => fun
  | [d1, d2] => { results := [.lit (.bool true)], args := [d1, d2] }
  | _ => none }
def macrosBalancedRow : OpenClaim := { program := "ytlbebcioabfbgaa", sum := "930f927c65d23e9b6a71e54c6dd7d613ee4a59596432c1e2dd7988ac663f71c5", func := "galley/galleylaw16.MacrosBalanced", spec := "macrosBalanced", unfollowed := true, recurses := true, apart := false }
def MacrosBalancedSaid : Prop := macrosBalancedRow.holds Try.pinned (OpenSpec.ofChange macrosBalancedSpec)

/-- ITS FALSE NEIGHBOUR: 'it returns false'. Refute it at one input. -/
def macrosBalancedWrong : ChangeSpec := { name := "macrosBalanced", fn := fun _ => fun
  | [d1, d2] => { results := [.lit (.bool false)], args := [d1, d2] }
  | _ => none }
def MacrosBalancedWrongFalsely : Prop := macrosBalancedRow.holds Try.pinned (OpenSpec.ofChange macrosBalancedWrong)

/-- 'galleylaw16.MacrosTogether': WHATEVER THE INPUT: true; the input reads as it did. -/
def macrosTogetherSpec : ChangeSpec := { name := "macrosTogether", fn := fun _ => fun
  | [d1, d2] => { results := [.lit (.bool true)], args := [d1, d2] }
  | _ => none }
def macrosTogetherRow : OpenClaim := { program := "ytlbebcioabfbgaa", sum := "930f927c65d23e9b6a71e54c6dd7d613ee4a59596432c1e2dd7988ac663f71c5", func := "galley/galleylaw16.MacrosTogether", spec := "macrosTogether", unfollowed := true, recurses := true, apart := false }
def MacrosTogetherSaid : Prop := macrosTogetherRow.holds Try.pinned (OpenSpec.ofChange macrosTogetherSpec)

/-- ITS FALSE NEIGHBOUR: 'it returns false'. Refute it at one input. -/
def macrosTogetherWrong : ChangeSpec := { name := "macrosTogether", fn := fun _ => fun
  | [d1, d2] => { results := [.lit (.bool false)], args := [d1, d2] }
  | _ => none }
def MacrosTogetherWrongFalsely : Prop := macrosTogetherRow.holds Try.pinned (OpenSpec.ofChange macrosTogetherWrong)

/-- 'galleylaw16.MacrosBehind': WHATEVER THE INPUT: true; the input reads as it did. -/
def macrosBehindSpec : ChangeSpec := { name := "macrosBehind", fn := fun _ => fun
  | [d1, d2, d3] => { results := [.lit (.bool true)], args := [d1, d2, d3] }
  | _ => none }
def macrosBehindRow : OpenClaim := { program := "ytlbebcioabfbgaa", sum := "930f927c65d23e9b6a71e54c6dd7d613ee4a59596432c1e2dd7988ac663f71c5", func := "galley/galleylaw16.MacrosBehind", spec := "macrosBehind", unfollowed := true, recurses := true, apart := false }
def MacrosBehindSaid : Prop := macrosBehindRow.holds Try.pinned (OpenSpec.ofChange macrosBehindSpec)

/-- ITS FALSE NEIGHBOUR: 'it returns false'. Refute it at one input. -/
def macrosBehindWrong : ChangeSpec := { name := "macrosBehind", fn := fun _ => fun
  | [d1, d2, d3] => { results := [.lit (.bool false)], args := [d1, d2, d3] }
  | _ => none }
def MacrosBehindWrongFalsely : Prop := macrosBehindRow.holds Try.pinned (OpenSpec.ofChange macrosBehindWrong)

/-- 'galleylaw16.MacrosChecks': WHATEVER THE INPUT: true; the input reads as it did. -/
def macrosChecksSpec : ChangeSpec := { name := "macrosChecks", fn := fun _ => fun
  | [d1, d2] => { results := [.lit (.bool true)], args := [d1, d2] }
  | _ => none }
def macrosChecksRow : OpenClaim := { program := "ytlbebcioabfbgaa", sum := "930f927c65d23e9b6a71e54c6dd7d613ee4a59596432c1e2dd7988ac663f71c5", func := "galley/galleylaw16.MacrosChecks", spec := "macrosChecks", unfollowed := true, recurses := true, apart := false }
def MacrosChecksSaid : Prop := macrosChecksRow.holds Try.pinned (OpenSpec.ofChange macrosChecksSpec)

/-- ITS FALSE NEIGHBOUR: 'it returns false'. Refute it at one input. -/
def macrosChecksWrong : ChangeSpec := { name := "macrosChecks", fn := fun _ => fun
  | [d1, d2] => { results := [.lit (.bool false)], args := [d1, d2] }
  | _ => none }
def MacrosChecksWrongFalsely : Prop := macrosChecksRow.holds Try.pinned (OpenSpec.ofChange macrosChecksWrong)

/-- 'galleylaw16.MacrosMade': WHATEVER THE INPUT: true; the input reads as it did. -/
def macrosMadeSpec : ChangeSpec := { name := "macrosMade", fn := fun _ => fun
  | [d1, d2, d3] => { results := [.lit (.bool true)], args := [d1, d2, d3] }
  | _ => none }
def macrosMadeRow : OpenClaim := { program := "ytlbebcioabfbgaa", sum := "930f927c65d23e9b6a71e54c6dd7d613ee4a59596432c1e2dd7988ac663f71c5", func := "galley/galleylaw16.MacrosMade", spec := "macrosMade", unfollowed := true, recurses := true, apart := false }
def MacrosMadeSaid : Prop := macrosMadeRow.holds Try.pinned (OpenSpec.ofChange macrosMadeSpec)

/-- ITS FALSE NEIGHBOUR: 'it returns false'. Refute it at one input. -/
def macrosMadeWrong : ChangeSpec := { name := "macrosMade", fn := fun _ => fun
  | [d1, d2, d3] => { results := [.lit (.bool false)], args := [d1, d2, d3] }
  | _ => none }
def MacrosMadeWrongFalsely : Prop := macrosMadeRow.holds Try.pinned (OpenSpec.ofChange macrosMadeWrong)

/- THE SECOND FORM. 'bulk': how many values and letters a reading holds, each counted each time it is reached (what is shared counts as often as it is met; a slice's spare places count too). A statement '..UptoSaid' is the law's where the arguments, and the package variables that the reading takes, are together of bulk at most 1048576: NARROWER than '..Said'. Prove '..Said' where nothing that the law and all that it calls make is longer than what came in: it says more and counts as full. Else prove '..UptoSaid'. A law counts once. -/
mutual
def uptoBulk {H : Type} : DataW H → Nat
  | .lit (.string bytes) => bytes.length + 1
  | .lit _ => 1
  | .nil => 1
  | .ptr d => uptoBulk d + 1
  | .slice elems spare => uptoBulkAll elems + uptoBulkAll spare + 1
  | .agg parts => uptoBulkAll parts + 1
  | .iface _ d => uptoBulk d + 1
  | .map entries => uptoBulkEntries entries + 1
  | .held _ => 1
def uptoBulkAll {H : Type} : List (DataW H) → Nat
  | [] => 0
  | d :: r => uptoBulk d + uptoBulkAll r
def uptoBulkEntries {H : Type} : List (Lit × DataW H) → Nat
  | [] => 0
  | x :: r => uptoBulkEntry x + uptoBulkEntries r
def uptoBulkEntry {H : Type} : Lit × DataW H → Nat
  | (.string bytes, d) => bytes.length + uptoBulk d + 1
  | (_, d) => uptoBulk d + 1
 end
def uptoSmall : (H : Type) → List (DataW H) → Bool := fun _ ds => decide (uptoBulkAll ds ≤ 1048576)
def OpenSpec.upto (s : _root_.Go.ChangeSpec) : _root_.Go.OpenSpec := { _root_.Go.OpenSpec.ofChange s with cond := some uptoSmall }

/-- 'galleylaw16.MacrosDefines', WHERE WHAT IT READS IS OF BULK AT MOST 1048576: true; the input reads as it did. -/
def macrosDefinesUptoRow : OpenClaim := { program := "ytlbebcioabfbgaa", sum := "930f927c65d23e9b6a71e54c6dd7d613ee4a59596432c1e2dd7988ac663f71c5", func := "galley/galleylaw16.MacrosDefines", spec := "macrosDefines", unfollowed := true, recurses := true, apart := false, narrowed := true }
def MacrosDefinesUptoSaid : Prop := macrosDefinesUptoRow.holds Try.pinned (OpenSpec.upto macrosDefinesSpec)

/-- 'galleylaw16.MacrosMatches', WHERE WHAT IT READS IS OF BULK AT MOST 1048576: true; the input reads as it did. -/
def macrosMatchesUptoRow : OpenClaim := { program := "ytlbebcioabfbgaa", sum := "930f927c65d23e9b6a71e54c6dd7d613ee4a59596432c1e2dd7988ac663f71c5", func := "galley/galleylaw16.MacrosMatches", spec := "macrosMatches", unfollowed := true, recurses := true, apart := false, narrowed := true }
def MacrosMatchesUptoSaid : Prop := macrosMatchesUptoRow.holds Try.pinned (OpenSpec.upto macrosMatchesSpec)

/-- 'galleylaw16.MacrosApplies', WHERE WHAT IT READS IS OF BULK AT MOST 1048576: true; the input reads as it did. -/
def macrosAppliesUptoRow : OpenClaim := { program := "ytlbebcioabfbgaa", sum := "930f927c65d23e9b6a71e54c6dd7d613ee4a59596432c1e2dd7988ac663f71c5", func := "galley/galleylaw16.MacrosApplies", spec := "macrosApplies", unfollowed := true, recurses := true, apart := false, narrowed := true }
def MacrosAppliesUptoSaid : Prop := macrosAppliesUptoRow.holds Try.pinned (OpenSpec.upto macrosAppliesSpec)

/-- 'galleylaw16.MacrosBalanced', WHERE WHAT IT READS IS OF BULK AT MOST 1048576: true; the input reads as it did. -/
def macrosBalancedUptoRow : OpenClaim := { program := "ytlbebcioabfbgaa", sum := "930f927c65d23e9b6a71e54c6dd7d613ee4a59596432c1e2dd7988ac663f71c5", func := "galley/galleylaw16.MacrosBalanced", spec := "macrosBalanced", unfollowed := true, recurses := true, apart := false, narrowed := true }
def MacrosBalancedUptoSaid : Prop := macrosBalancedUptoRow.holds Try.pinned (OpenSpec.upto macrosBalancedSpec)

/-- 'galleylaw16.MacrosTogether', WHERE WHAT IT READS IS OF BULK AT MOST 1048576: true; the input reads as it did. -/
def macrosTogetherUptoRow : OpenClaim := { program := "ytlbebcioabfbgaa", sum := "930f927c65d23e9b6a71e54c6dd7d613ee4a59596432c1e2dd7988ac663f71c5", func := "galley/galleylaw16.MacrosTogether", spec := "macrosTogether", unfollowed := true, recurses := true, apart := false, narrowed := true }
def MacrosTogetherUptoSaid : Prop := macrosTogetherUptoRow.holds Try.pinned (OpenSpec.upto macrosTogetherSpec)

/-- 'galleylaw16.MacrosBehind', WHERE WHAT IT READS IS OF BULK AT MOST 1048576: true; the input reads as it did. -/
def macrosBehindUptoRow : OpenClaim := { program := "ytlbebcioabfbgaa", sum := "930f927c65d23e9b6a71e54c6dd7d613ee4a59596432c1e2dd7988ac663f71c5", func := "galley/galleylaw16.MacrosBehind", spec := "macrosBehind", unfollowed := true, recurses := true, apart := false, narrowed := true }
def MacrosBehindUptoSaid : Prop := macrosBehindUptoRow.holds Try.pinned (OpenSpec.upto macrosBehindSpec)

/-- 'galleylaw16.MacrosChecks', WHERE WHAT IT READS IS OF BULK AT MOST 1048576: true; the input reads as it did. -/
def macrosChecksUptoRow : OpenClaim := { program := "ytlbebcioabfbgaa", sum := "930f927c65d23e9b6a71e54c6dd7d613ee4a59596432c1e2dd7988ac663f71c5", func := "galley/galleylaw16.MacrosChecks", spec := "macrosChecks", unfollowed := true, recurses := true, apart := false, narrowed := true }
def MacrosChecksUptoSaid : Prop := macrosChecksUptoRow.holds Try.pinned (OpenSpec.upto macrosChecksSpec)

/-- 'galleylaw16.MacrosMade', WHERE WHAT IT READS IS OF BULK AT MOST 1048576: true; the input reads as it did. -/
def macrosMadeUptoRow : OpenClaim := { program := "ytlbebcioabfbgaa", sum := "930f927c65d23e9b6a71e54c6dd7d613ee4a59596432c1e2dd7988ac663f71c5", func := "galley/galleylaw16.MacrosMade", spec := "macrosMade", unfollowed := true, recurses := true, apart := false, narrowed := true }
def MacrosMadeUptoSaid : Prop := macrosMadeUptoRow.holds Try.pinned (OpenSpec.upto macrosMadeSpec)

end Rows
end Go.Proofs.Ytlbebcioabfbgaa
