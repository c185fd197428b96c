/-
  NARROWER THAN 'FOR EVERY INPUT', by the rows' own cells (each row's printed sentence says how): CodesLists: laid · CodesBlanks: laid · CodesLines: laid · CodesLetters: laid · CodesEnds: laid · CodesReads: laid · CodesNil: laid.
  DERIVED. THE GIVEN ROWS OF THIS SEAT. 7 by the template 'for every input the law returns true; each argument reads behind the call as it read before'; 0 by the template 'total and deterministic' (their statements: YtkfobimigiaknaaDoorTotals.lean).
  GIVEN WITH THE SEED: the statements are not yours to turn. If you find one false, say at which input.
  Laid BY PROGRAM, IN A SANDBOX (cutbox-rows.mjs): the forced cells as the released guide's own fill.sh prints them over the translation 821dd2e525e600de… (all of the seat's roots in one cut). By AI agents, Wed Nov 11 2026. No macro, syntax, notation, axiom, sorry.
-/
import Derived.Test.YtkfobimigiaknaaDoorChecked
import GoSem.PinnedTables
import GoSem.Claim
import GoSem.ClaimJoined
import GoSem.ClaimMapViews
import Derived.JoinedTies
import Derived.KernelRfl
namespace Go.Proofs.YtkfobimigiaknaaDoor
/- THE CELL 'sum', in the pinned program and in every row, IS THE sha256 OF THE DUMP (.gsa) THAT YtkfobimigiaknaaDoorProg.lean LOADS. Nothing in Lean hashes anything: it is a label: what it is worth is what the hold of that sum in a sandbox is worth. -/
noncomputable def Tryd.pinned : Pinned := { name := "ytkfobimigiaknaadoor", sum := "821dd2e525e600de840cda331a924c2c52b7d24de468713f07c402821f29b4b8", checked := Tryd.checked }
namespace Rows
def none {H : Type} : Left H := { results := [], args := [] }

/- WHAT THE LISTED PACKAGE-LEVEL VARIABLES READ AS WHEN THE CALL BEGINS. Each datum BY PROGRAM (the guide's laid-datum.mjs) off the statement by which the dump's own 'gosem.cut.vars' lays the variable. In a bare row this is a premise. The card (YtkfobimigiaknaaDoorCards.lean) ties it to the program's text. -/
def laid_unicode_utf8_acceptRanges {H : Type} : DataW H := .agg [.agg [.lit (.int .u8 128), .lit (.int .u8 191)], .agg [.lit (.int .u8 160), .lit (.int .u8 191)], .agg [.lit (.int .u8 128), .lit (.int .u8 159)], .agg [.lit (.int .u8 144), .lit (.int .u8 191)], .agg [.lit (.int .u8 128), .lit (.int .u8 143)], .agg [.lit (.int .u8 0), .lit (.int .u8 0)], .agg [.lit (.int .u8 0), .lit (.int .u8 0)], .agg [.lit (.int .u8 0), .lit (.int .u8 0)], .agg [.lit (.int .u8 0), .lit (.int .u8 0)], .agg [.lit (.int .u8 0), .lit (.int .u8 0)], .agg [.lit (.int .u8 0), .lit (.int .u8 0)], .agg [.lit (.int .u8 0), .lit (.int .u8 0)], .agg [.lit (.int .u8 0), .lit (.int .u8 0)], .agg [.lit (.int .u8 0), .lit (.int .u8 0)], .agg [.lit (.int .u8 0), .lit (.int .u8 0)], .agg [.lit (.int .u8 0), .lit (.int .u8 0)]]
/-- One of Go's own tables, pinned by name: the form's constant. -/
def laid_unicode_utf8_first : DataW Unit := Go.Pinned.utf8First

/-- 'galleylaw14.CodesLists': WHATEVER THE INPUT: true; the input reads as it did. -/
def codesListsSpec : ChangeSpec := { name := "codesLists", fn := fun _ => fun
  | [] => { results := [.lit (.bool true)], args := [] }
  | _ => none }
def codesListsRow : OpenClaim := { program := "ytkfobimigiaknaadoor", sum := "821dd2e525e600de840cda331a924c2c52b7d24de468713f07c402821f29b4b8", func := "galley/galleylaw14.CodesLists", spec := "codesLists", inPlace := ["internal/bytealg.IndexByteString", "internal/bytealg.IndexString"], named := ["internal/bytealg.MaxLen", "unicode/utf8.first", "unicode/utf8.acceptRanges"], apart := false, laid := [("unicode/utf8.acceptRanges", laid_unicode_utf8_acceptRanges), ("unicode/utf8.first", laid_unicode_utf8_first)] }
def CodesListsSaid : Prop := codesListsRow.holds Tryd.pinned (OpenSpec.ofChange codesListsSpec)

/-- ITS FALSE NEIGHBOUR: 'it returns false'. Refute it at one input. -/
def codesListsWrong : ChangeSpec := { name := "codesLists", fn := fun _ => fun
  | [] => { results := [.lit (.bool false)], args := [] }
  | _ => none }
def CodesListsWrongFalsely : Prop := codesListsRow.holds Tryd.pinned (OpenSpec.ofChange codesListsWrong)

/-- 'galleylaw14.CodesBlanks': WHATEVER THE INPUT: true; the input reads as it did. -/
def codesBlanksSpec : ChangeSpec := { name := "codesBlanks", fn := fun _ => fun
  | [d1, d2, d3] => { results := [.lit (.bool true)], args := [d1, d2, d3] }
  | _ => none }
def codesBlanksRow : OpenClaim := { program := "ytkfobimigiaknaadoor", sum := "821dd2e525e600de840cda331a924c2c52b7d24de468713f07c402821f29b4b8", func := "galley/galleylaw14.CodesBlanks", spec := "codesBlanks", inPlace := ["internal/bytealg.IndexByteString", "internal/bytealg.IndexString"], named := ["internal/bytealg.MaxLen", "unicode/utf8.first", "unicode/utf8.acceptRanges"], apart := false, laid := [("unicode/utf8.acceptRanges", laid_unicode_utf8_acceptRanges), ("unicode/utf8.first", laid_unicode_utf8_first)] }
def CodesBlanksSaid : Prop := codesBlanksRow.holds Tryd.pinned (OpenSpec.ofChange codesBlanksSpec)

/-- ITS FALSE NEIGHBOUR: 'it returns false'. Refute it at one input. -/
def codesBlanksWrong : ChangeSpec := { name := "codesBlanks", fn := fun _ => fun
  | [d1, d2, d3] => { results := [.lit (.bool false)], args := [d1, d2, d3] }
  | _ => none }
def CodesBlanksWrongFalsely : Prop := codesBlanksRow.holds Tryd.pinned (OpenSpec.ofChange codesBlanksWrong)

/-- 'galleylaw14.CodesLines': WHATEVER THE INPUT: true; the input reads as it did. -/
def codesLinesSpec : ChangeSpec := { name := "codesLines", fn := fun _ => fun
  | [d1, d2, d3, d4] => { results := [.lit (.bool true)], args := [d1, d2, d3, d4] }
  | _ => none }
def codesLinesRow : OpenClaim := { program := "ytkfobimigiaknaadoor", sum := "821dd2e525e600de840cda331a924c2c52b7d24de468713f07c402821f29b4b8", func := "galley/galleylaw14.CodesLines", spec := "codesLines", inPlace := ["internal/bytealg.IndexByteString", "internal/bytealg.IndexString"], named := ["internal/bytealg.MaxLen", "unicode/utf8.first", "unicode/utf8.acceptRanges"], apart := false, laid := [("unicode/utf8.acceptRanges", laid_unicode_utf8_acceptRanges), ("unicode/utf8.first", laid_unicode_utf8_first)] }
def CodesLinesSaid : Prop := codesLinesRow.holds Tryd.pinned (OpenSpec.ofChange codesLinesSpec)

/-- ITS FALSE NEIGHBOUR: 'it returns false'. Refute it at one input. -/
def codesLinesWrong : ChangeSpec := { name := "codesLines", fn := fun _ => fun
  | [d1, d2, d3, d4] => { results := [.lit (.bool false)], args := [d1, d2, d3, d4] }
  | _ => none }
def CodesLinesWrongFalsely : Prop := codesLinesRow.holds Tryd.pinned (OpenSpec.ofChange codesLinesWrong)

/-- 'galleylaw14.CodesLetters': WHATEVER THE INPUT: true; the input reads as it did. -/
def codesLettersSpec : ChangeSpec := { name := "codesLetters", fn := fun _ => fun
  | [d1, d2] => { results := [.lit (.bool true)], args := [d1, d2] }
  | _ => none }
def codesLettersRow : OpenClaim := { program := "ytkfobimigiaknaadoor", sum := "821dd2e525e600de840cda331a924c2c52b7d24de468713f07c402821f29b4b8", func := "galley/galleylaw14.CodesLetters", spec := "codesLetters", inPlace := ["internal/bytealg.IndexByteString", "internal/bytealg.IndexString"], named := ["internal/bytealg.MaxLen", "unicode/utf8.first", "unicode/utf8.acceptRanges"], apart := false, laid := [("unicode/utf8.acceptRanges", laid_unicode_utf8_acceptRanges), ("unicode/utf8.first", laid_unicode_utf8_first)] }
def CodesLettersSaid : Prop := codesLettersRow.holds Tryd.pinned (OpenSpec.ofChange codesLettersSpec)

/-- ITS FALSE NEIGHBOUR: 'it returns false'. Refute it at one input. -/
def codesLettersWrong : ChangeSpec := { name := "codesLetters", fn := fun _ => fun
  | [d1, d2] => { results := [.lit (.bool false)], args := [d1, d2] }
  | _ => none }
def CodesLettersWrongFalsely : Prop := codesLettersRow.holds Tryd.pinned (OpenSpec.ofChange codesLettersWrong)

/-- 'galleylaw14.CodesEnds': WHATEVER THE INPUT: true; the input reads as it did. -/
def codesEndsSpec : ChangeSpec := { name := "codesEnds", fn := fun _ => fun
  | [d1, d2, d3] => { results := [.lit (.bool true)], args := [d1, d2, d3] }
  | _ => none }
def codesEndsRow : OpenClaim := { program := "ytkfobimigiaknaadoor", sum := "821dd2e525e600de840cda331a924c2c52b7d24de468713f07c402821f29b4b8", func := "galley/galleylaw14.CodesEnds", spec := "codesEnds", inPlace := ["internal/bytealg.IndexByteString", "internal/bytealg.IndexString"], named := ["internal/bytealg.MaxLen", "unicode/utf8.first", "unicode/utf8.acceptRanges"], apart := false, laid := [("unicode/utf8.acceptRanges", laid_unicode_utf8_acceptRanges), ("unicode/utf8.first", laid_unicode_utf8_first)] }
def CodesEndsSaid : Prop := codesEndsRow.holds Tryd.pinned (OpenSpec.ofChange codesEndsSpec)

/-- ITS FALSE NEIGHBOUR: 'it returns false'. Refute it at one input. -/
def codesEndsWrong : ChangeSpec := { name := "codesEnds", fn := fun _ => fun
  | [d1, d2, d3] => { results := [.lit (.bool false)], args := [d1, d2, d3] }
  | _ => none }
def CodesEndsWrongFalsely : Prop := codesEndsRow.holds Tryd.pinned (OpenSpec.ofChange codesEndsWrong)

/-- 'galleylaw14.CodesReads': WHATEVER THE INPUT: true; the input reads as it did. -/
def codesReadsSpec : ChangeSpec := { name := "codesReads", fn := fun _ => fun
  | [d1, d2, d3, d4] => { results := [.lit (.bool true)], args := [d1, d2, d3, d4] }
  | _ => none }
def codesReadsRow : OpenClaim := { program := "ytkfobimigiaknaadoor", sum := "821dd2e525e600de840cda331a924c2c52b7d24de468713f07c402821f29b4b8", func := "galley/galleylaw14.CodesReads", spec := "codesReads", inPlace := ["internal/bytealg.IndexByteString", "internal/bytealg.IndexString"], named := ["internal/bytealg.MaxLen", "unicode/utf8.first", "unicode/utf8.acceptRanges"], apart := false, laid := [("unicode/utf8.acceptRanges", laid_unicode_utf8_acceptRanges), ("unicode/utf8.first", laid_unicode_utf8_first)] }
def CodesReadsSaid : Prop := codesReadsRow.holds Tryd.pinned (OpenSpec.ofChange codesReadsSpec)

/-- ITS FALSE NEIGHBOUR: 'it returns false'. Refute it at one input. -/
def codesReadsWrong : ChangeSpec := { name := "codesReads", fn := fun _ => fun
  | [d1, d2, d3, d4] => { results := [.lit (.bool false)], args := [d1, d2, d3, d4] }
  | _ => none }
def CodesReadsWrongFalsely : Prop := codesReadsRow.holds Tryd.pinned (OpenSpec.ofChange codesReadsWrong)

/-- 'galleylaw14.CodesNil': WHATEVER THE INPUT: true; the input reads as it did. -/
def codesNilSpec : ChangeSpec := { name := "codesNil", fn := fun _ => fun
  | [d1, d2] => { results := [.lit (.bool true)], args := [d1, d2] }
  | _ => none }
def codesNilRow : OpenClaim := { program := "ytkfobimigiaknaadoor", sum := "821dd2e525e600de840cda331a924c2c52b7d24de468713f07c402821f29b4b8", func := "galley/galleylaw14.CodesNil", spec := "codesNil", inPlace := ["internal/bytealg.IndexByteString", "internal/bytealg.IndexString"], named := ["internal/bytealg.MaxLen", "unicode/utf8.first", "unicode/utf8.acceptRanges"], apart := false, laid := [("unicode/utf8.acceptRanges", laid_unicode_utf8_acceptRanges), ("unicode/utf8.first", laid_unicode_utf8_first)] }
def CodesNilSaid : Prop := codesNilRow.holds Tryd.pinned (OpenSpec.ofChange codesNilSpec)

/-- ITS FALSE NEIGHBOUR: 'it returns false'. Refute it at one input. -/
def codesNilWrong : ChangeSpec := { name := "codesNil", fn := fun _ => fun
  | [d1, d2] => { results := [.lit (.bool false)], args := [d1, d2] }
  | _ => none }
def CodesNilWrongFalsely : Prop := codesNilRow.holds Tryd.pinned (OpenSpec.ofChange codesNilWrong)

/- THE SECOND FORM. 'bulk': how many values and letters a reading holds, each counted each time it is reached (what is shared counts as often as it is met; a slice's spare places count too). A statement '..UptoSaid' is the law's where the arguments, and the package variables that the reading takes, are together of bulk at most 1048576: NARROWER than '..Said'. Prove '..Said' where nothing that the law and all that it calls make is longer than what came in: it says more and counts as full. Else prove '..UptoSaid'. A law counts once. -/
mutual
def uptoBulk {H : Type} : DataW H → Nat
  | .lit (.string bytes) => bytes.length + 1
  | .lit _ => 1
  | .nil => 1
  | .ptr d => uptoBulk d + 1
  | .slice elems spare => uptoBulkAll elems + uptoBulkAll spare + 1
  | .agg parts => uptoBulkAll parts + 1
  | .iface _ d => uptoBulk d + 1
  | .map entries => uptoBulkEntries entries + 1
  | .held _ => 1
def uptoBulkAll {H : Type} : List (DataW H) → Nat
  | [] => 0
  | d :: r => uptoBulk d + uptoBulkAll r
def uptoBulkEntries {H : Type} : List (Lit × DataW H) → Nat
  | [] => 0
  | x :: r => uptoBulkEntry x + uptoBulkEntries r
def uptoBulkEntry {H : Type} : Lit × DataW H → Nat
  | (.string bytes, d) => bytes.length + uptoBulk d + 1
  | (_, d) => uptoBulk d + 1
 end
def uptoSmall : (H : Type) → List (DataW H) → Bool := fun _ ds => decide (uptoBulkAll ds ≤ 1048576)
def OpenSpec.upto (s : _root_.Go.ChangeSpec) : _root_.Go.OpenSpec := { _root_.Go.OpenSpec.ofChange s with cond := some uptoSmall }

/-- 'galleylaw14.CodesLists', WHERE WHAT IT READS IS OF BULK AT MOST 1048576: true; the input reads as it did. -/
def codesListsUptoRow : OpenClaim := { program := "ytkfobimigiaknaadoor", sum := "821dd2e525e600de840cda331a924c2c52b7d24de468713f07c402821f29b4b8", func := "galley/galleylaw14.CodesLists", spec := "codesLists", inPlace := ["internal/bytealg.IndexByteString", "internal/bytealg.IndexString"], named := ["internal/bytealg.MaxLen", "unicode/utf8.first", "unicode/utf8.acceptRanges"], apart := false, laid := [("unicode/utf8.acceptRanges", laid_unicode_utf8_acceptRanges), ("unicode/utf8.first", laid_unicode_utf8_first)], narrowed := true }
def CodesListsUptoSaid : Prop := codesListsUptoRow.holds Tryd.pinned (OpenSpec.upto codesListsSpec)

/-- 'galleylaw14.CodesBlanks', WHERE WHAT IT READS IS OF BULK AT MOST 1048576: true; the input reads as it did. -/
def codesBlanksUptoRow : OpenClaim := { program := "ytkfobimigiaknaadoor", sum := "821dd2e525e600de840cda331a924c2c52b7d24de468713f07c402821f29b4b8", func := "galley/galleylaw14.CodesBlanks", spec := "codesBlanks", inPlace := ["internal/bytealg.IndexByteString", "internal/bytealg.IndexString"], named := ["internal/bytealg.MaxLen", "unicode/utf8.first", "unicode/utf8.acceptRanges"], apart := false, laid := [("unicode/utf8.acceptRanges", laid_unicode_utf8_acceptRanges), ("unicode/utf8.first", laid_unicode_utf8_first)], narrowed := true }
def CodesBlanksUptoSaid : Prop := codesBlanksUptoRow.holds Tryd.pinned (OpenSpec.upto codesBlanksSpec)

/-- 'galleylaw14.CodesLines', WHERE WHAT IT READS IS OF BULK AT MOST 1048576: true; the input reads as it did. -/
def codesLinesUptoRow : OpenClaim := { program := "ytkfobimigiaknaadoor", sum := "821dd2e525e600de840cda331a924c2c52b7d24de468713f07c402821f29b4b8", func := "galley/galleylaw14.CodesLines", spec := "codesLines", inPlace := ["internal/bytealg.IndexByteString", "internal/bytealg.IndexString"], named := ["internal/bytealg.MaxLen", "unicode/utf8.first", "unicode/utf8.acceptRanges"], apart := false, laid := [("unicode/utf8.acceptRanges", laid_unicode_utf8_acceptRanges), ("unicode/utf8.first", laid_unicode_utf8_first)], narrowed := true }
def CodesLinesUptoSaid : Prop := codesLinesUptoRow.holds Tryd.pinned (OpenSpec.upto codesLinesSpec)

/-- 'galleylaw14.CodesLetters', WHERE WHAT IT READS IS OF BULK AT MOST 1048576: true; the input reads as it did. -/
def codesLettersUptoRow : OpenClaim := { program := "ytkfobimigiaknaadoor", sum := "821dd2e525e600de840cda331a924c2c52b7d24de468713f07c402821f29b4b8", func := "galley/galleylaw14.CodesLetters", spec := "codesLetters", inPlace := ["internal/bytealg.IndexByteString", "internal/bytealg.IndexString"], named := ["internal/bytealg.MaxLen", "unicode/utf8.first", "unicode/utf8.acceptRanges"], apart := false, laid := [("unicode/utf8.acceptRanges", laid_unicode_utf8_acceptRanges), ("unicode/utf8.first", laid_unicode_utf8_first)], narrowed := true }
def CodesLettersUptoSaid : Prop := codesLettersUptoRow.holds Tryd.pinned (OpenSpec.upto codesLettersSpec)

/-- 'galleylaw14.CodesEnds', WHERE WHAT IT READS IS OF BULK AT MOST 1048576: true; the input reads as it did. -/
def codesEndsUptoRow : OpenClaim := { program := "ytkfobimigiaknaadoor", sum := "821dd2e525e600de840cda331a924c2c52b7d24de468713f07c402821f29b4b8", func := "galley/galleylaw14.CodesEnds", spec := "codesEnds", inPlace := ["internal/bytealg.IndexByteString", "internal/bytealg.IndexString"], named := ["internal/bytealg.MaxLen", "unicode/utf8.first", "unicode/utf8.acceptRanges"], apart := false, laid := [("unicode/utf8.acceptRanges", laid_unicode_utf8_acceptRanges), ("unicode/utf8.first", laid_unicode_utf8_first)], narrowed := true }
def CodesEndsUptoSaid : Prop := codesEndsUptoRow.holds Tryd.pinned (OpenSpec.upto codesEndsSpec)

/-- 'galleylaw14.CodesReads', WHERE WHAT IT READS IS OF BULK AT MOST 1048576: true; the input reads as it did. -/
def codesReadsUptoRow : OpenClaim := { program := "ytkfobimigiaknaadoor", sum := "821dd2e525e600de840cda331a924c2c52b7d24de468713f07c402821f29b4b8", func := "galley/galleylaw14.CodesReads", spec := "codesReads", inPlace := ["internal/bytealg.IndexByteString", "internal/bytealg.IndexString"], named := ["internal/bytealg.MaxLen", "unicode/utf8.first", "unicode/utf8.acceptRanges"], apart := false, laid := [("unicode/utf8.acceptRanges", laid_unicode_utf8_acceptRanges), ("unicode/utf8.first", laid_unicode_utf8_first)], narrowed := true }
def CodesReadsUptoSaid : Prop := codesReadsUptoRow.holds Tryd.pinned (OpenSpec.upto codesReadsSpec)

/-- 'galleylaw14.CodesNil', WHERE WHAT IT READS IS OF BULK AT MOST 1048576: true; the input reads as it did. -/
def codesNilUptoRow : OpenClaim := { program := "ytkfobimigiaknaadoor", sum := "821dd2e525e600de840cda331a924c2c52b7d24de468713f07c402821f29b4b8", func := "galley/galleylaw14.CodesNil", spec := "codesNil", inPlace := ["internal/bytealg.IndexByteString", "internal/bytealg.IndexString"], named := ["internal/bytealg.MaxLen", "unicode/utf8.first", "unicode/utf8.acceptRanges"], apart := false, laid := [("unicode/utf8.acceptRanges", laid_unicode_utf8_acceptRanges), ("unicode/utf8.first", laid_unicode_utf8_first)], narrowed := true }
def CodesNilUptoSaid : Prop := codesNilUptoRow.holds Tryd.pinned (OpenSpec.upto codesNilSpec)

end Rows
end Go.Proofs.YtkfobimigiaknaaDoor
