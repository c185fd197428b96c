/-
  DERIVED. GIVEN WITH THE SEED: THE CARDS: each row of YtkfobimigiaknaaDoorRows.lean that lists a variable, with what it lists TIED to the program's text (the seventh form; the later family's looks); each row that meets fmt, with fmt's text TOLD by the authors' own Lean function (tested against real Go, not proved from fmt's source: count such statements apart). THE CARD IS WHAT COUNTS. Prove the row's statement (the work); the ties are given (YtkfobimigiaknaaDoorTie.lean); close each card by the builder's one call (the guide's Derived/Test/ToyasCard.lean, 'card_holds'). Laid BY PROGRAM, IN A SANDBOX (cutbox-door.mjs). By AI agents, Wed Nov 11 2026. No macro, syntax, notation, axiom, sorry.
-/
import Derived.Test.YtkfobimigiaknaaDoorRows
import GoSem.ClaimSeven
namespace Go.Proofs.YtkfobimigiaknaaDoor
namespace Rows

/-- THE TIED CARD OF 'galleylaw14.CodesLists'. -/
def codesListsCard : Claim7 := { stood := { row := codesListsRow, standIns := [], harness := (true, "02f6389ac9c5a040d6ece4e204219c0511b132e7a8232065390dbec37e1e3e12"), looks := false }, kinds := [], alts := [], laidByText := true, laidKinds := [.data, .pinned], laidTests := true, laidLooks := .later }
def CodesListsCardSaid : Prop := Claim7.holds Tryd.pinned (.plain (OpenSpec.ofChange codesListsSpec)) codesListsCard

/-- THE TIED CARD OF 'galleylaw14.CodesBlanks'. -/
def codesBlanksCard : Claim7 := { stood := { row := codesBlanksRow, standIns := [], harness := (true, "02f6389ac9c5a040d6ece4e204219c0511b132e7a8232065390dbec37e1e3e12"), looks := false }, kinds := [], alts := [], laidByText := true, laidKinds := [.data, .pinned], laidTests := true, laidLooks := .later }
def CodesBlanksCardSaid : Prop := Claim7.holds Tryd.pinned (.plain (OpenSpec.ofChange codesBlanksSpec)) codesBlanksCard

/-- THE TIED CARD OF 'galleylaw14.CodesLines'. -/
def codesLinesCard : Claim7 := { stood := { row := codesLinesRow, standIns := [], harness := (true, "02f6389ac9c5a040d6ece4e204219c0511b132e7a8232065390dbec37e1e3e12"), looks := false }, kinds := [], alts := [], laidByText := true, laidKinds := [.data, .pinned], laidTests := true, laidLooks := .later }
def CodesLinesCardSaid : Prop := Claim7.holds Tryd.pinned (.plain (OpenSpec.ofChange codesLinesSpec)) codesLinesCard

/-- THE TIED CARD OF 'galleylaw14.CodesLetters'. -/
def codesLettersCard : Claim7 := { stood := { row := codesLettersRow, standIns := [], harness := (true, "02f6389ac9c5a040d6ece4e204219c0511b132e7a8232065390dbec37e1e3e12"), looks := false }, kinds := [], alts := [], laidByText := true, laidKinds := [.data, .pinned], laidTests := true, laidLooks := .later }
def CodesLettersCardSaid : Prop := Claim7.holds Tryd.pinned (.plain (OpenSpec.ofChange codesLettersSpec)) codesLettersCard

/-- THE TIED CARD OF 'galleylaw14.CodesEnds'. -/
def codesEndsCard : Claim7 := { stood := { row := codesEndsRow, standIns := [], harness := (true, "02f6389ac9c5a040d6ece4e204219c0511b132e7a8232065390dbec37e1e3e12"), looks := false }, kinds := [], alts := [], laidByText := true, laidKinds := [.data, .pinned], laidTests := true, laidLooks := .later }
def CodesEndsCardSaid : Prop := Claim7.holds Tryd.pinned (.plain (OpenSpec.ofChange codesEndsSpec)) codesEndsCard

/-- THE TIED CARD OF 'galleylaw14.CodesReads'. -/
def codesReadsCard : Claim7 := { stood := { row := codesReadsRow, standIns := [], harness := (true, "02f6389ac9c5a040d6ece4e204219c0511b132e7a8232065390dbec37e1e3e12"), looks := false }, kinds := [], alts := [], laidByText := true, laidKinds := [.data, .pinned], laidTests := true, laidLooks := .later }
def CodesReadsCardSaid : Prop := Claim7.holds Tryd.pinned (.plain (OpenSpec.ofChange codesReadsSpec)) codesReadsCard

/-- THE TIED CARD OF 'galleylaw14.CodesNil'. -/
def codesNilCard : Claim7 := { stood := { row := codesNilRow, standIns := [], harness := (true, "02f6389ac9c5a040d6ece4e204219c0511b132e7a8232065390dbec37e1e3e12"), looks := false }, kinds := [], alts := [], laidByText := true, laidKinds := [.data, .pinned], laidTests := true, laidLooks := .later }
def CodesNilCardSaid : Prop := Claim7.holds Tryd.pinned (.plain (OpenSpec.ofChange codesNilSpec)) codesNilCard

/-- THE SECOND FORM's CARD OF 'galleylaw14.CodesLists'. -/
def codesListsUptoCard : Claim7 := { stood := { row := codesListsUptoRow, standIns := [], harness := (true, "02f6389ac9c5a040d6ece4e204219c0511b132e7a8232065390dbec37e1e3e12"), looks := false }, kinds := [], alts := [], laidByText := true, laidKinds := [.data, .pinned], laidTests := true, laidLooks := .later }
def CodesListsUptoCardSaid : Prop := Claim7.holds Tryd.pinned (.plain (OpenSpec.upto codesListsSpec)) codesListsUptoCard

/-- THE SECOND FORM's CARD OF 'galleylaw14.CodesBlanks'. -/
def codesBlanksUptoCard : Claim7 := { stood := { row := codesBlanksUptoRow, standIns := [], harness := (true, "02f6389ac9c5a040d6ece4e204219c0511b132e7a8232065390dbec37e1e3e12"), looks := false }, kinds := [], alts := [], laidByText := true, laidKinds := [.data, .pinned], laidTests := true, laidLooks := .later }
def CodesBlanksUptoCardSaid : Prop := Claim7.holds Tryd.pinned (.plain (OpenSpec.upto codesBlanksSpec)) codesBlanksUptoCard

/-- THE SECOND FORM's CARD OF 'galleylaw14.CodesLines'. -/
def codesLinesUptoCard : Claim7 := { stood := { row := codesLinesUptoRow, standIns := [], harness := (true, "02f6389ac9c5a040d6ece4e204219c0511b132e7a8232065390dbec37e1e3e12"), looks := false }, kinds := [], alts := [], laidByText := true, laidKinds := [.data, .pinned], laidTests := true, laidLooks := .later }
def CodesLinesUptoCardSaid : Prop := Claim7.holds Tryd.pinned (.plain (OpenSpec.upto codesLinesSpec)) codesLinesUptoCard

/-- THE SECOND FORM's CARD OF 'galleylaw14.CodesLetters'. -/
def codesLettersUptoCard : Claim7 := { stood := { row := codesLettersUptoRow, standIns := [], harness := (true, "02f6389ac9c5a040d6ece4e204219c0511b132e7a8232065390dbec37e1e3e12"), looks := false }, kinds := [], alts := [], laidByText := true, laidKinds := [.data, .pinned], laidTests := true, laidLooks := .later }
def CodesLettersUptoCardSaid : Prop := Claim7.holds Tryd.pinned (.plain (OpenSpec.upto codesLettersSpec)) codesLettersUptoCard

/-- THE SECOND FORM's CARD OF 'galleylaw14.CodesEnds'. -/
def codesEndsUptoCard : Claim7 := { stood := { row := codesEndsUptoRow, standIns := [], harness := (true, "02f6389ac9c5a040d6ece4e204219c0511b132e7a8232065390dbec37e1e3e12"), looks := false }, kinds := [], alts := [], laidByText := true, laidKinds := [.data, .pinned], laidTests := true, laidLooks := .later }
def CodesEndsUptoCardSaid : Prop := Claim7.holds Tryd.pinned (.plain (OpenSpec.upto codesEndsSpec)) codesEndsUptoCard

/-- THE SECOND FORM's CARD OF 'galleylaw14.CodesReads'. -/
def codesReadsUptoCard : Claim7 := { stood := { row := codesReadsUptoRow, standIns := [], harness := (true, "02f6389ac9c5a040d6ece4e204219c0511b132e7a8232065390dbec37e1e3e12"), looks := false }, kinds := [], alts := [], laidByText := true, laidKinds := [.data, .pinned], laidTests := true, laidLooks := .later }
def CodesReadsUptoCardSaid : Prop := Claim7.holds Tryd.pinned (.plain (OpenSpec.upto codesReadsSpec)) codesReadsUptoCard

/-- THE SECOND FORM's CARD OF 'galleylaw14.CodesNil'. -/
def codesNilUptoCard : Claim7 := { stood := { row := codesNilUptoRow, standIns := [], harness := (true, "02f6389ac9c5a040d6ece4e204219c0511b132e7a8232065390dbec37e1e3e12"), looks := false }, kinds := [], alts := [], laidByText := true, laidKinds := [.data, .pinned], laidTests := true, laidLooks := .later }
def CodesNilUptoCardSaid : Prop := Claim7.holds Tryd.pinned (.plain (OpenSpec.upto codesNilSpec)) codesNilUptoCard
end Rows
end Go.Proofs.YtkfobimigiaknaaDoor
