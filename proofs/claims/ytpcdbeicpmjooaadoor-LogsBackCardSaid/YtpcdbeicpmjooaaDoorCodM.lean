
/-
  The law's small functions. Conditions: those that each theorem names.
-/
import Derived.Test.YtpcdbeicpmjooaaDoorCodL
import Derived.Test.YtpcdbeicpmjooaaDoorTail
namespace Go.Proofs.YtpcdbeicpmjooaaDoor
open Go.RowKit Go.Sp
variable {W w w' : World} {F F' : HProp}

def liveT : List Tok := [⟨16, 0, ⟨#[102, 111, 111]⟩⟩, ⟨11, 98, ⟨#[]⟩⟩, ⟨11, 65, ⟨#[]⟩⟩, ⟨10, 32, ⟨#[]⟩⟩]

set_option maxRecDepth 100000 in
theorem live_all : allM plainL 13 [92, 102, 111, 111, 32, 32, 98, 94, 94, 52, 49, 10] = (liveT, 0) := by decide +kernel

end Go.Proofs.YtpcdbeicpmjooaaDoor
