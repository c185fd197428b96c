
/-
  The reference's lists of codes. Conditions: those that each theorem names.
-/
import Derived.Test.YtpcdbeicpmjooaaDoorCodK
namespace Go.Proofs.YtpcdbeicpmjooaaDoor
open Go.RowKit Go.Sp
variable {W w w' : World} {F F' : HProp}

theorem freshR_eq : ((((((baseL.set 0 9).set 13 5).set 32 10).set 37 14).set 92 0).set 127 15) = freshL := by decide +kernel

end Go.Proofs.YtpcdbeicpmjooaaDoor
