
/-
  The least file, read. Conditions: none.
-/
import Derived.Test.YtjeinldhbajknaaDvT
import Derived.Test.YtjeinldhbajknaaDvV
import Derived.KernelRfl
namespace Go.Proofs.Ytjeinldhbajknaa
open Go.RowKit Go.Sp Go.Conc

theorem least_some : (wholeM [] leastL).map (fun F => (F.ops.length, F.post.args.getD 3 0)) = some (3, 1000) := by kernel_rfl
theorem least_short : (wholeM [] (leastL.take 55)).isSome = false := by kernel_rfl

end Go.Proofs.Ytjeinldhbajknaa
