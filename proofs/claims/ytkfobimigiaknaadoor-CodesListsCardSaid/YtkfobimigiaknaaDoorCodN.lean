/-
  The laws CodesLists, CodesBlanks, walked. Conditions: those that each theorem names.
-/
import Derived.Test.YtkfobimigiaknaaDoorCodM
namespace Go.Proofs.YtkfobimigiaknaaDoor
open Go.RowKit Go.Sp
variable {W w w' : World} {F F' : HProp}

theorem eq_fresh (w : World) : (binOp .eql 22 (codesV freshL) (codesV freshL)).run Tryd.prog w = .ok (.bool true) w := by kernel_rfl
theorem eq_plain (w : World) : (binOp .eql 22 (codesV plainL) (codesV plainL)).run Tryd.prog w = .ok (.bool true) w := by kernel_rfl

set_option maxRecDepth 100000 in
theorem lists_any (h : Sat W F w) : Calls Tryd.prog 3 #[] w fun e w' => e = .returned (.bool true) ∧ Sat W F w' := by
  have H1 := Lib.hid (fresh_any h)
  have H2 := Lib.hid (fun w' (h : Sat W F w') => freshR_any h)
  have H3 := Lib.hid (fun w' (h : Sat W F w') => plain_any h)
  have H4 := Lib.hid (fun w' (h : Sat W F w') => plainR_any h)
  have H5 := Lib.hid (fun w' (h : Sat W F w') => live_any h)
  clear h
  have e1 := eq_fresh
  have e2 := eq_plain
  generalize freshL = fr at *
  generalize plainL = fl at *
  go_enter Tryd.func3, Tryd.ntmps3
  go_wp2_with fail
  refine Calls.mono H1.out ?_
  rintro e w1 ⟨rfl, h1⟩
  go_wp2_with fail
  refine Calls.mono (H2.out _ h1) ?_
  rintro e w2 ⟨rfl, h2⟩
  clear h1
  go_wp2_with fail
  refine Calls.mono (H3.out _ h2) ?_
  rintro e w3 ⟨rfl, h3⟩
  clear h2
  go_wp2_with fail
  refine Calls.mono (H4.out _ h3) ?_
  rintro e w4 ⟨rfl, h4⟩
  clear h3
  go_wp2_with fail
  refine Calls.mono (H5.out _ h4) ?_
  rintro e w5 ⟨rfl, h5⟩
  clear h4
  go_wp2
  go_ret
  exact ⟨rfl, h5⟩

end Go.Proofs.YtkfobimigiaknaaDoor
