/-
  Package galleylaw18: num and live. Conditions: none.
-/
import Derived.Test.YtopngcedgdmllaaCondC
import Derived.Test.YtopngcedgdmllaaInts
namespace Go.Proofs.Ytopngcedgdmllaa
open Go.RowKit Go.Sp
variable {W w : World} {F : HProp}

theorem num_any (n : Int) (w : World) : Calls Try.prog 9 #[.int .i64 n] w fun e w' => e = .returned (.int .i64 n) ∧ w = w' := by
  go_enter Try.func9, Try.ntmps9
  go_wp2
  go_ret
  exact ⟨rfl, rfl⟩

theorem live_any (h : Sat W F w) : Calls Try.prog 10 #[] w fun e w' => e = .returned (.bool true) ∧ Sat W F w' := by
  go_enter Try.func10, Try.ntmps10
  have h0 := ((h.alloc (.cells #[.int .i64 1, .int .i64 3, .int .i64 3, .int .i64 2, .int .i64 4] 3)).alloc (.cells #[.int .i64 3] 3)).rot
  simp only [World.size_alloc] at h0
  go_wp2_with (first | (go_at_call 6; refine (all_live _ _ h0).mono ?_; rintro e w' ⟨v, rfl, h1⟩) | (go_at_call 9; refine (num_any _ _).mono ?_; rintro e w' ⟨rfl, rfl⟩) |
    (go_at_call 8; refine (ints_any [1, 4] [1, 4] _ _ _ h1.allocD.rd (Sat.row_whole 2 (h1.alloc (.cells #[.int .i64 1, .int .i64 4] 3)) (by decide) rfl).rd).mono ?_; rintro e w' ⟨rfl, q, rfl⟩))
  go_ret
  exact ⟨rfl, h1.r.allocD.drewN⟩

end Go.Proofs.Ytopngcedgdmllaa
