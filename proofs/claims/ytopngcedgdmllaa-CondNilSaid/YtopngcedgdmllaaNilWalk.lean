/-
  Package cond: every call of no stack, or of one that nobody made, refuses; and CondNil's walk. Conditions: those that each theorem names.
-/
import Derived.Test.YtopngcedgdmllaaCondD
namespace Go.Proofs.Ytopngcedgdmllaa
open Go.RowKit Go.Sp
variable {W w : World} {F : HProp} {p : Option Addr}

/-- no stack, or one that nobody made -/
def Bad (w : World) (p : Option Addr) : Prop := p = none ∨ ∃ b, p = some ⟨b, 0, none⟩ ∧ w.cell? ⟨b, 2, none⟩ = some (.bool false)

theorem Bad.alloc (h : Bad w p) (o : Obj) : Bad (w.alloc o) p := by
  rcases h with h | ⟨b, h, hc⟩
  · exact .inl h
  · exact .inr ⟨b, h, by rw [World.cell?_alloc_lt w o ⟨b, 2, none⟩ (World.block_lt_of_cell? w _ hc)]; exact hc⟩

theorem none_bad (h : Bad w p) : Calls Try.prog 32 #[.pointer p] w fun e w' => e = .returned (.bool true) ∧ w = w' := by
  rcases h with rfl | ⟨b, rfl, hc⟩
  · exact none_nil w
  · exact none_any b false w hc

theorem reading_bad (h : Bad w p) : Calls Try.prog 24 #[.pointer p] w fun e w' => e = .returned (.bool false) ∧ w = w' := by
  go_enter Try.func24, Try.ntmps24
  go_wp2_with (go_at_call 32; refine (none_bad h).mono ?_; rintro e w' ⟨rfl, rfl⟩)
  go_ret
  exact ⟨rfl, rfl⟩

theorem waiting_bad (h : Bad w p) : Calls Try.prog 25 #[.pointer p] w fun e w' => e = .returned (.bool false) ∧ w = w' := by
  go_enter Try.func25, Try.ntmps25
  go_wp2_with (go_at_call 32; refine (none_bad h).mono ?_; rintro e w' ⟨rfl, rfl⟩)
  go_ret
  exact ⟨rfl, rfl⟩

theorem depth_bad (h : Bad w p) : Calls Try.prog 23 #[.pointer p] w fun e w' => e = .returned (.int .i64 0) ∧ w = w' := by
  go_enter Try.func23, Try.ntmps23
  go_wp2_with (go_at_call 32; refine (none_bad h).mono ?_; rintro e w' ⟨rfl, rfl⟩)
  go_ret
  exact ⟨rfl, rfl⟩

theorem begin_bad (h : Bad w p) : Calls Try.prog 19 #[.pointer p] w fun e w' => e = .returned (.int .i64 1) ∧ w = w' := by
  go_enter Try.func19, Try.ntmps19
  go_wp2_with (go_at_call 32; refine (none_bad h).mono ?_; rintro e w' ⟨rfl, rfl⟩)
  go_ret
  exact ⟨rfl, rfl⟩

theorem meet_bad (n : Int) (h : Bad w p) : Calls Try.prog 22 #[.pointer p, .int .i64 n] w fun e w' => e = .returned (.int .i64 1) ∧ w = w' := by
  go_enter Try.func22, Try.ntmps22
  go_wp2_with (go_at_call 32; refine (none_bad h).mono ?_; rintro e w' ⟨rfl, rfl⟩)
  go_ret
  exact ⟨rfl, rfl⟩

theorem state_bad (n : Int) (h : Bad w p) : Calls Try.prog 18 #[.pointer p, .int .i64 n] w fun e w' => e = .returned (.tuple #[.int .i64 0, .int .i64 0, .int .i64 1]) ∧ w = w' := by
  go_enter Try.func18, Try.ntmps18
  go_wp2_with (go_at_call 32; refine (none_bad h).mono ?_; rintro e w' ⟨rfl, rfl⟩)
  go_ret3
  exact ⟨rfl, rfl⟩

theorem become_bad (x : Array Value) (h : Bad w p) (hS : Sat W F w) : Calls Try.prog 33 #[.pointer p, .agg x] w fun e w' => e = .returned (.int .i64 1) ∧ Sat W F w' ∧ Bad w' p := by
  go_enter Try.func33, Try.ntmps33
  go_wp2_with (go_at_call 25; refine (waiting_bad (h.alloc _)).mono ?_; rintro e w' ⟨rfl, rfl⟩)
  go_ret
  exact ⟨rfl, hS.allocD, h.alloc _⟩

theorem decide_bad (y : Bool) (h : Bad w p) (hS : Sat W F w) : Calls Try.prog 20 #[.pointer p, .bool y] w fun e w' => e = .returned (.int .i64 1) ∧ Sat W F w' ∧ Bad w' p := by
  cases y
  all_goals
    go_enter Try.func20, Try.ntmps20
    go_wp2_with (go_at_call 33; refine (become_bad _ h hS).mono ?_; rintro e w' ⟨rfl, h1, h2⟩)
    go_ret
    exact ⟨rfl, h1, h2⟩

theorem case_bad (n : Int) (h : Bad w p) (hS : Sat W F w) : Calls Try.prog 21 #[.pointer p, .int .i64 n] w fun e w' => e = .returned (.int .i64 1) ∧ Sat W F w' ∧ Bad w' p := by
  go_enter Try.func21, Try.ntmps21
  go_wp2_with (go_at_call 33; refine (become_bad _ h hS).mono ?_; rintro e w' ⟨rfl, h1, h2⟩)
  all_goals
    go_ret
    exact ⟨rfl, h1, h2⟩

set_option maxHeartbeats 1000000 in
theorem nil_any (k n : Int) (y : Bool) (hS : Sat W F w) : Calls Try.prog 5 #[.agg #[.int .i64 k, .bool y, .int .i64 n]] w fun e w' => e = .returned (.bool true) ∧ Sat W F w' := by
  have hS1 := hS.alloc (.cells #[.int .i64 k, .bool y, .int .i64 n] 41)
  go_enter Try.func5, Try.ntmps5
  go_wp2
  generalize w.heap.size = bo at *
  go_loopw [3, 4] (fun s i wr => ∃ (j : Nat) (p : Option Addr), j ≤ 2 ∧ i = .int .i64 j ∧ s = .pointer p ∧ Bad wr p ∧ Sat W (pts bo (.cells #[.int .i64 k, .bool y, .int .i64 n] 41 (0, 0)) * F) wr) (fun _ i _ => 2 - (intOf i).toNat)
  case atStart => exact ⟨0, none, by omega, rfl, rfl, .inl rfl, hS1⟩
  case round =>
    obtain ⟨j, p, hj, rfl, rfl, hb, hs⟩ := hrel
    have f0 := hs.cell (i := 0) rfl
    have f1 := hs.cell (i := 1) rfl
    have f2 := hs.cell (i := 2) rfl
    by_cases hlt : j < 2
    · go_wp2_with (first | (go_at_call 18; refine (state_bad _ hb).mono ?_; rintro e w' ⟨rfl, rfl⟩) | (go_at_call 9; refine (num_any _ _).mono ?_; rintro e w' ⟨rfl, rfl⟩) | (go_at_call 19; refine (begin_bad hb).mono ?_; rintro e w' ⟨rfl, rfl⟩) |
        (go_at_call 20; refine (decide_bad _ hb hs).mono ?_; rintro e w1 ⟨rfl, hs1, hb1⟩; have g1 := hs1.cell (i := 0) rfl; have g2 := hs1.cell (i := 2) rfl) |
        (go_at_call 21; refine (case_bad _ hb1 hs1).mono ?_; rintro e w2 ⟨rfl, hs2, hb2⟩; have g3 := hs2.cell (i := 0) rfl) |
        (go_at_call 22; refine (meet_bad _ hb2).mono ?_; rintro e w' ⟨rfl, rfl⟩) | (go_at_call 23; refine (depth_bad hb2).mono ?_; rintro e w' ⟨rfl, rfl⟩) |
        (go_at_call 24; refine (reading_bad hb2).mono ?_; rintro e w' ⟨rfl, rfl⟩) | (go_at_call 25; refine (waiting_bad hb2).mono ?_; rintro e w' ⟨rfl, rfl⟩))
      go_roundw
      case rel => exact ⟨j + 1, _, by omega, by go_num, rfl, .inr ⟨_, rfl, by simp⟩, hs2.allocD⟩
      case measure => simp [intOf]; omega
    · go_wp2_with (go_at_call 10; refine (live_any hs).mono ?_; rintro e w' ⟨rfl, h2⟩)
      go_ret
      exact ⟨rfl, h2.r⟩

end Go.Proofs.Ytopngcedgdmllaa
