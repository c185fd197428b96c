
/-
  The values of a font of one character; sorting at most one number. Conditions: those that each theorem names.
-/
import Derived.Test.YtembknlhocijkaaFtK
namespace Go.Proofs.Ytembknlhocijkaa
open Go.RowKit Go.Sp
variable {w W : World} {A : HProp} {x : FV} {F : Fnt}

set_option maxRecDepth 100000 in
set_option maxHeartbeats 4000000 in
theorem len64_small {k : Nat} (hk : k ≤ 1) : Calls Try.prog 63 #[.int .u64 k] w fun e w' => (∃ r : Int, e = .returned (.int .i64 r)) ∧ w' = w := by
  have hk2 : k = 0 ∨ k = 1 := by omega
  rcases hk2 with rfl | rfl
  · go_enter Try.func63, Try.ntmps63
    go_wp2
    go_ret
    exact ⟨⟨_, rfl⟩, rfl⟩
  · go_enter Try.func63, Try.ntmps63
    go_wp2
    go_ret
    exact ⟨⟨_, rfl⟩, rfl⟩
set_option maxRecDepth 100000 in
set_option maxHeartbeats 4000000 in
theorem len_small {k : Nat} (hk : k ≤ 1) : Calls Try.prog 51 #[.int .u64 k] w fun e w' => (∃ r : Int, e = .returned (.int .i64 r)) ∧ w' = w := by
  have H := Lib.hid (len64_small (w := w) hk)
  have hk2 : (k : Int) ≤ 1 := by omega
  go_enter Try.func51, Try.ntmps51
  go_wp2_with fail
  with_reducible refine Calls.mono H.out ?_
  rintro e w9 ⟨⟨r, rfl⟩, rfl⟩
  go_wp2
  go_ret
  exact ⟨⟨_, rfl⟩, rfl⟩
set_option maxRecDepth 100000 in
set_option maxHeartbeats 4000000 in
theorem insertion_one {a : Option Addr} {n c : Nat} (hn : n ≤ 1) : Calls Try.prog 53 #[.slice a n c, .int .i64 0, .int .i64 n] w fun e w' => e = .returned (.tuple #[]) ∧ w' = w := by
  have h1 : ¬ (1 : Int) < n := by omega
  go_enter Try.func53, Try.ntmps53
  go_wp2_with fail
  go_loopg [6] 0 (fun gg s6 wx => gg = 0 ∧ s6 = .int .i64 1 ∧ wx = w)
  case atStart => exact ⟨rfl, rfl, rfl⟩
  case round =>
    obtain ⟨hg, rfl, rfl⟩ := hrel
    clear hg
    go_wp2
    go_end0
    exact ⟨rfl, rfl⟩
set_option maxRecDepth 100000 in
set_option maxHeartbeats 4000000 in
theorem pdq_one {a : Option Addr} {n c : Nat} (hn : n ≤ 1) (r : Int) : Calls Try.prog 50 #[.slice a n c, .int .i64 0, .int .i64 n, .int .i64 r] w fun e w' => e = .returned (.tuple #[]) ∧ w' = w := by
  have h1 : (n : Int) ≤ 12 := by omega
  have h2 : (0 : Int) ≤ n := by omega
  have H := Lib.hid (insertion_one (w := w) (a := a) (c := c) hn)
  go_enter Try.func50, Try.ntmps50
  go_wp2_with fail
  go_loopg [1, 2, 3] 0 (fun gg s1 s2 s3 wx => gg = 0 ∧ s1 = .int .i64 0 ∧ s2 = .int .i64 n ∧ s3 = .int .i64 r ∧ wx = w)
  case atStart => exact ⟨rfl, rfl, rfl, rfl, rfl⟩
  case round =>
    obtain ⟨hg, rfl, rfl, rfl, rfl⟩ := hrel
    clear hg
    go_wp2_with fail
    with_reducible refine Calls.mono H.out ?_
    rintro e w9 ⟨rfl, rfl⟩
    go_wp2
    refine bodyPost_ret (results_none rfl _ _ _) rfl ?_
    exact ⟨rfl, rfl⟩
set_option maxRecDepth 100000 in
set_option maxHeartbeats 4000000 in
theorem sort_one {a : Option Addr} {n c : Nat} (hn : n ≤ 1) : Calls Try.prog 34 #[.slice a n c] w fun e w' => e = .returned (.tuple #[]) ∧ w' = w := by
  have h1 : (n : Int) ≤ 1 := by omega
  have h2 : (0 : Int) ≤ n := by omega
  have H := Lib.hid (len_small (w := w) hn)
  have H2 := Lib.hid (fun r => pdq_one (w := w) (a := a) (c := c) hn r)
  go_enter Try.func34, Try.ntmps34
  go_wp2_with fail
  with_reducible refine Calls.mono H.out ?_
  rintro e w9 ⟨⟨r, rfl⟩, rfl⟩
  go_wp2_with fail
  with_reducible refine Calls.mono (H2.out r) ?_
  rintro e w9 ⟨rfl, rfl⟩
  go_wp2
  go_end0
  exact ⟨rfl, rfl⟩
set_option maxRecDepth 100000 in
set_option maxHeartbeats 4000000 in
theorem write1_any (m : Met) (w : World) : Calls Try.prog 18 #[m.val] w fun e w' => e = .returned (.int .i64 m.w) ∧ Ext w w' := by
  have HS := (Sat.start w).alloc m.box
  have HX := Lib.hid HS.r.toExt
  clear HS
  obtain ⟨m1, m2, m3, m4, m5, m6⟩ := m
  go_enter Try.func18, Try.ntmps18
  go_wp2
  go_ret
  exact ⟨rfl, HX.out⟩
set_option maxRecDepth 100000 in
set_option maxHeartbeats 4000000 in
theorem write2_any (m : Met) (w : World) : Calls Try.prog 19 #[m.val] w fun e w' => e = .returned (.int .i64 m.h) ∧ Ext w w' := by
  have HS := (Sat.start w).alloc m.box
  have HX := Lib.hid HS.r.toExt
  clear HS
  obtain ⟨m1, m2, m3, m4, m5, m6⟩ := m
  go_enter Try.func19, Try.ntmps19
  go_wp2
  go_ret
  exact ⟨rfl, HX.out⟩
set_option maxRecDepth 100000 in
set_option maxHeartbeats 4000000 in
theorem write3_any (m : Met) (w : World) : Calls Try.prog 20 #[m.val] w fun e w' => e = .returned (.int .i64 m.d) ∧ Ext w w' := by
  have HS := (Sat.start w).alloc m.box
  have HX := Lib.hid HS.r.toExt
  clear HS
  obtain ⟨m1, m2, m3, m4, m5, m6⟩ := m
  go_enter Try.func20, Try.ntmps20
  go_wp2
  go_ret
  exact ⟨rfl, HX.out⟩
set_option maxRecDepth 100000 in
set_option maxHeartbeats 4000000 in
theorem write4_any (m : Met) (w : World) : Calls Try.prog 21 #[m.val] w fun e w' => e = .returned (.int .i64 m.i) ∧ Ext w w' := by
  have HS := (Sat.start w).alloc m.box
  have HX := Lib.hid HS.r.toExt
  clear HS
  obtain ⟨m1, m2, m3, m4, m5, m6⟩ := m
  go_enter Try.func21, Try.ntmps21
  go_wp2
  go_ret
  exact ⟨rfl, HX.out⟩
end Go.Proofs.Ytembknlhocijkaa
