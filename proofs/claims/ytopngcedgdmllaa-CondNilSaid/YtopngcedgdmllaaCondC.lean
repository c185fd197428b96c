/-
  Package cond: All at the words and answers of 'live'. Conditions: those that each theorem names.
-/
import Derived.Test.YtopngcedgdmllaaCondB
namespace Go.Proofs.Ytopngcedgdmllaa
open Go.RowKit Go.Sp
variable {W w : World} {F : HProp}

/-- the words and the answers, where they lie -/
def LiveIn (bw ba : Nat) (F : HProp) : HProp :=
  pts bw (.cells #[.int .i64 1, .int .i64 3, .int .i64 3, .int .i64 2, .int .i64 4] 3 (0, 0)) * (pts ba (.cells #[.int .i64 3] 3 (0, 0)) * F)

def LiveAt (W : World) (b bw ba : Nat) (F : HProp) : Nat → Value → Value → World → Prop
  | 0, a, o, w => a = .slice (some ⟨ba, 0, none⟩) 1 1 ∧ o = .slice none 0 0 ∧ Sat W (Stk0 b (.slice none 0 0) 0 * LiveIn bw ba F) w
  | 1, _, o, w => ∃ g k, o = .slice none 0 0 ∧ Sat W (StkA b g k [] ⟨2, true, 1, 0, false⟩ 0 * LiveIn bw ba F) w
  | 2, _, o, w => ∃ g k, Sat W (StkA b g k [] ⟨1, true, 1, 1, false⟩ 0 * (row o 1 3 1 [.int .i64 1] * LiveIn bw ba F)) w
  | 3, _, o, w => ∃ g k, Sat W (StkA b g k [] ⟨3, true, 1, 1, false⟩ 0 * (row o 1 3 1 [.int .i64 1] * LiveIn bw ba F)) w
  | 4, _, o, w => ∃ g k, Sat W (StkA b g k [] ⟨3, true, 1, 1, true⟩ 0 * (row o 1 3 1 [.int .i64 1] * LiveIn bw ba F)) w
  | _, _, o, w => ∃ v, Sat W (Stk0 b v 0 * (row o 2 3 1 [.int .i64 1, .int .i64 4] * LiveIn bw ba F)) w

theorem info_int : (Try.prog.info? 3).map (fun i => (i.zero, i.size, i.bytes)) = some (some (.int .i64 0), 1, 8) := by kernel_rfl

set_option maxHeartbeats 2000000 in
theorem all_live (bw ba : Nat) (h : Sat W (LiveIn bw ba F) w) : Calls Try.prog 6 #[.slice (some ⟨bw, 0, none⟩) 5 5, .slice (some ⟨ba, 0, none⟩) 1 1] w
    fun e w' => ∃ v, e = .returned (.tuple #[v, .int .i64 0]) ∧ Sat W (row v 2 3 1 [.int .i64 1, .int .i64 4] * F) w' := by
  obtain ⟨i0, hi, hz0, hz1, hz2⟩ := info_parts info_int
  go_enter Try.func6, Try.ntmps6
  go_wp2_with (go_at_call 26; refine (new_any h).mono ?_; rintro e w' ⟨rfl, h1⟩)
  rename_i w1
  generalize hbb : w.heap.size = b at *
  clear hbb
  go_loopw [1, 7, 15] (fun a o i wr => ∃ k : Nat, k ≤ 5 ∧ i = .int .i64 k ∧ LiveAt W b bw ba F k a o wr) (fun _ _ i _ => 5 - (intOf i).toNat)
  case atStart => exact ⟨0, by omega, rfl, rfl, rfl, h1⟩
  case round =>
    obtain ⟨k, hk, rfl, hs⟩ := hrel
    match k, hk, hs with
    | 0, _, hs =>
      obtain ⟨rfl, rfl, h2⟩ := hs
      have a0 := h2.r.cell (i := 0) rfl
      have q0 := h2.r.r.cell (i := 0) rfl
      go_wp2_with (first | (go_at_call 24; first | (refine (reading_nil h2).mono ?_; rintro e w' ⟨rfl, rfl⟩) | (refine (reading_some h4).mono ?_; rintro e w' ⟨rfl, kq, rfl⟩)) | (go_at_call 19; refine (begin_nil h2).mono ?_; rintro e w' ⟨rfl, g, k, h3⟩) | (go_at_call 21; refine (case_pass 1 rfl h3).mono ?_; rintro e w' ⟨rfl, h4⟩))
      go_roundw
      case rel => exact ⟨1, by omega, rfl, g, k, rfl, h4.drewN⟩
      case measure => simp [intOf]
    | 1, _, hs =>
      obtain ⟨g, k, rfl, h2⟩ := hs
      have a0 := h2.r.cell (i := 1) rfl
      go_wp2_with (first | (go_at_call 22; refine (meet_or_part h2).mono ?_; rintro e w' ⟨rfl, h3⟩) | (go_at_call 24; refine (reading_some h3).mono ?_; rintro e w' ⟨rfl, kq, rfl⟩) | (at_builtin; refine wpList_append_sep rfl _ _ 22 rfl i0 _ 8 Try.underlying22 hi hz0 hz1 hz2 rfl rfl h3.drewN.allocD.row_nil ⟨_, 0, none⟩ 1 1 [.int .i64 1] rfl rfl (new_cells _ _ _) ?_ ?_ ?_ ?_))
      · simp [Value.oneCell']
      · simp [maxLen]
      · omega
      intro v' w2 h4
      go_wp2
      go_roundw
      case rel => exact ⟨2, by omega, rfl, g, k, h4.rot⟩
      case measure => simp [intOf]
    | 2, _, hs =>
      obtain ⟨g, k, h2⟩ := hs
      have a0 := h2.r.r.cell (i := 2) rfl
      go_wp2_with (first | (go_at_call 22; refine (meet_or_read h2).mono ?_; rintro e w' ⟨rfl, h3⟩) | (go_at_call 24; refine (reading_some h3).mono ?_; rintro e w' ⟨rfl, kq, rfl⟩))
      go_roundw
      case rel => exact ⟨3, by omega, rfl, g, k, h3.drewN⟩
      case measure => simp [intOf]
    | 3, _, hs =>
      obtain ⟨g, k, h2⟩ := hs
      have a0 := h2.r.r.cell (i := 3) rfl
      go_wp2_with (first | (go_at_call 22; refine (meet_else h2).mono ?_; rintro e w' ⟨rfl, h3⟩) | (go_at_call 24; refine (reading_some h3).mono ?_; rintro e w' ⟨rfl, kq, rfl⟩))
      go_roundw
      case rel => exact ⟨4, by omega, rfl, g, k, h3.drewN⟩
      case measure => simp [intOf]
    | 4, _, hs =>
      obtain ⟨g, k, h2⟩ := hs
      have a0 := h2.r.r.cell (i := 4) rfl
      go_wp2_with (first | (go_at_call 22; refine (meet_fi h2).mono ?_; rintro e w' ⟨rfl, v, h3⟩) | (go_at_call 24; refine (reading_nil h3).mono ?_; rintro e w' ⟨rfl, rfl⟩) | (at_builtin; refine wpList_append_sep rfl _ _ 22 rfl i0 _ 8 Try.underlying22 hi hz0 hz1 hz2 rfl rfl h3.rot.allocD ⟨_, 0, none⟩ 1 1 [.int .i64 4] rfl rfl (new_cells _ _ _) ?_ ?_ ?_ ?_))
      · simp [Value.oneCell']
      · simp [maxLen]
      · omega
      intro v' w2 h4
      go_wp2
      go_roundw
      case rel => exact ⟨5, by omega, rfl, v, h4.rot⟩
      case measure => simp [intOf]
    | 5, _, hs =>
      obtain ⟨v, h2⟩ := hs
      go_wp2
      go_ret2
      exact ⟨_, rfl, h2.r.of_eq (by unfold LiveIn; ac_rfl) |>.r.r⟩

end Go.Proofs.Ytopngcedgdmllaa
