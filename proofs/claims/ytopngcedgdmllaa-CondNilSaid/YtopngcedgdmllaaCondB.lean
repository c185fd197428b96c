/-
  Package cond: the words, met at the states that 'live' comes to. Conditions: those that each theorem names.
-/
import Derived.Test.YtopngcedgdmllaaCondA
namespace Go.Proofs.Ytopngcedgdmllaa
open Go.RowKit Go.Sp
variable {W w : World} {b g k : Nat} {L : List St} {c : Int} {F : HProp} {t : St}

theorem or_part (h : Sat W (StkA b g k L ⟨2, true, 1, 0, false⟩ 0 * F) w) : Calls Try.prog 41 #[.pointer (some ⟨b, 0, none⟩)] w fun e w' => e = .returned (.int .i64 0) ∧ Sat W (StkA b g k L ⟨1, true, 1, 1, false⟩ 0 * F) w' := by
  obtain ⟨c0, c1, c2, t0, t1, t2, t3, t4, f0, f1, f2, f3, f4, e0, e1, hm, hb, hg⟩ := StkA.top h
  simp only at t0 t1 t2 t3 t4
  go_enter Try.func41, Try.ntmps41
  go_wp2_with (first | (go_at_call 35; refine (top_some _ _ g _ k hm (by go_simp)).mono ?_; rintro e w' ⟨rfl, kq, rfl⟩))
  go_quiet (fail)
  go_wp2
  go_ret
  exact ⟨rfl, StkA.set 0 (.int .i64 1) ⟨1, true, 1, 1, false⟩ (StkA.set 3 (.int .i64 1) ⟨2, true, 1, 1, false⟩ h.drewN rfl).drewN rfl⟩

theorem or_read {p q : Int} (h : Sat W (StkA b g k L ⟨1, true, p, q, false⟩ 0 * F) w) : Calls Try.prog 41 #[.pointer (some ⟨b, 0, none⟩)] w fun e w' => e = .returned (.int .i64 0) ∧ Sat W (StkA b g k L ⟨3, true, p, q, false⟩ 0 * F) w' := by
  obtain ⟨c0, c1, c2, t0, t1, t2, t3, t4, f0, f1, f2, f3, f4, e0, e1, hm, hb, hg⟩ := StkA.top h
  simp only at t0 t1 t2 t3 t4
  go_enter Try.func41, Try.ntmps41
  go_wp2_with (first | (go_at_call 35; refine (top_some _ _ g _ k hm (by go_simp)).mono ?_; rintro e w' ⟨rfl, kq, rfl⟩))
  go_ret
  exact ⟨rfl, StkA.set 0 (.int .i64 3) ⟨3, true, p, q, false⟩ h.drewN rfl⟩

theorem else_done {p q : Int} (h : Sat W (StkA b g k L ⟨3, true, p, q, false⟩ 0 * F) w) : Calls Try.prog 40 #[.pointer (some ⟨b, 0, none⟩)] w fun e w' => e = .returned (.int .i64 0) ∧ Sat W (StkA b g k L ⟨3, true, p, q, true⟩ 0 * F) w' := by
  obtain ⟨c0, c1, c2, t0, t1, t2, t3, t4, f0, f1, f2, f3, f4, e0, e1, hm, hb, hg⟩ := StkA.top h
  simp only at t0 t1 t2 t3 t4
  go_enter Try.func40, Try.ntmps40
  go_wp2_with (first | (go_at_call 35; refine (top_some _ _ g _ k hm (by go_simp)).mono ?_; rintro e w' ⟨rfl, kq, rfl⟩))
  go_ret
  exact ⟨rfl, StkA.set 4 (.bool true) ⟨3, true, p, q, true⟩ (StkA.set 0 (.int .i64 3) ⟨3, true, p, q, false⟩ h.drewN rfl) rfl⟩

theorem end_one (h : Sat W (StkA b g k [] t c * F) w) : Calls Try.prog 44 #[.pointer (some ⟨b, 0, none⟩)] w fun e w' => e = .returned (.int .i64 0) ∧ ∃ v, Sat W (Stk0 b v c * F) w' := by
  obtain ⟨c0, c1, c2, t0, t1, t2, t3, t4, f0, f1, f2, f3, f4, e0, e1, hm, hb, hg⟩ := StkA.top h
  simp only [List.length_nil] at c0
  go_enter Try.func44, Try.ntmps44
  go_wp2
  have hw0 : IntKind.i64.wrap 0 = 0 := by decide
  go_still_tail 13, (by kernel_rfl)
  change wpList _ _ _ _ _ w.drew
  clear hw0
  go_wp2
  go_ret
  exact ⟨rfl, .slice (some ⟨g, 0, none⟩) 0 k, (Sat.row_take (m := 0) (Sat.set (i := 0) (v := .slice (some ⟨g, 0, none⟩) 0 k) h.asc).rot (Nat.zero_le _)).rot.asc'.drew⟩

theorem words_any (h : Sat W F w) : Calls Try.prog 34 #[] w fun e w' => e = .returned (.agg #[.nilFunc, .func (.func 39) #[] #[], .func (.func 40) #[] #[], .func (.func 41) #[] #[], .func (.func 42) #[] #[]]) ∧ Sat W F w' := by
  go_enter Try.func34, Try.ntmps34
  go_wp2
  exact bodyPost_ret (v := .agg #[.nilFunc, .func (.func 39) #[] #[], .func (.func 40) #[] #[], .func (.func 41) #[] #[], .func (.func 42) #[] #[]]) (by simp [results, Try.results34, go_sem]) rfl ⟨rfl, h.allocD⟩


theorem fi_one (h : Sat W (StkA b g k [] t 0 * F) w) : Calls Try.prog 42 #[.pointer (some ⟨b, 0, none⟩)] w fun e w' => e = .returned (.int .i64 0) ∧ ∃ v, Sat W (Stk0 b v 0 * F) w' := by
  obtain ⟨c0, c1, c2, t0, t1, t2, t3, t4, f0, f1, f2, f3, f4, e0, e1, hm, hb, hg⟩ := StkA.top h
  go_enter Try.func42, Try.ntmps42
  go_wp2_with (first | (go_at_call 35; refine (top_some _ _ g _ k hm (by go_simp)).mono ?_; rintro e w' ⟨rfl, kq, rfl⟩) | (go_at_call 44; refine (end_one h.drewN).mono ?_; rintro e w' ⟨rfl, v, h1⟩))
  go_ret
  exact ⟨rfl, v, h1⟩


theorem idx2 (w : World) : (Instr.index 64 (.agg #[.nilFunc, .func (.func 39) #[] #[], .func (.func 40) #[] #[], .func (.func 41) #[] #[], .func (.func 42) #[] #[]]) (.int .i64 2)).run Try.prog w = .ok (.func (.func 40) #[] #[]) w := by kernel_rfl
theorem idx3 (w : World) : (Instr.index 64 (.agg #[.nilFunc, .func (.func 39) #[] #[], .func (.func 40) #[] #[], .func (.func 41) #[] #[], .func (.func 42) #[] #[]]) (.int .i64 3)).run Try.prog w = .ok (.func (.func 41) #[] #[]) w := by kernel_rfl
theorem idx4 (w : World) : (Instr.index 64 (.agg #[.nilFunc, .func (.func 39) #[] #[], .func (.func 40) #[] #[], .func (.func 41) #[] #[], .func (.func 42) #[] #[]]) (.int .i64 4)).run Try.prog w = .ok (.func (.func 42) #[] #[]) w := by kernel_rfl

/-- Meet: Or, at a part that is not asked for -/
theorem meet_or_part (h : Sat W (StkA b g k L ⟨2, true, 1, 0, false⟩ 0 * F) w) : Calls Try.prog 22 #[.pointer (some ⟨b, 0, none⟩), .int .i64 3] w fun e w' => e = .returned (.int .i64 0) ∧ Sat W (StkA b g k L ⟨1, true, 1, 1, false⟩ 0 * F) w' := by
  have ix := idx3
  have T := StkA.top h
  go_enter Try.func22, Try.ntmps22
  go_wp2_with (first | (go_at_call 32; refine (none_any _ _ _ T.c2).mono ?_; rintro e w' ⟨rfl, rfl⟩) | (go_at_call 34; refine (words_any h).mono ?_; rintro e w' ⟨rfl, h1⟩) | (go_at_call 41; refine (or_part h1).mono ?_; rintro e w' ⟨rfl, h2⟩))
  go_ret
  exact ⟨rfl, h2⟩

theorem meet_or_read {p q : Int} (h : Sat W (StkA b g k L ⟨1, true, p, q, false⟩ 0 * F) w) : Calls Try.prog 22 #[.pointer (some ⟨b, 0, none⟩), .int .i64 3] w fun e w' => e = .returned (.int .i64 0) ∧ Sat W (StkA b g k L ⟨3, true, p, q, false⟩ 0 * F) w' := by
  have ix := idx3
  have T := StkA.top h
  go_enter Try.func22, Try.ntmps22
  go_wp2_with (first | (go_at_call 32; refine (none_any _ _ _ T.c2).mono ?_; rintro e w' ⟨rfl, rfl⟩) | (go_at_call 34; refine (words_any h).mono ?_; rintro e w' ⟨rfl, h1⟩) | (go_at_call 41; refine (or_read h1).mono ?_; rintro e w' ⟨rfl, h2⟩))
  go_ret
  exact ⟨rfl, h2⟩

theorem meet_else {p q : Int} (h : Sat W (StkA b g k L ⟨3, true, p, q, false⟩ 0 * F) w) : Calls Try.prog 22 #[.pointer (some ⟨b, 0, none⟩), .int .i64 2] w fun e w' => e = .returned (.int .i64 0) ∧ Sat W (StkA b g k L ⟨3, true, p, q, true⟩ 0 * F) w' := by
  have ix := idx2
  have T := StkA.top h
  go_enter Try.func22, Try.ntmps22
  go_wp2_with (first | (go_at_call 32; refine (none_any _ _ _ T.c2).mono ?_; rintro e w' ⟨rfl, rfl⟩) | (go_at_call 34; refine (words_any h).mono ?_; rintro e w' ⟨rfl, h1⟩) | (go_at_call 40; refine (else_done h1).mono ?_; rintro e w' ⟨rfl, h2⟩))
  go_ret
  exact ⟨rfl, h2⟩

theorem meet_fi (h : Sat W (StkA b g k [] t 0 * F) w) : Calls Try.prog 22 #[.pointer (some ⟨b, 0, none⟩), .int .i64 4] w fun e w' => e = .returned (.int .i64 0) ∧ ∃ v, Sat W (Stk0 b v 0 * F) w' := by
  have ix := idx4
  have T := StkA.top h
  go_enter Try.func22, Try.ntmps22
  go_wp2_with (first | (go_at_call 32; refine (none_any _ _ _ T.c2).mono ?_; rintro e w' ⟨rfl, rfl⟩) | (go_at_call 34; refine (words_any h).mono ?_; rintro e w' ⟨rfl, h1⟩) | (go_at_call 42; refine (fi_one h1).mono ?_; rintro e w' ⟨rfl, v, h2⟩))
  go_ret
  exact ⟨rfl, v, h2⟩

end Go.Proofs.Ytopngcedgdmllaa
