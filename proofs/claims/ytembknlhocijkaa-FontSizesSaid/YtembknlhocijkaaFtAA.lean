
/-
  FontSizes, walked. Conditions: none.
-/
import Derived.Test.YtembknlhocijkaaFtZ
namespace Go.Proofs.Ytembknlhocijkaa
open Go.RowKit Go.Sp
variable {w w' W : World} {A : HProp}

theorem tmod_in (p m : Int) (hm : 0 < m) : -m < p.tmod m ∧ p.tmod m < m := by
  constructor
  · have := Int.lt_tmod_of_pos p hm
    omega
  · exact Int.tmod_lt_of_pos p hm
theorem norm_in (p m : Int) (hm : 0 < m) : 0 ≤ (p.tmod m + m).tmod m ∧ (p.tmod m + m).tmod m < m := by
  obtain ⟨h1, h2⟩ := tmod_in p m hm
  exact ⟨Int.tmod_nonneg _ (by omega), Int.tmod_lt_of_pos _ hm⟩
theorem size_ok {a x : Int} (h1 : 1 ≤ a) (h2 : a ≤ 134217727) (h3 : -16777216 ≤ x) (h4 : x < 16777216) : sizeOk a x = true := by
  unfold sizeOk fixB
  rw [decide_eq_true h1, decide_eq_true h2, decide_eq_true h3, decide_eq_true h4]
  rfl
set_option maxRecDepth 100000 in
set_option maxHeartbeats 8000000 in
theorem sizes_any (p q r : Int) (w : World) : Calls Try.prog 3 #[.int .i64 p, .int .i64 q, .int .i64 r] w fun e w' => e = .returned (.bool true) ∧ Ext w w' := by
  obtain ⟨a1, a2⟩ := tmod_in p 134217727 (by decide)
  obtain ⟨a3, a4⟩ := norm_in p 134217727 (by decide)
  obtain ⟨b1, b2⟩ := tmod_in q 16777216 (by decide)
  obtain ⟨b3, b4⟩ := norm_in q 16777216 (by decide)
  obtain ⟨c1, c2⟩ := tmod_in r 16777216 (by decide)
  obtain ⟨c3, c4⟩ := norm_in r 16777216 (by decide)
  have HK := Lib.hid (fun w => knows_any w)
  have HN := Lib.hid (fun a w => num_any a w)
  go_enter Try.func3, Try.ntmps3
  go_upto_region 4 with fail
  obtain ⟨u1, hu1⟩ : ∃ u, p.tmod 134217727 = u := ⟨_, rfl⟩
  obtain ⟨u2, hu2⟩ : ∃ u, q.tmod 16777216 = u := ⟨_, rfl⟩
  obtain ⟨u3, hu3⟩ : ∃ u, r.tmod 16777216 = u := ⟨_, rfl⟩
  rw [hu1, hu2, hu3]
  rw [show (u2 + 16777216) % 16777216 = u2 % 16777216 by omega]
  obtain ⟨a, ha⟩ : ∃ a, 1 + u1 % 134217727 = a := ⟨_, rfl⟩
  obtain ⟨x, hx⟩ : ∃ x, u2 % 16777216 = x := ⟨_, rfl⟩
  obtain ⟨m, hm⟩ : ∃ m, u3 % 16777216 = m := ⟨_, rfl⟩
  obtain ⟨y, hy⟩ : ∃ y, (if 16777215 < x + m then 16777215 else x + m) = y := ⟨_, rfl⟩
  rw [ha, hx, hm, hy]
  have p1 : 1 ≤ a := by omega
  have p2 : a ≤ 134217727 := by omega
  have p3 : 0 ≤ x := by omega
  have p4 : x ≤ y := by rw [← hy]; split <;> omega
  have p5 : y ≤ 16777215 := by rw [← hy]; split <;> omega
  clear hu1 hu2 hu3 ha hx hm hy a1 a2 a3 a4 b1 b2 b3 b4 c1 c2 c3 c4
  obtain ⟨s1, s2, s3, s4, s5, s6, s7, s8, s9⟩ := sizes_plain p1 p2 p3 p4 p5
  have HZ := Lib.hid (fun (v : Int) (w : World) (h3 : -16777216 ≤ v) (h4 : v < 16777216) => show Calls Try.prog 5 #[.int .i64 a, .int .i64 v] w fun e w' => e = .returned (.tuple #[.int .i64 (sizeM a v), .int .i64 0]) ∧ w' = w by
    have h := size_any a v w
    rw [if_pos (size_ok p1 p2 h3 h4), if_pos (size_ok p1 p2 h3 h4)] at h
    exact h)
  obtain ⟨z0, hz0⟩ : ∃ z, sizeM a 0 = z := ⟨_, rfl⟩
  obtain ⟨zx, hzx⟩ : ∃ z, sizeM a x = z := ⟨_, rfl⟩
  obtain ⟨zy, hzy⟩ : ∃ z, sizeM a y = z := ⟨_, rfl⟩
  obtain ⟨zm, hzm⟩ : ∃ z, sizeM a 1048576 = z := ⟨_, rfl⟩
  obtain ⟨nx, hnx⟩ : ∃ z, sizeM a (x - 16777216) = z := ⟨_, rfl⟩
  obtain ⟨ny, hny⟩ : ∃ z, sizeM a (y - 16777216) = z := ⟨_, rfl⟩
  have H0 := Lib.hid (HZ.out 0 w (by omega) (by omega))
  have HX := Lib.hid (HZ.out x w (by omega) (by omega))
  have HY := Lib.hid (HZ.out y w (by omega) (by omega))
  have HM := Lib.hid (HZ.out 1048576 w (by omega) (by omega))
  have HNX := Lib.hid (HZ.out (x - 16777216) w (by omega) (by omega))
  have HNY := Lib.hid (HZ.out (y - 16777216) w (by omega) (by omega))
  rw [hz0] at s1 H0
  rw [hzx] at s2 s3 s6 s8 HX
  rw [hzy] at s3 HY
  rw [hzm] at s7 HM
  rw [hnx] at s4 HNX
  rw [hny] at s4 s5 HNY
  subst s1
  clear HZ hz0 hzx hzy hzm hnx hny
  have hxa0 : 0 ≤ x * a := Int.mul_nonneg p3 (by omega)
  have HS7 := Lib.hid s7
  have s6' : ¬ x * a < zx * 1048576 := by omega
  clear s7
  go_wp2_with fail
  with_reducible refine Calls.mono H0.out ?_
  rintro e w7 ⟨rfl, hw7⟩
  have hw8 := hw7.symm
  clear hw7
  subst hw8
  go_wp2_with fail
  with_reducible refine Calls.mono HX.out ?_
  rintro e w7 ⟨rfl, hw7⟩
  have hw8 := hw7.symm
  clear hw7
  subst hw8
  go_wp2_with fail
  with_reducible refine Calls.mono HY.out ?_
  rintro e w7 ⟨rfl, hw7⟩
  have hw8 := hw7.symm
  clear hw7
  subst hw8
  go_wp2_with fail
  with_reducible refine Calls.mono HM.out ?_
  rintro e w7 ⟨rfl, hw7⟩
  have hw8 := hw7.symm
  clear hw7
  subst hw8
  go_wp2_with fail
  with_reducible refine Calls.mono HNX.out ?_
  rintro e w7 ⟨rfl, hw7⟩
  have hw8 := hw7.symm
  clear hw7
  subst hw8
  go_wp2_with fail
  with_reducible refine Calls.mono HNY.out ?_
  rintro e w7 ⟨rfl, hw7⟩
  have hw8 := hw7.symm
  clear hw7
  subst hw8
  go_wp2_with fail
  with_reducible refine Calls.mono (HN.out _ _) ?_
  rintro e w7 ⟨rfl, hw7⟩
  have hw8 := hw7.symm
  clear hw7
  subst hw8
  go_wp2_with fail
  with_reducible refine Calls.mono (HN.out _ _) ?_
  rintro e w7 ⟨rfl, hw7⟩
  have hw8 := hw7.symm
  clear hw7
  subst hw8
  go_wp2_with fail
  with_reducible refine Calls.mono (HN.out _ _) ?_
  rintro e w7 ⟨rfl, hw7⟩
  have hw8 := hw7.symm
  clear hw7
  subst hw8
  go_wp2_with fail
  with_reducible refine Calls.mono (HN.out _ _) ?_
  rintro e w7 ⟨rfl, hw7⟩
  have hw8 := hw7.symm
  clear hw7
  subst hw8
  go_wp2_with fail
  with_reducible refine Calls.mono (HN.out _ _) ?_
  rintro e w7 ⟨rfl, hw7⟩
  have hw8 := hw7.symm
  clear hw7
  subst hw8
  go_wp2_with fail
  with_reducible refine Calls.mono (HN.out _ _) ?_
  rintro e w7 ⟨rfl, hw7⟩
  have hw8 := hw7.symm
  clear hw7
  subst hw8
  go_wp2_with fail
  with_reducible refine Calls.mono (HK.out _) ?_
  rintro e w8 ⟨rfl, hx⟩
  have HXK := Lib.hid hx
  clear hx
  by_cases hlt : a < 8388608
  · have hz := HS7.out hlt
    have hn : ¬ 8388608 ≤ a := by omega
    subst hz
    go_wp2
    go_ret
    exact ⟨rfl, HXK.out⟩
  · have hn : 8388608 ≤ a := by omega
    go_wp2
    go_ret
    exact ⟨rfl, HXK.out⟩
theorem sizes_sat (p q r : Int) (w : World) : Calls Try.prog 3 #[.int .i64 p, .int .i64 q, .int .i64 r] w fun e w' => e = .returned (.bool true) ∧ Sat w (own w) w' :=
  (sizes_any p q r w).mono fun _ _ h => ⟨h.1, h.2.toSat⟩
end Go.Proofs.Ytembknlhocijkaa
