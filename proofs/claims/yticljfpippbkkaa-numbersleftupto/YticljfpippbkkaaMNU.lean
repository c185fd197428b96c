import Derived.Test.YticljfpippbkkaaMNumR
import Derived.Deep.LoopGhost
/-
  Fractions of a number; a factor of a register. Conditions: those that each theorem names.
-/
namespace Go.Proofs.Yticljfpippbkkaa
open Go.RowKit Go.Sp
variable {W w w' : World} {A : HProp} {bx bs bt N : Nat} {L : List Tok} {S : TabS}

theorem wrap64_rng (x : Int) : -9223372036854775808 ≤ wrap64 x ∧ wrap64 x ≤ 9223372036854775807 := by
  unfold wrap64
  omega
theorem wrap64_tdiv (p : Int) (k : Int) (h1 : -9223372036854775807 ≤ p) (h2 : p ≤ 9223372036854775807) : wrap64 (p.tdiv k) = p.tdiv k := by
  have h3 : (p.tdiv k).natAbs ≤ p.natAbs := by
    rw [Int.natAbs_tdiv]
    exact Nat.div_le_self _ _
  exact wrap64_id _ (by omega) (by omega)
theorem far_any (x : Int) (w : World) : Calls Try.prog 106 #[.int .i64 x] w fun e w' => e = .returned (.bool (farB x)) ∧ w = w' := by
  by_cases h1 : x < -2147483647
  · have e : farB x = true := by simp [farB, h1]
    rw [e]
    clear e
    go_enter Try.func106, Try.ntmps106
    go_wp2
    go_ret
    exact ⟨rfl, rfl⟩
  · by_cases h2 : 2147483647 < x
    · have e : farB x = true := by simp [farB, h2]
      rw [e]
      clear e
      go_enter Try.func106, Try.ntmps106
      go_wp2
      go_ret
      exact ⟨rfl, rfl⟩
    · have e : farB x = false := by simp [farB, h1, h2]
      rw [e]
      clear e
      go_enter Try.func106, Try.ntmps106
      go_wp2
      go_ret
      exact ⟨rfl, rfl⟩
theorem sdimen_any (n : Int) (w : World) : Calls Try.prog 105 #[.int .i64 n] w fun e w' => e = .returned (.tuple #[.int .i64 (dimM n).1, .int .i64 (dimM n).2]) ∧ w = w' := by
  by_cases h1 : n < -1073741823
  · have e : dimM n = (0, 20) := if_pos (.inl h1)
    rw [e]
    have HE := Lib.hid e
    clear e
    go_enter Try.func105, Try.ntmps105
    go_wp2
    exact bodyPost_ret (v := .tuple #[.int .i64 0, .int .i64 20]) (by unfold results; go_simp) rfl ⟨rfl, rfl⟩
  · by_cases h2 : 1073741823 < n
    · have e : dimM n = (0, 20) := if_pos (.inr h2)
      rw [e]
      have HE := Lib.hid e
      clear e
      go_enter Try.func105, Try.ntmps105
      go_wp2
      exact bodyPost_ret (v := .tuple #[.int .i64 0, .int .i64 20]) (by unfold results; go_simp) rfl ⟨rfl, rfl⟩
    · have e : dimM n = (n, 0) := if_neg (fun h => h.elim h1 h2)
      rw [e]
      have HE := Lib.hid e
      clear e
      go_enter Try.func105, Try.ntmps105
      go_wp2
      exact bodyPost_ret (v := .tuple #[.int .i64 n, .int .i64 0]) (by unfold results; go_simp) rfl ⟨rfl, rfl⟩
set_option maxRecDepth 100000 in
set_option maxHeartbeats 4000000 in
theorem anyFar_any (g : Nat) (a b c : Int) (h : Sat W (pts g (.cells #[.int .i64 a, .int .i64 b, .int .i64 c] 3) * A) w) :
    Calls Try.prog 104 #[.slice (some ⟨g, 0, none⟩) 3 3] w fun e w' => e = .returned (.bool (farB a || farB b || farB c)) ∧ w = w' := by
  have c0 := h.cell (i := 0) rfl
  have c1 := h.cell (i := 1) rfl
  have c2 := h.cell (i := 2) rfl
  have lg := h.lt
  obtain ⟨fa, hfa⟩ : ∃ f, farB a = f := ⟨_, rfl⟩
  obtain ⟨fb, hfb⟩ : ∃ f, farB b = f := ⟨_, rfl⟩
  obtain ⟨fc, hfc⟩ : ∃ f, farB c = f := ⟨_, rfl⟩
  have HA := Lib.hid (far_any a w)
  have HB := Lib.hid (far_any b w)
  have HC := Lib.hid (far_any c w)
  rw [hfa] at HA
  rw [hfb] at HB
  rw [hfc] at HC
  rw [hfa, hfb, hfc]
  clear h hfa hfb hfc
  go_enter Try.func104, Try.ntmps104
  go_wp2_with fail
  go_loopg [7] 4 (fun gg s7 wx => ∃ k : Nat, k ≤ 3 ∧ gg = 4 - k ∧ s7 = .int .i64 k ∧ wx = w ∧ (0 < k → fa = false) ∧ (1 < k → fb = false) ∧ (2 < k → fc = false))
  case atStart => exact ⟨0, by omega, rfl, rfl, rfl, by omega, by omega, by omega⟩
  case round =>
    obtain ⟨k, hk, hg, rfl, rfl, ha, hb, hc⟩ := hrel
    have hk4 : k = 0 ∨ k = 1 ∨ k = 2 ∨ k = 3 := by omega
    rcases hk4 with rfl | rfl | rfl | rfl
    · clear ha hb hc
      go_wp2_with fail
      with_reducible refine Calls.mono HA.out ?_
      rintro e w' ⟨rfl, rfl⟩
      cases fa with
      | true =>
        go_wp2
        go_ret
        exact ⟨rfl, rfl⟩
      | false =>
        go_wp2
        go_roundg 3
        case measure => omega
        case rel => exact ⟨1, by omega, rfl, by go_num, rfl, by simp, by simp, by simp⟩
    · have h1 := ha (by omega)
      subst h1
      clear ha hb hc
      go_wp2_with fail
      with_reducible refine Calls.mono HB.out ?_
      rintro e w' ⟨rfl, rfl⟩
      cases fb with
      | true =>
        go_wp2
        go_ret
        exact ⟨rfl, rfl⟩
      | false =>
        go_wp2
        go_roundg 2
        case measure => omega
        case rel => exact ⟨2, by omega, rfl, by go_num, rfl, by simp, by simp, by simp⟩
    · have h1 := ha (by omega)
      have h2 := hb (by omega)
      subst h1
      subst h2
      clear ha hb hc
      go_wp2_with fail
      with_reducible refine Calls.mono HC.out ?_
      rintro e w' ⟨rfl, rfl⟩
      cases fc with
      | true =>
        go_wp2
        go_ret
        exact ⟨rfl, rfl⟩
      | false =>
        go_wp2
        go_roundg 1
        case measure => omega
        case rel => exact ⟨3, by omega, rfl, by go_num, rfl, by simp, by simp, by simp⟩
    · have h1 := ha (by omega)
      have h2 := hb (by omega)
      have h3 := hc (by omega)
      subst h1
      subst h2
      subst h3
      go_wp2
      go_ret
      exact ⟨rfl, rfl⟩

set_option maxRecDepth 100000 in
set_option maxHeartbeats 4000000 in
theorem frac_any (v f : Int) (w : World) : Calls Try.prog 97 #[.int .i64 v, .int .i64 f, .int .i64 65536] w fun e w' => ∃ z, e = .returned (.tuple #[.int .i64 (fracM v f).1, .int .i64 z, .int .i64 (fracM v f).2]) ∧ Ext w w' := by
  have hs := (Sat.start w).alloc (.cells #[.int .i64 v, .int .i64 f, .int .i64 65536] 3)
  have HF := Lib.hid (anyFar_any _ v f 65536 hs)
  have HX := Lib.hid hs.r.toExt
  rw [show farB 65536 = false from rfl, Bool.or_false] at HF
  obtain ⟨R, hR⟩ : ∃ R, fracM v f = R := ⟨_, rfl⟩
  rw [hR]
  unfold fracM at hR
  obtain ⟨b, hb⟩ : ∃ b, (farB v || farB f) = b := ⟨_, rfl⟩
  have hb2 : (farB v = true ∨ farB f = true) ↔ b = true := by rw [← hb]; simp
  rw [hb] at HF
  have HR := Lib.hid hR
  have HB2 := Lib.hid hb2
  clear hs hR hb hb2
  go_enter Try.func97, Try.ntmps97
  go_wp2_with fail
  with_reducible refine Calls.mono HF.out ?_
  rintro e w' ⟨rfl, rfl⟩
  clear HF
  cases b with
  | true =>
    have hr := HR.out
    rw [if_pos (HB2.out.2 rfl)] at hr
    subst hr
    go_wp2
    exact bodyPost_ret (v := .tuple #[.int .i64 0, .int .i64 0, .int .i64 11]) (by unfold results; go_simp) rfl ⟨⟨0, rfl⟩, HX.out⟩
  | false =>
    have hr := HR.out
    rw [if_neg (fun h => by have := HB2.out.1 h; cases this)] at hr
    have HR2 := Lib.hid hr
    clear hr HR HB2
    by_cases hf : f < 0
    · have hr := HR2.out
      rw [if_pos hf] at hr
      subst hr
      go_wp2
      exact bodyPost_ret (v := .tuple #[.int .i64 0, .int .i64 0, .int .i64 1]) (by unfold results; go_simp) rfl ⟨⟨0, rfl⟩, HX.out⟩
    · have hr := HR2.out
      rw [if_neg hf] at hr
      obtain ⟨p, hp⟩ : ∃ p, wrap64 (v * f) = p := ⟨_, rfl⟩
      have hpr := wrap64_rng (v * f)
      rw [hp] at hr hpr
      have hw : wrap64 (p.tdiv 65536) = p.tdiv 65536 := by
        rcases Int.lt_or_eq_of_le hpr.1 with h | h
        · exact wrap64_tdiv p 65536 (by omega) hpr.2
        · rw [← h]; kernel_rfl
      obtain ⟨⟨e1, e2⟩, hd⟩ : ∃ d, dimM (p.tdiv 65536) = d := ⟨_, rfl⟩
      have HD := Lib.hid (sdimen_any (p.tdiv 65536))
      rw [hd] at hr HD
      have HE0 := Lib.hid (show e2 ≠ 0 → e1 = 0 from fun h => by
        have := congrArg Prod.fst hd
        have h2 := congrArg Prod.snd hd
        unfold dimM at this h2
        split at this
        · exact this.symm
        · rename_i hne; rw [if_neg hne] at h2; exact absurd h2.symm h)
      subst hr
      have f0 : ¬ f < 0 := hf
      clear hd HR2
      go_wp2_with fail
      with_reducible refine Calls.mono (HD.out _) ?_
      rintro e w' ⟨rfl, rfl⟩
      by_cases h2 : e2 = 0
      · subst h2
        go_upto_region 9 with fail
        go_quiet (fail)
        go_wp2
        exact bodyPost_ret (v := .tuple #[.int .i64 e1, .int .i64 (p.tmod 65536), .int .i64 0]) (by unfold results; go_simp) rfl ⟨⟨_, rfl⟩, HX.out.trans (Ext.refl _).drewN⟩
      · have b2 : (e2 != 0) = true := by rw [bne_iff_ne]; exact h2
        have q2 : (e2 == 0) = false := by rw [beq_eq_false_iff_ne]; exact h2
        have e10 : e1 = 0 := HE0.out h2
        subst e10
        go_wp2
        exact bodyPost_ret (v := .tuple #[.int .i64 0, .int .i64 0, .int .i64 e2]) (by unfold results; go_simp) rfl ⟨⟨0, rfl⟩, HX.out⟩

abbrev facO (x : Fac) : Obj := .cells #[.int .i64 x.i, .int .i64 x.f, .bool x.minus] 119
abbrev Fac.val (x : Fac) : Value := .agg #[.int .i64 x.i, .int .i64 x.f, .bool x.minus]
set_option maxRecDepth 100000 in
set_option maxHeartbeats 4000000 in
theorem ntimes_any (b : Nat) (x : Fac) (v : Int) (w : World) : Calls Try.prog 78 #[.pointer (some ⟨b, 0, none⟩), x.val, .int .i64 v] w fun e w' => e = .returned (.tuple #[.int .i64 (timesM x v).1, .int .i64 (timesM x v).2]) ∧ Ext w w' := by
  obtain ⟨xi, xf, xm⟩ := x
  obtain ⟨R, hR⟩ : ∃ R, timesM ⟨xi, xf, xm⟩ v = R := ⟨_, rfl⟩
  rw [hR]
  unfold timesM at hR
  simp only at hR
  have HR := Lib.hid hR
  have HX := Lib.hid ((Ext.refl w).alloc (o := facO ⟨xi, xf, xm⟩))
  by_cases hv : v = 0
  · rw [if_pos hv] at hR
    subst hv
    subst hR
    clear HR
    go_enter Try.func78, Try.ntmps78
    go_wp2
    exact bodyPost_ret (v := .tuple #[.int .i64 0, .int .i64 0]) (by unfold results; go_simp) rfl ⟨rfl, HX.out⟩
  · rw [if_neg hv] at hR
    have q0 : (v == 0) = false := by rw [beq_eq_false_iff_ne]; exact hv
    by_cases h1 : 2147483647 < xi
    · rw [if_pos h1] at hR
      subst hR
      clear HR
      go_enter Try.func78, Try.ntmps78
      go_wp2
      exact bodyPost_ret (v := .tuple #[.int .i64 0, .int .i64 20]) (by unfold results; go_simp) rfl ⟨rfl, HX.out⟩
    · rw [if_neg h1] at hR
      have HF := Lib.hid (fun w => frac_any v xf w)
      have HFD := Lib.hid (show (fracM v xf).2 = 0 → -2147483647 ≤ v ∧ v ≤ 2147483647 from fun h => by
        unfold fracM at h
        split at h
        · simp at h
        · rename_i hne
          simp only [not_or, Bool.not_eq_true] at hne
          have := hne.1
          simp only [farB, Bool.or_eq_false_iff, decide_eq_false_iff_not] at this
          omega)
      obtain ⟨⟨f1, f2⟩, hf⟩ : ∃ f, fracM v xf = f := ⟨_, rfl⟩
      rw [hf] at hR HF HFD
      simp only at hR
      have HR2 := Lib.hid hR
      clear hR hf HR
      have hs := (Sat.start w).alloc (facO ⟨xi, xf, xm⟩)
      obtain ⟨w1, hw1⟩ : ∃ w1, w.alloc (facO ⟨xi, xf, xm⟩) = w1 := ⟨_, rfl⟩
      obtain ⟨bk, hbk⟩ : ∃ bk, w.heap.size = bk := ⟨_, rfl⟩
      rw [hw1, hbk] at hs
      rw [hw1] at HX
      have d0 := hs.cell (i := 0) rfl
      have d1 := hs.cell (i := 1) rfl
      have d2 := hs.cell (i := 2) rfl
      have HW1 := Lib.hid hw1
      clear hs hw1
      go_enter Try.func78, Try.ntmps78
      go_upto_region 1 with fail
      rw [HW1.out]
      clear HW1
      go_wp2_with fail
      with_reducible refine Calls.mono (HF.out _) ?_
      rintro e w2 ⟨z, rfl, hex⟩
      have HX2 := Lib.hid (HX.out.trans hex)
      have e0 := hex.cell d0
      have e1 := hex.cell d1
      have e2 := hex.cell d2
      clear hex HX HF d0 d1 d2
      by_cases h2 : f2 = 0
      · subst h2
        have hb := HFD.out rfl
        have hr := HR2.out
        rw [if_neg (by simp)] at hr
        have hneg : wrap64 (-v) = -v := wrap64_id _ (by omega) (by omega)
        rw [hneg] at hr
        have hmx : (if v < -v then -v else v) = maxM v (-v) := rfl
        obtain ⟨m, hm⟩ : ∃ m, maxM v (-v) = m := ⟨_, rfl⟩
        have hm1 : 1 ≤ m := by rw [← hm]; unfold maxM; split <;> omega
        rw [hm] at hr hmx
        have hq : wrap64 ((1099511627776 : Int).tdiv m) = (1099511627776 : Int).tdiv m := wrap64_tdiv _ _ (by omega) (by omega)
        have hneg2 : IntKind.i64.wrap (-v) = -v := IntWalk.i64_in _ (by omega)
        have hq2 : IntKind.i64.wrap ((1099511627776 : Int).tdiv m) = (1099511627776 : Int).tdiv m := IntWalk.i64_in _ (by
          have h3 : ((1099511627776 : Int).tdiv m).natAbs ≤ (1099511627776 : Int).natAbs := by
            rw [Int.natAbs_tdiv]
            exact Nat.div_le_self _ _
          omega)
        have bv : (v != 0) = true := by rw [bne_iff_ne]; exact hv
        have qm : (m == 0) = false := by rw [beq_eq_false_iff_ne]; omega
        have nm : ¬ m = 0 := by omega
        have HR3 := Lib.hid hr
        clear hr HR2 HFD hm
        go_upto_region 8 with fail
        obtain ⟨W9, hW9⟩ : ∃ W9, w2.drew = W9 := ⟨_, rfl⟩
        have k0 := (show w2.drew.cell? _ = _ from e0)
        have k1 := (show w2.drew.cell? _ = _ from e1)
        have k2 := (show w2.drew.cell? _ = _ from e2)
        have hx9 := HX2.out.trans ((Ext.refl w2).drewN (n := 1))
        rw [hW9] at k0 k1 k2
        rw [show w2.drewN 1 = W9 from hW9] at hx9
        have HX9 := Lib.hid hx9
        clear e0 e1 e2 hx9 HX2
        refine wp_region_tail (fun w' => w' = W9) 11 (by kernel_rfl) (by kernel_rfl) hW9 ?_
        clear hW9
        simp only [List.take_succ_cons, List.take_zero, List.drop_succ_cons, List.drop_zero]
        iterate 11
          with_reducible refine wpQuiet_step ?_
          intro K hK
          go_simp
          first
            | (with_reducible refine hK _ ?_
               clear hK K)
            | (rw [if_neg (by intro h; cases h)]
               with_reducible refine hK _ ?_
               clear hK K)
            | (refine Exists.intro _ ⟨fun w9 hw9 => ?_, ?_⟩
               rotate_left 1
               with_reducible refine hK _ ?_
               clear hK K
               rotate_left 1
               · subst hw9; go_simp; try with_reducible rfl)
        refine wpQuiet_nil ?_
        rintro w17 rfl
        obtain ⟨q, hqq⟩ : ∃ q, (1099511627776 : Int).tdiv m = q := ⟨_, rfl⟩
        rw [hqq] at hq hq2 HR3
        rw [hqq]
        by_cases h3 : q < xi
        · have hr := HR3.out
          rw [if_pos h3] at hr
          subst hr
          go_wp2
          exact bodyPost_ret (v := .tuple #[.int .i64 0, .int .i64 20]) (by unfold results; go_simp) rfl ⟨rfl, HX9.out⟩
        · have hr := HR3.out
          rw [if_neg h3] at hr
          have HR4 := Lib.hid hr
          clear hr HR3
          obtain ⟨y, hy⟩ : ∃ y, wrap64 (wrap64 (xi * v) + f1) = y := ⟨_, rfl⟩
          rw [hy] at HR4
          go_wp2_with fail
          with_reducible refine Calls.mono (turned_any _ _ _) ?_
          rintro e w18 ⟨rfl, rfl⟩
          go_wp2_with fail
          with_reducible refine Calls.mono (dim_any _ _) ?_
          rintro e w19 ⟨rfl, rfl⟩
          rw [HR4.out]
          go_wp2
          exact bodyPost_ret (v := .tuple #[.int .i64 R.1, .int .i64 R.2]) (by unfold results; go_simp) rfl ⟨rfl, HX9.out⟩
      · have b2 : (f2 != 0) = true := by rw [bne_iff_ne]; exact h2
        have q2 : (f2 == 0) = false := by rw [beq_eq_false_iff_ne]; exact h2
        have hr := HR2.out
        rw [if_pos h2] at hr
        subst hr
        go_wp2
        exact bodyPost_ret (v := .tuple #[.int .i64 0, .int .i64 20]) (by unfold results; go_simp) rfl ⟨rfl, HX2.out⟩

end Go.Proofs.Yticljfpippbkkaa

/-
  A factor of a unit. Conditions: those that each theorem names.
-/
namespace Go.Proofs.Yticljfpippbkkaa
open Go.RowKit Go.Sp
variable {W w w' : World} {A : HProp} {bx bs bt N : Nat} {L : List Tok} {S : TabS}

theorem tdiv_rng {p d : Int} (hd : 1 ≤ d) (h1 : -9223372036854775808 ≤ p) (h2 : p ≤ 9223372036854775807) : -9223372036854775808 ≤ p.tdiv d ∧ p.tdiv d ≤ 9223372036854775807 := by
  rcases Int.le_total 0 p with h | h
  · rw [Int.tdiv_eq_ediv_of_nonneg h]
    have h3 := Int.ediv_nonneg h (show 0 ≤ d by omega)
    have h4 := Int.ediv_le_self d h
    omega
  · obtain ⟨q, rfl⟩ : ∃ q, p = -q := ⟨-p, by omega⟩
    rw [Int.neg_tdiv, Int.tdiv_eq_ediv_of_nonneg (by omega)]
    have h3 := Int.ediv_nonneg (show 0 ≤ q by omega) (show 0 ≤ d by omega)
    have h4 := Int.ediv_le_self d (show 0 ≤ q by omega)
    omega
theorem tmod_rng {p d : Int} (hd : 1 ≤ d) (hd2 : d ≤ 1000000) : -1000000 ≤ p.tmod d ∧ p.tmod d ≤ 1000000 := by
  rcases Int.le_total 0 p with h | h
  · have h1 := Int.tmod_lt_of_pos p (show 0 < d by omega)
    have h2 := Int.tmod_nonneg d h
    omega
  · obtain ⟨q, rfl⟩ : ∃ q, p = -q := ⟨-p, by omega⟩
    rw [Int.neg_tmod]
    have h1 := Int.tmod_lt_of_pos q (show 0 < d by omega)
    have h2 := Int.tmod_nonneg d (show 0 ≤ q by omega)
    omega
structure Rat2 where
  n : Int
  d : Int
abbrev Rat2.val (r : Rat2) : Value := .agg #[.int .i64 r.n, .int .i64 r.d]
theorem zero_rat (w : World) : (zeroValue 179).run Try.prog w = .ok (Rat2.val ⟨0, 0⟩) w := by
  simp only [Rat2.val]
  go_simp
set_option maxRecDepth 100000 in
set_option maxHeartbeats 4000000 in
theorem measured_any (b : Nat) (x : Fac) (u : List UInt8 × Int × Int) (hu : u ∈ unitsL) (w : World) : Calls Try.prog 79 #[.pointer (some ⟨b, 0, none⟩), x.val, .string ⟨u.1.toArray⟩] w fun e w' => e = .returned (.tuple #[.int .i64 (measuredM x u).1, .int .i64 (measuredM x u).2]) ∧ Ext w w' := by
  obtain ⟨xi, xf, xm⟩ := x
  obtain ⟨R, hR⟩ : ∃ R, measuredM ⟨xi, xf, xm⟩ u = R := ⟨_, rfl⟩
  rw [hR]
  unfold measuredM spM measureM at hR
  simp only at hR
  have hK : KeyT Try.prog 9 Value.string := keyT_string Try.underlying9
  by_cases h1 : 2147483647 < xi
  · have hr : R = (0, 20) := by
      rw [if_pos h1, if_pos h1] at hR
      split at hR <;> exact hR.symm
    subst hr
    have HX := Lib.hid ((Ext.refl w).alloc (o := facO ⟨xi, xf, xm⟩))
    clear hR
    go_enter Try.func79, Try.ntmps79
    go_wp2
    exact bodyPost_ret (v := .tuple #[.int .i64 0, .int .i64 20]) (by unfold results; go_simp) rfl ⟨rfl, HX.out⟩
  · rw [if_neg h1, if_neg h1] at hR
    have HR := Lib.hid hR
    have hs := (Sat.start w).alloc (facO ⟨xi, xf, xm⟩)
    obtain ⟨w1, hw1⟩ : ∃ w1, w.alloc (facO ⟨xi, xf, xm⟩) = w1 := ⟨_, rfl⟩
    obtain ⟨bk, hbk⟩ : ∃ bk, w.heap.size = bk := ⟨_, rfl⟩
    rw [hw1, hbk] at hs
    have d0 := hs.cell (i := 0) rfl
    have m0 := Sat.map_new (kE := Value.string) (vE := Rat2.val) hs
    obtain ⟨bm, hbm⟩ : ∃ bm, w1.heap.size = bm := ⟨_, rfl⟩
    obtain ⟨v0, hv0⟩ : ∃ v0, w1.alloc (.map #[] 0) = v0 := ⟨_, rfl⟩
    rw [hbm, hv0] at m0
    obtain ⟨v1, u1, m1⟩ := Sat.map_upd hK Try.underlying180 m0 ⟨#[112, 116]⟩ ⟨1, 1⟩
    obtain ⟨v2, u2, m2⟩ := Sat.map_upd hK Try.underlying180 m1 ⟨#[105, 110]⟩ ⟨7227, 100⟩
    obtain ⟨v3, u3, m3⟩ := Sat.map_upd hK Try.underlying180 m2 ⟨#[112, 99]⟩ ⟨12, 1⟩
    obtain ⟨v4, u4, m4⟩ := Sat.map_upd hK Try.underlying180 m3 ⟨#[99, 109]⟩ ⟨7227, 254⟩
    obtain ⟨v5, u5, m5⟩ := Sat.map_upd hK Try.underlying180 m4 ⟨#[109, 109]⟩ ⟨7227, 2540⟩
    obtain ⟨v6, u6, m6⟩ := Sat.map_upd hK Try.underlying180 m5 ⟨#[98, 112]⟩ ⟨7227, 7200⟩
    obtain ⟨v7, u7, m7⟩ := Sat.map_upd hK Try.underlying180 m6 ⟨#[100, 100]⟩ ⟨1238, 1157⟩
    obtain ⟨v8, u8, m8⟩ := Sat.map_upd hK Try.underlying180 m7 ⟨#[99, 99]⟩ ⟨14856, 1157⟩
    obtain ⟨F, hF⟩ : ∃ F, mput (mput (mput (mput (mput (mput (mput (mput (fun _ => none) (⟨#[112, 116]⟩ : ByteArray) (⟨1, 1⟩ : Rat2)) ⟨#[105, 110]⟩ ⟨7227, 100⟩) ⟨#[112, 99]⟩ ⟨12, 1⟩) ⟨#[99, 109]⟩ ⟨7227, 254⟩) ⟨#[109, 109]⟩ ⟨7227, 2540⟩) ⟨#[98, 112]⟩ ⟨7227, 7200⟩) ⟨#[100, 100]⟩ ⟨1238, 1157⟩) ⟨#[99, 99]⟩ ⟨14856, 1157⟩ = F := ⟨_, rfl⟩
    rw [hF] at m8
    have M8 := Lib.hid m8
    have HW1 := Lib.hid hw1
    have HU := Lib.hid (show u = ([115, 112], 0, 0) ∨ (1 ≤ u.2.2 ∧ u.2.2 ≤ 10000 ∧ F ⟨u.1.toArray⟩ = some ⟨u.2.1, u.2.2⟩ ∧ ¬ (⟨u.1.toArray⟩ : ByteArray) = ⟨#[115, 112]⟩) from by
      rw [← hF]
      simp only [unitsL, List.mem_cons, List.not_mem_nil, or_false] at hu
      rcases hu with rfl | rfl | rfl | rfl | rfl | rfl | rfl | rfl | rfl
      · right; refine ⟨by decide, by decide, by simp [mput], by simp⟩
      · right; refine ⟨by decide, by decide, by simp [mput], by simp⟩
      · right; refine ⟨by decide, by decide, by simp [mput], by simp⟩
      · right; refine ⟨by decide, by decide, by simp [mput], by simp⟩
      · right; refine ⟨by decide, by decide, by simp [mput], by simp⟩
      · right; refine ⟨by decide, by decide, by simp [mput], by simp⟩
      · right; refine ⟨by decide, by decide, by simp [mput], by simp⟩
      · right; refine ⟨by decide, by decide, by simp [mput], by simp⟩
      · left; rfl)
    clear hs m0 m1 m2 m3 m4 m5 m6 m7 m8 hw1 hF hR hu
    simp only [Rat2.val] at u1 u2 u3 u4 u5 u6 u7 u8
    have hmm := @run_makeMap Try.prog
    go_enter Try.func79, Try.ntmps79
    go_upto_region 1 with fail
    rw [HW1.out]
    clear HW1
    go_upto_region 4 with fail
    clear u1 u2 u3 u4 u5 u6 u7 u8 hv0 hmm
    obtain ⟨us, un, ud⟩ := u
    simp only at HU HR
    have k0 := M8.out.r.cell (i := 0) rfl
    have k1 := M8.out.r.cell (i := 1) rfl
    have k2 := M8.out.r.cell (i := 2) rfl
    have HX := Lib.hid M8.out.r.r.toExt
    clear d0
    rcases HU.out with hsp | ⟨hd1, hd2, hFk, hne⟩
    · simp only [Prod.mk.injEq] at hsp
      obtain ⟨rfl, rfl, rfl⟩ := hsp
      have hr := HR.out
      rw [if_pos rfl] at hr
      have HR2 := Lib.hid hr
      clear hr HR M8
      go_wp2_with fail
      with_reducible refine Calls.mono (turned_any _ _ _) ?_
      rintro e w18 ⟨rfl, rfl⟩
      go_wp2_with fail
      with_reducible refine Calls.mono (dim_any _ _) ?_
      rintro e w19 ⟨rfl, rfl⟩
      rw [HR2.out]
      go_wp2
      exact bodyPost_ret (v := .tuple #[.int .i64 R.1, .int .i64 R.2]) (by unfold results; go_simp) rfl ⟨rfl, HX.out⟩
    · have hr := HR.out
      rw [if_neg (by omega)] at hr
      have HR2 := Lib.hid hr
      have hl := Sat.map_look hK Try.underlying180 zero_rat M8.out ⟨us.toArray⟩ false
      simp only [Bool.false_eq_true, if_false, hFk, Option.map_some, Option.getD_some, Rat2.val] at hl
      have sne := str_ne [115, 112] hne
      have HD1 := Lib.hid hd1
      have HD2 := Lib.hid hd2
      have h9 := (M8.out.alloc (.cells #[.int .i64 un, .int .i64 ud] 179))
      obtain ⟨w9, hw9⟩ : ∃ w9, v8.alloc (.cells #[.int .i64 un, .int .i64 ud] 179) = w9 := ⟨_, rfl⟩
      obtain ⟨b9, hb9⟩ : ∃ b9, v8.heap.size = b9 := ⟨_, rfl⟩
      rw [hw9, hb9] at h9
      have HH9 := Lib.hid h9
      have HW9 := Lib.hid hw9
      clear hr HR M8 HX HU hFk hne hd1 hd2 h9 hw9
      generalize (⟨us.toArray⟩ : ByteArray) = key at *
      obtain ⟨p, hp⟩ : ∃ p, wrap64 (xi * un) = p := ⟨_, rfl⟩
      have hpr := wrap64_rng (xi * un)
      rw [hp] at hpr
      have hp2 : IntKind.i64.wrap (xi * un) = p := by rw [IntWalk.i64_left]; exact hp
      obtain ⟨q, hq⟩ : ∃ q, p.tdiv ud = q := ⟨_, rfl⟩
      obtain ⟨r, hr⟩ : ∃ r, p.tmod ud = r := ⟨_, rfl⟩
      have hqr := tdiv_rng HD1.out hpr.1 hpr.2
      have hrr := tmod_rng (p := p) HD1.out (Int.le_trans HD2.out (by decide))
      rw [hq] at hqr
      rw [hr] at hrr
      have hq2 : IntKind.i64.wrap q = q := IntWalk.i64_in _ (by omega)
      have hr2 : IntKind.i64.wrap r = r := IntWalk.i64_in _ (by omega)
      have ud0 : ¬ ud = 0 := by have := HD1.out; omega
      have udq : (ud == 0) = false := by rw [beq_eq_false_iff_ne]; exact ud0
      clear hpr hqr hrr
      go_upto_region 7 with fail
      rw [HW9.out]
      clear HW9 hb9 hl k0 k1 k2
      have k0 := HH9.out.r.r.cell (i := 0) rfl
      have k1 := HH9.out.r.r.cell (i := 1) rfl
      have k2 := HH9.out.r.r.cell (i := 2) rfl
      have j0 := HH9.out.cell (i := 0) rfl
      have j1 := HH9.out.cell (i := 1) rfl
      have HX := Lib.hid HH9.out.r.r.r.toExt
      go_quiet (fail)
      have hx2 := Lib.hid (HX.out.trans ((Ext.refl w9).drewN (n := nq)))
      obtain ⟨y, hy⟩ : ∃ y, wrap64 (wrap64 (un * xf) + wrap64 (65536 * r)) = y := ⟨_, rfl⟩
      have hyr := wrap64_rng (wrap64 (un * xf) + wrap64 (65536 * r))
      rw [hy] at hyr
      obtain ⟨g, hg⟩ : ∃ g, y.tdiv ud = g := ⟨_, rfl⟩
      have hgr := tdiv_rng HD1.out hyr.1 hyr.2
      rw [hg] at hgr
      have hg2 : wrap64 g = g := wrap64_id _ hgr.1 hgr.2
      obtain ⟨s, hs⟩ : ∃ s, g.tdiv 65536 = s := ⟨_, rfl⟩
      have hsr := tdiv_rng (d := 65536) (by decide) hgr.1 hgr.2
      rw [hs] at hsr
      have hs2 : wrap64 s = s := wrap64_id _ hsr.1 hsr.2
      obtain ⟨m, hm⟩ : ∃ m, g.tmod 65536 = m := ⟨_, rfl⟩
      have hmr := tmod_rng (p := g) (d := 65536) (by decide) (by decide)
      rw [hm] at hmr
      have hm2 : wrap64 m = m := wrap64_id _ (by omega) (by omega)
      have HR3 := HR2.out
      rw [hp, hr, hy, hg, hs, hm, hq] at HR3
      obtain ⟨z, hz⟩ : ∃ z, wrap64 (wrap64 (65536 * wrap64 (q + s)) + m) = z := ⟨_, rfl⟩
      rw [hz] at HR3
      have HR4 := Lib.hid HR3
      clear HR2 HR3 hyr hgr hsr hmr HX HD1 HD2 HH9
      go_wp2_with fail
      with_reducible refine Calls.mono (turned_any _ _ _) ?_
      rintro e w18 ⟨rfl, rfl⟩
      go_wp2_with fail
      with_reducible refine Calls.mono (dim_any _ _) ?_
      rintro e w19 ⟨rfl, rfl⟩
      rw [HR4.out]
      go_wp2
      exact bodyPost_ret (v := .tuple #[.int .i64 R.1, .int .i64 R.2]) (by unfold results; go_simp) rfl ⟨rfl, hx2.out⟩

end Go.Proofs.Yticljfpippbkkaa
