
/-
  Sums, products and quotients of glue, whole: some glue, some error. Conditions: those that each theorem names.
-/
import Derived.Test.YtebggkgciocciaaTabX
import Derived.Test.YtebggkgciocciaaAnyB
namespace Go.Proofs.Ytebggkgciocciaa
open Go.RowKit Go.Sp
variable {W w w' : World} {F A : HProp}


/-- facts of a block of glue -/
structure GlAt (w : World) (b : Nat) (c0 c1 c2 c3 c4 : Int) : Prop where
  a0 : w.cell? ⟨b, 0, none⟩ = some (.int .i64 c0)
  a1 : w.cell? ⟨b, 1, none⟩ = some (.int .i64 c1)
  a2 : w.cell? ⟨b, 2, none⟩ = some (.int .i64 c2)
  a3 : w.cell? ⟨b, 3, none⟩ = some (.int .i64 c3)
  a4 : w.cell? ⟨b, 4, none⟩ = some (.int .i64 c4)
  f0 : w.frozen? ⟨b, 0, none⟩ = false
  f1 : w.frozen? ⟨b, 1, none⟩ = false
  f2 : w.frozen? ⟨b, 2, none⟩ = false
  f3 : w.frozen? ⟨b, 3, none⟩ = false
  f4 : w.frozen? ⟨b, 4, none⟩ = false
  lt : b < w.heap.size
abbrev glO (c0 c1 c2 c3 c4 : Int) : Obj := .cells #[.int .i64 c0, .int .i64 c1, .int .i64 c2, .int .i64 c3, .int .i64 c4] 38
theorem glAt {b : Nat} {c0 c1 c2 c3 c4 : Int} (h : Sat W (pts b (glO c0 c1 c2 c3 c4) * A) w) : GlAt w b c0 c1 c2 c3 c4 :=
  ⟨h.cell rfl, h.cell rfl, h.cell rfl, h.cell rfl, h.cell rfl, h.free, h.free, h.free, h.free, h.free, h.lt⟩
theorem glSet {b : Nat} {c0 c1 c2 c3 c4 : Int} (h : Sat W (pts b (glO c0 c1 c2 c3 c4) * A) w) (d0 d1 d2 d3 d4 : Int) :
    Sat W (pts b (glO d0 d1 d2 d3 d4) * A) (((((w.setCell ⟨b, 0, none⟩ (.int .i64 d0)).setCell ⟨b, 1, none⟩ (.int .i64 d1)).setCell ⟨b, 2, none⟩ (.int .i64 d2)).setCell ⟨b, 3, none⟩ (.int .i64 d3)).setCell ⟨b, 4, none⟩ (.int .i64 d4)) :=
  ((((h.set (i := 0) (v := .int .i64 d0)).set (i := 1) (v := .int .i64 d1)).set (i := 2) (v := .int .i64 d2)).set (i := 3) (v := .int .i64 d3)).set (i := 4) (v := .int .i64 d4)


set_option maxRecDepth 100000 in
set_option maxHeartbeats 4000000 in
theorem plus_any (a b : Gl) (w : World) : Calls Try.prog 38 #[a.val, b.val] w fun e w' => GlueR e ∧ Ext w w' := by
  obtain ⟨a1, a2, a3, a4, a5⟩ := a
  obtain ⟨b1, b2, b3, b4, b5⟩ := b
  have hs := (((Sat.start w).alloc (glO a1 a2 a3 a4 a5)).alloc (glO b1 b2 b3 b4 b5)).alloc (glO 0 0 0 0 0)
  rw [show ((w.alloc (glO a1 a2 a3 a4 a5)).alloc (glO b1 b2 b3 b4 b5)).heap.size = w.heap.size + 1 + 1 by simp, show (w.alloc (glO a1 a2 a3 a4 a5)).heap.size = w.heap.size + 1 by simp] at hs
  obtain ⟨bz, hbz⟩ : ∃ bz, w.heap.size = bz := ⟨_, rfl⟩
  rw [hbz] at hs
  have HS := Lib.hid hs
  have HA := Lib.hid (fun w => glue_any ⟨a1, a2, a3, a4, a5⟩ w)
  have HBb := Lib.hid (fun w => glue_any ⟨b1, b2, b3, b4, b5⟩ w)
  clear hs
  generalize glueE ⟨a1, a2, a3, a4, a5⟩ = ea at *
  generalize glueE ⟨b1, b2, b3, b4, b5⟩ = eb at *
  go_enter Try.func38, Try.ntmps38
  go_wp2_with fail
  refine Calls.mono (HA.out _) ?_
  rintro e w1 ⟨rfl, hx⟩
  have H1 := Lib.hid (HS.out.ext hx)
  clear hx HS hbz HA
  obtain ⟨z0, z1, z2, z3, z4, z5, z6, z7, z8, z9, zl⟩ := glAt (H1.out)
  obtain ⟨y0, y1, y2, y3, y4, y5, y6, y7, y8, y9, yl⟩ := glAt (H1.out.r)
  obtain ⟨x0, x1, x2, x3, x4, x5, x6, x7, x8, x9, xl⟩ := glAt (H1.out.r.r)
  by_cases he : ea = 0
  · subst he
    go_wp2_with fail
    refine Calls.mono (HBb.out _) ?_
    rintro e w2 ⟨rfl, hx⟩
    have H2 := Lib.hid (H1.out.ext hx)
    clear hx H1
    clear z0 z1 z2 z3 z4 z5 z6 z7 z8 z9 zl
    clear y0 y1 y2 y3 y4 y5 y6 y7 y8 y9 yl
    clear x0 x1 x2 x3 x4 x5 x6 x7 x8 x9 xl
    obtain ⟨z0, z1, z2, z3, z4, z5, z6, z7, z8, z9, zl⟩ := glAt (H2.out)
    by_cases he : eb = 0
    · subst he
      obtain ⟨y0, y1, y2, y3, y4, y5, y6, y7, y8, y9, yl⟩ := glAt (H2.out.r)
      obtain ⟨x0, x1, x2, x3, x4, x5, x6, x7, x8, x9, xl⟩ := glAt (H2.out.r.r)
      go_wp2_with fail
      refine Calls.mono (joined_any _ _ _ _ _) ?_
      rintro e w' ⟨⟨s1, s2, rfl⟩, rfl⟩
      go_wp2_with fail
      refine Calls.mono (joined_any _ _ _ _ _) ?_
      rintro e w' ⟨⟨s3, s4, rfl⟩, rfl⟩
      have H3 := Lib.hid (H2.out.alloc (glO (wrap64 (a1 + b1)) s1 s3 s2 s4))
      clear z0 z1 z2 z3 z4 z5 z6 z7 z8 z9 zl
      clear y0 y1 y2 y3 y4 y5 y6 y7 y8 y9 yl
      clear x0 x1 x2 x3 x4 x5 x6 x7 x8 x9 xl
      go_wp2_with fail
      refine Calls.mono (tidy_any ⟨_, _, _, _, _⟩ _) ?_
      rintro e w4 ⟨⟨⟨t1, t2, t3, t4, t5⟩, er, rfl⟩, hx⟩
      have H4 := Lib.hid (H3.out.ext hx)
      clear hx H3
      obtain ⟨z0, z1, z2, z3, z4, z5, z6, z7, z8, z9, zl⟩ := glAt (H4.out.r)
      have HZ := Lib.hid (glSet (H4.out.r) t1 t2 t3 t4 t5)
      go_wp2
      (try simp only [Exit.inBlock, Exit.then])
      refine bodyPost_ret (v := .tuple #[.agg #[.int .i64 t1, .int .i64 t2, .int .i64 t3, .int .i64 t4, .int .i64 t5], .int .i64 er]) ?rh rfl ⟨GlueR.mk _ _ _ _ _ _, HZ.out.r.r.r.toExt⟩
      case rh => unfold results; go_simp
    · have q1 : (eb == 0) = false := by rw [beq_eq_false_iff_ne]; exact he
      have HZ := Lib.hid (glSet H2.out 0 0 0 0 0)
      clear he HBb
      go_wp2
      (try simp only [Exit.inBlock, Exit.then])
      refine bodyPost_ret (v := .tuple #[.agg #[.int .i64 0, .int .i64 0, .int .i64 0, .int .i64 0, .int .i64 0], .int .i64 30]) ?rh rfl ⟨GlueR.mk _ _ _ _ _ _, HZ.out.r.r.r.toExt⟩
      case rh => unfold results; go_simp
  · have q1 : (ea == 0) = false := by rw [beq_eq_false_iff_ne]; exact he
    have q2 : (ea != 0) = true := by rw [bne_iff_ne]; exact he
    have HZ := Lib.hid (glSet H1.out 0 0 0 0 0)
    clear he HBb
    go_wp2
    (try simp only [Exit.inBlock, Exit.then])
    refine bodyPost_ret (v := .tuple #[.agg #[.int .i64 0, .int .i64 0, .int .i64 0, .int .i64 0, .int .i64 0], .int .i64 30]) ?rh rfl ⟨GlueR.mk _ _ _ _ _ _, HZ.out.r.r.r.toExt⟩
    case rh => unfold results; go_simp

set_option maxRecDepth 100000 in
set_option maxHeartbeats 4000000 in
theorem over_any (a : Gl) (n : Int) (w : World) : Calls Try.prog 43 #[a.val, .int .i64 n] w fun e w' => GlueR e ∧ Ext w w' := by
  obtain ⟨a1, a2, a3, a4, a5⟩ := a
  have hs := ((Sat.start w).alloc (glO a1 a2 a3 a4 a5)).alloc (glO 0 0 0 0 0)
  rw [show (w.alloc (glO a1 a2 a3 a4 a5)).heap.size = w.heap.size + 1 by simp] at hs
  obtain ⟨bz, hbz⟩ : ∃ bz, w.heap.size = bz := ⟨_, rfl⟩
  rw [hbz] at hs
  have HS := Lib.hid hs
  have HA := Lib.hid (fun w => glue_any ⟨a1, a2, a3, a4, a5⟩ w)
  clear hs
  generalize glueE ⟨a1, a2, a3, a4, a5⟩ = ea at *
  go_enter Try.func43, Try.ntmps43
  go_wp2_with fail
  refine Calls.mono (HA.out _) ?_
  rintro e w1 ⟨rfl, hx⟩
  have H1 := Lib.hid (HS.out.ext hx)
  clear hx HS hbz HA
  obtain ⟨z0, z1, z2, z3, z4, z5, z6, z7, z8, z9, zl⟩ := glAt (H1.out)
  obtain ⟨x0, x1, x2, x3, x4, x5, x6, x7, x8, x9, xl⟩ := glAt (H1.out.r)
  by_cases he : ea = 0
  · subst he
    by_cases hn : n = 0
    · subst hn
      have HZ := Lib.hid (glSet H1.out 0 0 0 0 0)
      go_wp2
      (try simp only [Exit.inBlock, Exit.then])
      refine bodyPost_ret (v := .tuple #[.agg #[.int .i64 0, .int .i64 0, .int .i64 0, .int .i64 0, .int .i64 0], .int .i64 20]) ?rh rfl ⟨GlueR.mk _ _ _ _ _ _, HZ.out.r.r.toExt⟩
      case rh => unfold results; go_simp
    · have q1 : (n == 0) = false := by rw [beq_eq_false_iff_ne]; exact hn
      go_upto_region 5 with fail
      clear z0 z1 z2 z3 z4 z5 z6 z7 z8 z9 zl
      clear x0 x1 x2 x3 x4 x5 x6 x7 x8 x9 xl
      have H2 := Lib.hid H1.out.drew
      clear H1
      refine wp_region_B 13 (fun w' => ∃ X, Sat w (pts bz (glO a1 a2 a3 a4 a5) * X) w') (by kernel_rfl) ?_
      generalize w1.drew = W2 at *
      refine wpB_pure (i := 0) (v := ?_) rfl (by kernel_rfl) (by kernel_rfl) (by kernel_rfl) (by decide) (fun _ _ _ h => h) (by rfl) ?_ ?_
      rotate_left 1
      · intro w; go_simp; try with_reducible rfl
      refine wpB_take (i := 1) (v := ?_) rfl (by kernel_rfl) (by kernel_rfl) (by kernel_rfl) (by kernel_rfl) (by decide) (by kernel_rfl) (fun _ _ _ h => h) (by rfl) ?_ ?_
      rotate_left 1
      · intro w hw; (obtain ⟨X, hw⟩ := hw; obtain ⟨x0, x1, x2, x3, x4, -, -, -, -, -, xl⟩ := glAt hw; go_simp; try with_reducible rfl)
      refine wpB_pure (i := 2) (v := ?_) rfl (by kernel_rfl) (by kernel_rfl) (by kernel_rfl) (by decide) (fun _ _ _ h => h) (by rfl) ?_ ?_
      rotate_left 1
      · intro w; go_simp; try with_reducible rfl
      refine wpB_pure (i := 3) (v := ?_) rfl (by kernel_rfl) (by kernel_rfl) (by kernel_rfl) (by decide) (fun _ _ _ h => h) (by rfl) ?_ ?_
      rotate_left 1
      · intro w; go_simp; try with_reducible rfl
      refine wpB_pure (i := 4) (v := ?_) rfl (by kernel_rfl) (by kernel_rfl) (by kernel_rfl) (by decide) (fun _ _ _ h => h) (by rfl) ?_ ?_
      rotate_left 1
      · intro w; go_simp; try with_reducible rfl
      refine wpB_take (i := 5) (v := ?_) rfl (by kernel_rfl) (by kernel_rfl) (by kernel_rfl) (by kernel_rfl) (by decide) (by kernel_rfl) (fun _ _ _ h => h) (by rfl) ?_ ?_
      rotate_left 1
      · intro w hw; (obtain ⟨X, hw⟩ := hw; obtain ⟨x0, x1, x2, x3, x4, -, -, -, -, -, xl⟩ := glAt hw; go_simp; try with_reducible rfl)
      refine wpB_pure (i := 6) (v := ?_) rfl (by kernel_rfl) (by kernel_rfl) (by kernel_rfl) (by decide) (fun _ _ _ h => h) (by rfl) ?_ ?_
      rotate_left 1
      · intro w; go_simp; try with_reducible rfl
      refine wpB_pure (i := 7) (v := ?_) rfl (by kernel_rfl) (by kernel_rfl) (by kernel_rfl) (by decide) (fun _ _ _ h => h) (by rfl) ?_ ?_
      rotate_left 1
      · intro w; go_simp; try with_reducible rfl
      refine wpB_pure (i := 8) (v := ?_) rfl (by kernel_rfl) (by kernel_rfl) (by kernel_rfl) (by decide) (fun _ _ _ h => h) (by rfl) ?_ ?_
      rotate_left 1
      · intro w; go_simp; try with_reducible rfl
      refine wpB_take (i := 9) (v := ?_) rfl (by kernel_rfl) (by kernel_rfl) (by kernel_rfl) (by kernel_rfl) (by decide) (by kernel_rfl) (fun _ _ _ h => h) (by rfl) ?_ ?_
      rotate_left 1
      · intro w hw; (obtain ⟨X, hw⟩ := hw; obtain ⟨x0, x1, x2, x3, x4, -, -, -, -, -, xl⟩ := glAt hw; go_simp; try with_reducible rfl)
      refine wpB_pure (i := 10) (v := ?_) rfl (by kernel_rfl) (by kernel_rfl) (by kernel_rfl) (by decide) (fun _ _ _ h => h) (by rfl) ?_ ?_
      rotate_left 1
      · intro w; go_simp; try with_reducible rfl
      refine wpB_pure (i := 11) (v := ?_) rfl (by kernel_rfl) (by kernel_rfl) (by kernel_rfl) (by decide) (fun _ _ _ h => h) (by rfl) ?_ ?_
      rotate_left 1
      · intro w; go_simp; try with_reducible rfl
      refine wpB_pure (i := 12) (v := ?_) rfl (by kernel_rfl) (by kernel_rfl) (by kernel_rfl) (by decide) (fun _ _ _ h => h) (by rfl) ?_ ?_
      rotate_left 1
      · intro w; go_simp; try with_reducible rfl
      obtain ⟨x0, x1, x2, x3, x4, x5, x6, x7, x8, x9, xl⟩ := glAt (H2.out.r)
      refine wpB_one (i := 13) rfl (by kernel_rfl) (.inl ⟨_, H2.out.r⟩) (fun K hK => ?_)
      go_simp
      refine hK _ _ ?_
      clear hK K
      refine wpB_pure (i := 14) (v := ?_) rfl (by kernel_rfl) (by kernel_rfl) (by kernel_rfl) (by decide) (fun _ _ _ h => h) (by rfl) ?_ ?_
      rotate_left 1
      · intro w; go_simp; try with_reducible rfl
      refine wpB_one (i := 15) rfl (by kernel_rfl) (.inr (by kernel_rfl)) (fun K hK => ?_)
      go_simp
      refine hK _ _ ?_
      clear hK K
      refine wpB_pure (i := 16) (v := ?_) rfl (by kernel_rfl) (by kernel_rfl) (by kernel_rfl) (by decide) (fun _ _ _ h => h) (by rfl) ?_ ?_
      rotate_left 1
      · intro w; go_simp; try with_reducible rfl
      refine wpB_one (i := 17) rfl (by kernel_rfl) (.inr (by kernel_rfl)) (fun K hK => ?_)
      go_simp
      refine hK _ _ ?_
      clear hK K
      refine wpB_done (by kernel_rfl) (by kernel_rfl) ?_
      have H3 := Lib.hid (((H2.out.rot.set (i := 0) (v := .int .i64 (IntKind.i64.wrap (a1.tdiv n)))).set (i := 1) (v := .int .i64 (IntKind.i64.wrap (a2.tdiv n)))).set (i := 2) (v := .int .i64 (IntKind.i64.wrap (a3.tdiv n))))
      clear x0 x1 x2 x3 x4 x5 x6 x7 x8 x9 xl
      generalize IntKind.i64.wrap (a1.tdiv n) = c1 at *
      generalize IntKind.i64.wrap (a2.tdiv n) = c2 at *
      generalize IntKind.i64.wrap (a3.tdiv n) = c3 at *
      have H4 := Lib.hid (show Sat w (pts bz (glO c1 c2 c3 a4 a5) * _) _ from H3.out)
      generalize ((W2.setCell ⟨bz, 0, none⟩ (.int .i64 c1)).setCell ⟨bz, 1, none⟩ (.int .i64 c2)).setCell ⟨bz, 2, none⟩ (.int .i64 c3) = W3 at *
      clear H3 H2
      obtain ⟨x0, x1, x2, x3, x4, x5, x6, x7, x8, x9, xl⟩ := glAt (H4.out)
      go_wp2_with fail
      refine Calls.mono (tidy_any ⟨_, _, _, _, _⟩ _) ?_
      rintro e w4 ⟨⟨⟨t1, t2, t3, t4, t5⟩, er, rfl⟩, hx⟩
      have H5 := Lib.hid ((H4.out.ext hx).rot)
      clear hx H4
      clear x0 x1 x2 x3 x4 x5 x6 x7 x8 x9 xl
      obtain ⟨z0, z1, z2, z3, z4, z5, z6, z7, z8, z9, zl⟩ := glAt (H5.out)
      have HZ := Lib.hid (glSet (H5.out) t1 t2 t3 t4 t5)
      go_wp2
      (try simp only [Exit.inBlock, Exit.then])
      refine bodyPost_ret (v := .tuple #[.agg #[.int .i64 t1, .int .i64 t2, .int .i64 t3, .int .i64 t4, .int .i64 t5], .int .i64 er]) ?rh rfl ⟨GlueR.mk _ _ _ _ _ _, HZ.out.r.r.toExt⟩
      case rh => unfold results; go_simp
  · have q1 : (ea == 0) = false := by rw [beq_eq_false_iff_ne]; exact he
    have q2 : (ea != 0) = true := by rw [bne_iff_ne]; exact he
    have HZ := Lib.hid (glSet H1.out 0 0 0 0 0)
    clear he
    go_wp2
    (try simp only [Exit.inBlock, Exit.then])
    refine bodyPost_ret (v := .tuple #[.agg #[.int .i64 0, .int .i64 0, .int .i64 0, .int .i64 0, .int .i64 0], .int .i64 30]) ?rh rfl ⟨GlueR.mk _ _ _ _ _ _, HZ.out.r.r.toExt⟩
    case rh => unfold results; go_simp

set_option maxRecDepth 100000 in
theorem run_neq3 (a b c : Bool) (w : World) : (binOp .neq 94 (.agg #[.bool a, .bool b, .bool c]) (.agg #[.bool true, .bool true, .bool true])).run Try.prog w = .ok (.bool (!(a && (b && c)))) w := by
  cases a <;> cases b <;> cases c <;> kernel_rfl

set_option maxRecDepth 100000 in
set_option maxHeartbeats 4000000 in
theorem timesG_any (a : Gl) (n : Int) (w : World) : Calls Try.prog 41 #[a.val, .int .i64 n] w fun e w' => GlueR e ∧ Ext w w' := by
  obtain ⟨a1, a2, a3, a4, a5⟩ := a
  have hs := ((Sat.start w).alloc (glO a1 a2 a3 a4 a5)).alloc (glO 0 0 0 0 0)
  rw [show (w.alloc (glO a1 a2 a3 a4 a5)).heap.size = w.heap.size + 1 by simp] at hs
  obtain ⟨bz, hbz⟩ : ∃ bz, w.heap.size = bz := ⟨_, rfl⟩
  rw [hbz] at hs
  have HS := Lib.hid hs
  have HA := Lib.hid (fun w => glue_any ⟨a1, a2, a3, a4, a5⟩ w)
  clear hs
  generalize glueE ⟨a1, a2, a3, a4, a5⟩ = ea at *
  go_enter Try.func41, Try.ntmps41
  go_wp2_with fail
  refine Calls.mono (HA.out _) ?_
  rintro e w1 ⟨rfl, hx⟩
  have H1 := Lib.hid (HS.out.ext hx)
  clear hx HS hbz HA
  obtain ⟨z0, z1, z2, z3, z4, z5, z6, z7, z8, z9, zl⟩ := glAt (H1.out)
  obtain ⟨x0, x1, x2, x3, x4, x5, x6, x7, x8, x9, xl⟩ := glAt (H1.out.r)
  by_cases he : ea = 0
  · subst he
    go_wp2_with fail
    refine Calls.mono (times_any _ _ _) ?_
    rintro e w' ⟨⟨s1, o1, rfl⟩, rfl⟩
    have h2 := H1.out.alloc (.cells #[.bool false, .bool false, .bool false] 94)
    obtain ⟨bw, hbw⟩ : ∃ bw, w1.heap.size = bw := ⟨_, rfl⟩
    rw [hbw] at h2
    rw [hbw]
    have H2 := Lib.hid h2
    generalize w1.alloc (.cells #[.bool false, .bool false, .bool false] 94) = W2 at *
    clear H1 h2 hbw
    clear z0 z1 z2 z3 z4 z5 z6 z7 z8 z9 zl
    clear x0 x1 x2 x3 x4 x5 x6 x7 x8 x9 xl
    have k0 := H2.out.cell (i := 0) rfl
    have k1 := H2.out.cell (i := 1) rfl
    have k2 := H2.out.cell (i := 2) rfl
    have j0 := H2.out.free (i := 0)
    have j1 := H2.out.free (i := 1)
    have j2 := H2.out.free (i := 2)
    have lk := H2.out.lt
    have nk := H2.out.r.ne
    obtain ⟨z0, z1, z2, z3, z4, z5, z6, z7, z8, z9, zl⟩ := glAt (H2.out.r)
    obtain ⟨x0, x1, x2, x3, x4, x5, x6, x7, x8, x9, xl⟩ := glAt (H2.out.r.r)
    have hne1 : bw ≠ bz := (H2.out.of_eq (show _ = pts bw _ * (pts bz (glO a1 a2 a3 a4 a5) * (pts (bz + 1) (glO 0 0 0 0 0) * own w)) by ac_rfl)).ne
    have hne2 := hne1.symm
    go_wp2_with fail
    refine Calls.mono (times_any _ _ _) ?_
    rintro e w' ⟨⟨s2, o2, rfl⟩, rfl⟩
    go_wp2_with fail
    refine Calls.mono (times_any _ _ _) ?_
    rintro e w' ⟨⟨s3, o3, rfl⟩, rfl⟩
    have H3 := Lib.hid (((((((H2.out.of_eq (show _ = pts bz (glO a1 a2 a3 a4 a5) * (pts bw (.cells #[.bool false, .bool false, .bool false] 94) * (pts (bz + 1) (glO 0 0 0 0 0) * own w)) by ac_rfl)).set (i := 0) (v := .int .i64 s1)).rot.set (i := 0) (v := .bool o1)).rot.set (i := 1) (v := .int .i64 s2)).rot.set (i := 1) (v := .bool o2)).rot.set (i := 2) (v := .int .i64 s3)).rot.set (i := 2) (v := .bool o3))
    have H4 := Lib.hid (show Sat w (pts bw (.cells #[.bool o1, .bool o2, .bool o3] 94) * (pts bz (glO s1 s2 s3 a4 a5) * (pts (bz + 1) (glO 0 0 0 0 0) * own w))) _ from H3.out)
    clear H3
    go_upto_region 7 with fail
    generalize (((((W2.setCell ⟨bz, 0, none⟩ (.int .i64 s1)).setCell ⟨bw, 0, none⟩ (.bool o1)).setCell ⟨bz, 1, none⟩ (.int .i64 s2)).setCell ⟨bw, 1, none⟩ (.bool o2)).setCell ⟨bz, 2, none⟩ (.int .i64 s3)).setCell ⟨bw, 2, none⟩ (.bool o3) = W3 at *
    clear H2 k0 k1 k2 j0 j1 j2 lk
    clear z0 z1 z2 z3 z4 z5 z6 z7 z8 z9 zl
    clear x0 x1 x2 x3 x4 x5 x6 x7 x8 x9 xl
    have k0 := H4.out.cell (i := 0) rfl
    have k1 := H4.out.cell (i := 1) rfl
    have k2 := H4.out.cell (i := 2) rfl
    have lk := H4.out.lt
    obtain ⟨x0, x1, x2, x3, x4, x5, x6, x7, x8, x9, xl⟩ := glAt (H4.out.r)
    obtain ⟨z0, z1, z2, z3, z4, z5, z6, z7, z8, z9, zl⟩ := glAt (H4.out.r.r)
    have HZ0 := Lib.hid (glSet H4.out.r.r 0 0 0 0 0)
    have hneq := fun w => run_neq3 o1 o2 o3 w
    rcases o1 with _ | _
    · skip
      go_wp2
      (try simp only [Exit.inBlock, Exit.then])
      refine bodyPost_ret (v := .tuple #[.agg #[.int .i64 0, .int .i64 0, .int .i64 0, .int .i64 0, .int .i64 0], .int .i64 20]) ?rh rfl ⟨GlueR.mk _ _ _ _ _ _, HZ0.out.r.toExt⟩
      case rh => unfold results; go_simp
    · rcases o2 with _ | _
      · skip
        go_wp2
        (try simp only [Exit.inBlock, Exit.then])
        refine bodyPost_ret (v := .tuple #[.agg #[.int .i64 0, .int .i64 0, .int .i64 0, .int .i64 0, .int .i64 0], .int .i64 20]) ?rh rfl ⟨GlueR.mk _ _ _ _ _ _, HZ0.out.r.toExt⟩
        case rh => unfold results; go_simp
      · rcases o3 with _ | _
        · skip
          go_wp2
          (try simp only [Exit.inBlock, Exit.then])
          refine bodyPost_ret (v := .tuple #[.agg #[.int .i64 0, .int .i64 0, .int .i64 0, .int .i64 0, .int .i64 0], .int .i64 20]) ?rh rfl ⟨GlueR.mk _ _ _ _ _ _, HZ0.out.r.toExt⟩
          case rh => unfold results; go_simp
        · clear HZ0
          go_wp2_with fail
          refine Calls.mono (tidy_any ⟨_, _, _, _, _⟩ _) ?_
          rintro e w4 ⟨⟨⟨t1, t2, t3, t4, t5⟩, er, rfl⟩, hx⟩
          have H5 := Lib.hid ((H4.out.ext hx).r.r)
          clear hx H4 k0 k1 k2 lk
          clear x0 x1 x2 x3 x4 x5 x6 x7 x8 x9 xl
          clear z0 z1 z2 z3 z4 z5 z6 z7 z8 z9 zl
          obtain ⟨z0, z1, z2, z3, z4, z5, z6, z7, z8, z9, zl⟩ := glAt (H5.out)
          have HZ := Lib.hid (glSet (H5.out) t1 t2 t3 t4 t5)
          go_wp2
          (try simp only [Exit.inBlock, Exit.then])
          refine bodyPost_ret (v := .tuple #[.agg #[.int .i64 t1, .int .i64 t2, .int .i64 t3, .int .i64 t4, .int .i64 t5], .int .i64 er]) ?rh rfl ⟨GlueR.mk _ _ _ _ _ _, HZ.out.r.toExt⟩
          case rh => unfold results; go_simp
  · have q1 : (ea == 0) = false := by rw [beq_eq_false_iff_ne]; exact he
    have q2 : (ea != 0) = true := by rw [bne_iff_ne]; exact he
    have HZ := Lib.hid (glSet H1.out 0 0 0 0 0)
    clear he
    go_wp2
    (try simp only [Exit.inBlock, Exit.then])
    refine bodyPost_ret (v := .tuple #[.agg #[.int .i64 0, .int .i64 0, .int .i64 0, .int .i64 0, .int .i64 0], .int .i64 30]) ?rh rfl ⟨GlueR.mk _ _ _ _ _ _, HZ.out.r.r.toExt⟩
    case rh => unfold results; go_simp

end Go.Proofs.Ytebggkgciocciaa
