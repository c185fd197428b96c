/-
  A machine's next mark. Conditions: those that each theorem names.
-/
import Derived.Test.YtigjfbbgbiajbaaLgI
namespace Go.Proofs.Ytigjfbbgbiajbaa
open Go.RowKit Go.Sp
variable {w W : World} {x : FV} {F : Fnt} {A : HProp}

theorem set5 (a0 a1 a2 a3 a4 b0 b1 b2 b3 b4 : Value) : (((((#[a0, a1, a2, a3, a4] : Array Value).setIfInBounds 0 b0).setIfInBounds 1 b1).setIfInBounds 2 b2).setIfInBounds 3 b3).setIfInBounds 4 b4 = #[b0, b1, b2, b3, b4] := rfl
theorem sat_set5 {b : Nat} {e : TypeId} {f : Nat × Nat} {a0 a1 a2 a3 a4 : Value} (h : Sat W (pts b (.cells #[a0, a1, a2, a3, a4] e f) * A) w) (b0 b1 b2 b3 b4 : Value) :
    Sat W (pts b (.cells #[b0, b1, b2, b3, b4] e f) * A) (((((w.setCell ⟨b, 0, none⟩ b0).setCell ⟨b, 1, none⟩ b1).setCell ⟨b, 2, none⟩ b2).setCell ⟨b, 3, none⟩ b3).setCell ⟨b, 4, none⟩ b4) := by
  have h2 := ((((h.set (i := 0) (v := b0)).set (i := 1) (v := b1)).set (i := 2) (v := b2)).set (i := 3) (v := b3)).set (i := 4) (v := b4)
  rw [set5] at h2
  exact h2
theorem rowK_last {v : Value} {T : List Mk} {m : Mk} (h : Sat W (rowK v (T ++ [m]) * A) w) : ∃ g cap, v = .slice (some ⟨g, 0, none⟩) (T.length + 1) cap ∧ T.length + 1 ≤ cap ∧ cap ≤ maxLen ∧ g < w.heap.size ∧
    w.cell? ⟨g, T.length * 5, none⟩ = some (.int .i64 m.c) ∧ w.cell? ⟨g, T.length * 5 + 1, none⟩ = some (.int .i64 m.n) ∧ w.cell? ⟨g, T.length * 5 + 2, none⟩ = some (.bool m.made) ∧ w.cell? ⟨g, T.length * 5 + 3, none⟩ = some (.int .i64 m.kern) ∧ w.cell? ⟨g, T.length * 5 + 4, none⟩ = some (.bool m.space) := by
  have hrd := rowK_rd h
  unfold rowK at h
  obtain ⟨-, h2⟩ := h.row_cases
  rcases h2 with ⟨rfl, h0, -⟩ | ⟨g, cap, cur, rfl, h3, h4, h5, h6, h7⟩
  · simp at h0
  · rw [List.length_append, List.length_singleton] at h3 hrd ⊢
    refine ⟨g, cap, rfl, h3, h4, h7.lt, ?_⟩
    have hl : T.length < (T ++ [m]).length := by simp
    obtain ⟨b, off, e, hc, -⟩ := hrd.at mk_len (by omega) hl
    simp only [Option.some.injEq, Addr.mk.injEq, and_true] at e
    obtain ⟨rfl, rfl⟩ := e
    have hm : (T ++ [m])[T.length] = m := by simp
    rw [hm] at hc
    obtain ⟨e0, e1, e2, e3, e4⟩ := MkAt.mk' hc
    rw [Nat.zero_add] at e0 e1 e2 e3 e4
    exact ⟨e0, e1, e2, e3, e4⟩
theorem rowK_cut {g cap : Nat} {T : List Mk} {m : Mk} (h : Sat W (rowK (.slice (some ⟨g, 0, none⟩) (T.length + 1) cap) (T ++ [m]) * A) w) : Sat W (rowK (.slice (some ⟨g, 0, none⟩) T.length cap) T * A) w := by
  unfold rowK at h ⊢
  rw [List.length_append, List.length_singleton] at h
  have h2 := h.row_take (m := T.length) (by omega)
  rw [show ((T ++ [m]).flatMap Mk.cells).take (T.length * 5) = T.flatMap Mk.cells by
    rw [← flatMap_take mk_len, List.take_append_of_le_length (Nat.le_refl _), List.take_length]] at h2
  exact h2
set_option maxRecDepth 100000 in
set_option maxHeartbeats 4000000 in
theorem nextV_any {b : Nat} {dv : Value} {D T : List Mk} (m : Mk) (hT : T.length ≤ 1000000) (h : MAtV W A b x F dv D (T ++ [m]) w) :
    Calls Try.prog 32 #[.pointer (some ⟨b, 0, none⟩)] w fun e w' => e = .returned m.val ∧ MAtV W A b x F dv D T w' := by
  obtain ⟨tv, h2⟩ := h
  have h3 := h2.alloc mk0.box
  obtain ⟨W1, hW1⟩ : ∃ W1, w.alloc mk0.box = W1 := ⟨_, rfl⟩
  obtain ⟨b2, hb2⟩ : ∃ b2, w.heap.size = b2 := ⟨_, rfl⟩
  rw [hb2, hW1] at h3
  obtain ⟨g, cap, rfl, hc1, hc2, -⟩ := rowK_last (h2.of_eq (show _ = rowK tv (T ++ [m]) * (pts b (F.mbox x dv tv) * (rowK dv D * A)) by ac_rfl))
  have HW1 := Lib.hid (show w.alloc (.cells #[.int .i64 0, .int .i64 0, .bool false, .int .i64 0, .bool false] 58) = W1 from hW1)
  have HB2 := Lib.hid hb2
  have H3 := Lib.hid h3.drew
  have HT := Lib.hid hT
  obtain ⟨n, hn⟩ : ∃ n, T.length = n := ⟨_, rfl⟩
  rw [hn] at hc1 H3 hT
  have HN := Lib.hid hn
  obtain ⟨C, hC⟩ : ∃ C : World → Prop, C = fun w' => ∃ X, Sat W (pts b (F.mbox x dv (.slice (some ⟨g, 0, none⟩) (n + 1) cap)) * (rowK (.slice (some ⟨g, 0, none⟩) (n + 1) cap) (T ++ [m]) * X)) w' := ⟨_, rfl⟩
  have HC := Lib.hid (show ∀ w', C w' → w'.cell? ⟨b, 1, none⟩ = some (.slice (some ⟨g, 0, none⟩) (n + 1) cap) ∧ w'.cell? ⟨g, n * 5, none⟩ = some (.int .i64 m.c) ∧ w'.cell? ⟨g, n * 5 + 1, none⟩ = some (.int .i64 m.n) ∧ w'.cell? ⟨g, n * 5 + 2, none⟩ = some (.bool m.made) ∧ w'.cell? ⟨g, n * 5 + 3, none⟩ = some (.int .i64 m.kern) ∧ w'.cell? ⟨g, n * 5 + 4, none⟩ = some (.bool m.space) ∧ b < w'.heap.size from fun w' h => by
    rw [hC] at h
    obtain ⟨X, h⟩ := h
    obtain ⟨g', cap', e, -, -, -, h5⟩ := rowK_last h.r
    simp only [Value.slice.injEq, Option.some.injEq, Addr.mk.injEq, and_true] at e
    obtain ⟨rfl, -, -⟩ := e
    rw [hn] at h5
    exact ⟨h.cell rfl, h5.1, h5.2.1, h5.2.2.1, h5.2.2.2.1, h5.2.2.2.2, h.lt⟩)
  have HC2 := Lib.hid (show ∀ X w', Sat W (pts b (F.mbox x dv (.slice (some ⟨g, 0, none⟩) (n + 1) cap)) * (rowK (.slice (some ⟨g, 0, none⟩) (n + 1) cap) (T ++ [m]) * X)) w' → C w' from fun X w' h => by rw [hC]; exact ⟨X, h⟩)
  clear h2 h3 hC hW1 hb2 hn
  obtain ⟨m1, m2, m3, m4, m5⟩ := m
  have wn1 : IntKind.i64.wrap ((n : Int) + 1 - 1) = n := by rw [show (n : Int) + 1 - 1 = n by omega]; exact IntWalk.i64_in _ (by omega)
  have wn2 : wrap64 ((n : Int) + 1 - 1) = n := by unfold wrap64; omega
  have wn4 : (n : Int) < (n : Int) + 1 := by omega
  have wn3 : IntKind.i64.wrap (n : Int) = n := IntWalk.i64_in _ (by omega)
  go_enter Try.func32, Try.ntmps32
  go_upto_region 1 with fail
  rw [HB2.out, HW1.out]
  clear HW1 HB2
  refine wp_region_E C (by kernel_rfl) ?_
  obtain ⟨W9, hW9⟩ : ∃ W9, W1.drew = W9 := ⟨_, rfl⟩
  have h9 := H3.out
  rw [hW9] at h9
  rw [hW9]
  have H9 := Lib.hid h9
  clear h9 H3 hW9
  refine wpE_take (i := 0) (q := 1) (v := ?_) rfl (by kernel_rfl) (by kernel_rfl) (by kernel_rfl) (by kernel_rfl) (by kernel_rfl) (fun _ _ _ h => h) (by rfl) ?_ ?_
  rotate_left 1
  · intro w hw; (obtain ⟨p0, q0, q1, q2, q3, q4, pl⟩ := HC.out _ hw; go_simp; try with_reducible rfl)
  refine wpE_take (i := 1) (q := 2) (v := ?_) rfl (by kernel_rfl) (by kernel_rfl) (by kernel_rfl) (by kernel_rfl) (by kernel_rfl) (fun _ _ _ h => h) (by rfl) ?_ ?_
  rotate_left 1
  · intro w hw; (obtain ⟨p0, q0, q1, q2, q3, q4, pl⟩ := HC.out _ hw; go_simp; try with_reducible rfl)
  refine wpE_take (i := 2) (q := 3) (v := ?_) rfl (by kernel_rfl) (by kernel_rfl) (by kernel_rfl) (by kernel_rfl) (by kernel_rfl) (fun _ _ _ h => h) (by rfl) ?_ ?_
  rotate_left 1
  · intro w hw; (obtain ⟨p0, q0, q1, q2, q3, q4, pl⟩ := HC.out _ hw; go_simp; try with_reducible rfl)
  refine wpE_take (i := 3) (q := 10) (v := ?_) rfl (by kernel_rfl) (by kernel_rfl) (by kernel_rfl) (by kernel_rfl) (by kernel_rfl) (fun _ _ _ h => h) (by rfl) ?_ ?_
  rotate_left 1
  · intro w hw; (obtain ⟨p0, q0, q1, q2, q3, q4, pl⟩ := HC.out _ hw; go_simp; try with_reducible rfl)
  refine wpE_take (i := 4) (q := 5) (v := ?_) rfl (by kernel_rfl) (by kernel_rfl) (by kernel_rfl) (by kernel_rfl) (by kernel_rfl) (fun _ _ _ h => h) (by rfl) ?_ ?_
  rotate_left 1
  · intro w hw; (obtain ⟨p0, q0, q1, q2, q3, q4, pl⟩ := HC.out _ hw; go_simp; try with_reducible rfl)
  refine wpE_take (i := 5) (q := 6) (v := ?_) rfl (by kernel_rfl) (by kernel_rfl) (by kernel_rfl) (by kernel_rfl) (by kernel_rfl) (fun _ _ _ h => h) (by rfl) ?_ ?_
  rotate_left 1
  · intro w hw; (obtain ⟨p0, q0, q1, q2, q3, q4, pl⟩ := HC.out _ hw; go_simp; try with_reducible rfl)
  refine wpE_take (i := 6) (q := 7) (v := ?_) rfl (by kernel_rfl) (by kernel_rfl) (by kernel_rfl) (by kernel_rfl) (by kernel_rfl) (fun _ _ _ h => h) (by rfl) ?_ ?_
  rotate_left 1
  · intro w hw; (obtain ⟨p0, q0, q1, q2, q3, q4, pl⟩ := HC.out _ hw; go_simp; try with_reducible rfl)
  refine wpE_take (i := 7) (q := 8) (v := ?_) rfl (by kernel_rfl) (by kernel_rfl) (by kernel_rfl) (by kernel_rfl) (by kernel_rfl) (fun _ _ _ h => h) (by rfl) ?_ ?_
  rotate_left 1
  · intro w hw; (obtain ⟨p0, q0, q1, q2, q3, q4, pl⟩ := HC.out _ hw; go_simp; try with_reducible rfl)
  refine wpE_take (i := 8) (q := 9) (v := ?_) rfl (by kernel_rfl) (by kernel_rfl) (by kernel_rfl) (by kernel_rfl) (by kernel_rfl) (fun _ _ _ h => h) (by rfl) ?_ ?_
  rotate_left 1
  · intro w hw; (obtain ⟨p0, q0, q1, q2, q3, q4, pl⟩ := HC.out _ hw; go_simp; try with_reducible rfl)
  refine wpE_take (i := 9) (q := 10) (v := ?_) rfl (by kernel_rfl) (by kernel_rfl) (by kernel_rfl) (by kernel_rfl) (by kernel_rfl) (fun _ _ _ h => h) (by rfl) ?_ ?_
  rotate_left 1
  · intro w hw; (obtain ⟨p0, q0, q1, q2, q3, q4, pl⟩ := HC.out _ hw; go_simp; try with_reducible rfl)
  refine wpE_take (i := 10) (q := 11) (v := ?_) rfl (by kernel_rfl) (by kernel_rfl) (by kernel_rfl) (by kernel_rfl) (by kernel_rfl) (fun _ _ _ h => h) (by rfl) ?_ ?_
  rotate_left 1
  · intro w hw; (obtain ⟨p0, q0, q1, q2, q3, q4, pl⟩ := HC.out _ hw; go_simp; try with_reducible rfl)
  refine wpE_take (i := 11) (q := 13) (v := ?_) rfl (by kernel_rfl) (by kernel_rfl) (by kernel_rfl) (by kernel_rfl) (by kernel_rfl) (fun _ _ _ h => h) (by rfl) ?_ ?_
  rotate_left 1
  · intro w hw; (obtain ⟨p0, q0, q1, q2, q3, q4, pl⟩ := HC.out _ hw; go_simp; try with_reducible rfl)
  refine wpE_one (i := 12) rfl (by kernel_rfl) (HC2.out _ _ (H9.out.of_eq (show _ = pts b (F.mbox x dv (.slice (some ⟨g, 0, none⟩) (n + 1) cap)) * (rowK (.slice (some ⟨g, 0, none⟩) (n + 1) cap) (T ++ [(⟨m1, m2, m3, m4, m5⟩ : Mk)]) * (pts b2 mk0.box * (rowK dv D * A))) by ac_rfl))) (fun K hK => ?_)
  go_simp
  refine hK _ _ ?_
  clear hK K
  have h11 := H9.out.alloc mk0.box
  obtain ⟨b3, hb3⟩ : ∃ b3, W9.heap.size = b3 := ⟨_, rfl⟩
  obtain ⟨W11, hW11⟩ : ∃ W11, W9.alloc mk0.box = W11 := ⟨_, rfl⟩
  rw [hb3, hW11] at h11
  rw [hb3, show W9.alloc (.cells #[.int .i64 0, .int .i64 0, .bool false, .int .i64 0, .bool false] 58) = W11 from hW11]
  have H11 := Lib.hid h11
  have hcw := HC2.out _ _ (h11.of_eq (show _ = pts b (F.mbox x dv (.slice (some ⟨g, 0, none⟩) (n + 1) cap)) * (rowK (.slice (some ⟨g, 0, none⟩) (n + 1) cap) (T ++ [(⟨m1, m2, m3, m4, m5⟩ : Mk)]) * (pts b3 mk0.box * (pts b2 mk0.box * (rowK dv D * A)))) by ac_rfl))
  have HCW := Lib.hid hcw
  have k0 := h11.cell (i := 0) rfl
  have k1 := h11.cell (i := 1) rfl
  have k2 := h11.cell (i := 2) rfl
  have k3 := h11.cell (i := 3) rfl
  have k4 := h11.cell (i := 4) rfl
  have f0 := h11.free (i := 0)
  have f1 := h11.free (i := 1)
  have f2 := h11.free (i := 2)
  have f3 := h11.free (i := 3)
  have f4 := h11.free (i := 4)
  have kl := h11.lt
  have g5 := Lib.hid (sat_set5 h11 (.int .i64 m1) (.int .i64 m2) (.bool m3) (.int .i64 m4) (.bool m5))
  clear h11 hcw hb3 hW11 H9
  refine wpE_one (i := 13) rfl (by kernel_rfl) (HCW.out) (fun K hK => ?_)
  go_simp
  refine hK _ _ ?_
  clear hK K k0 k1 k2 k3 k4 f0 f1 f2 f3 f4 kl H11 HCW
  refine wpE_done (by kernel_rfl) (by kernel_rfl) ?_
  go_upto_region 2 with fail
  obtain ⟨W12, hW12⟩ : ∃ W12, (((((W11.setCell ⟨b3, 0, none⟩ (.int .i64 m1)).setCell ⟨b3, 1, none⟩ (.int .i64 m2)).setCell ⟨b3, 2, none⟩ (.bool m3)).setCell ⟨b3, 3, none⟩ (.int .i64 m4)).setCell ⟨b3, 4, none⟩ (.bool m5)) = W12 := ⟨_, rfl⟩
  rw [hW12]
  have h12 := g5.out
  rw [hW12] at h12
  have h13 := h12.drew
  obtain ⟨W13, hW9⟩ : ∃ W13, W12.drew = W13 := ⟨_, rfl⟩
  rw [hW9] at h13
  have H13 := Lib.hid h13
  have h14 := h13.of_eq (show _ = pts b (F.mbox x dv (.slice (some ⟨g, 0, none⟩) (n + 1) cap)) * (rowK (.slice (some ⟨g, 0, none⟩) (n + 1) cap) (T ++ [(⟨m1, m2, m3, m4, m5⟩ : Mk)]) * (pts b3 (Mk.box ⟨m1, m2, m3, m4, m5⟩) * (pts b2 mk0.box * (rowK dv D * A)))) by ac_rfl)
  have c1 := h14.cell (i := 1) rfl
  have lb := h14.lt
  have fb := h14.free (i := 1)
  have hcn : (n : Int) ≤ n + 1 := by omega
  have hcn2 : (n : Int) ≤ cap := by omega
  clear h12 h13 h14 g5 hW12
  have HC9 := Lib.hid (show W12.drew = W13 from hW9)
  obtain ⟨W9, hWW⟩ : ∃ W9, W13 = W9 := ⟨_, rfl⟩
  subst hWW
  refine wp_region_tail (fun w' => w' = W13) 14 (by kernel_rfl) (by kernel_rfl) hW9 ?_
  clear hW9
  simp only [List.take_succ_cons, List.take_zero, List.drop_succ_cons, List.drop_zero]
  iterate 14
    with_reducible refine wpQuiet_step ?_
    intro K hK
    go_simp
    first
      | (with_reducible refine hK _ ?_
         clear hK K)
      | (refine Exists.intro _ ⟨fun w9 hw9 => ?_, ?_⟩
         rotate_left 1
         with_reducible refine hK _ ?_
         clear hK K
         rotate_left 1
         · subst hw9; go_simp; try with_reducible rfl)
  refine wpQuiet_nil ?_
  rintro w17 rfl
  go_upto_region 3 with fail
  have h15 := (H13.out.of_eq (show _ = pts b (F.mbox x dv (.slice (some ⟨g, 0, none⟩) (n + 1) cap)) * (rowK (.slice (some ⟨g, 0, none⟩) (n + 1) cap) (T ++ [(⟨m1, m2, m3, m4, m5⟩ : Mk)]) * (pts b3 (Mk.box ⟨m1, m2, m3, m4, m5⟩) * (pts b2 mk0.box * (rowK dv D * A)))) by ac_rfl)).set (i := 1) (v := .slice (some ⟨g, 0, none⟩) n cap)
  rw [mset1] at h15
  obtain ⟨W14, hW14⟩ : ∃ W14, w17.setCell ⟨b, 1, none⟩ (.slice (some ⟨g, 0, none⟩) n cap) = W14 := ⟨_, rfl⟩
  rw [hW14] at h15
  rw [hW14]
  have h16 := h15.of_eq (show _ = rowK (.slice (some ⟨g, 0, none⟩) (n + 1) cap) (T ++ [(⟨m1, m2, m3, m4, m5⟩ : Mk)]) * (pts b2 mk0.box * (pts b3 (Mk.box ⟨m1, m2, m3, m4, m5⟩) * (pts b (F.mbox x dv (.slice (some ⟨g, 0, none⟩) n cap)) * (rowK dv D * A)))) by ac_rfl)
  have h17 : Sat W (rowK (.slice (some ⟨g, 0, none⟩) n cap) T * (pts b2 mk0.box * (pts b3 (Mk.box ⟨m1, m2, m3, m4, m5⟩) * (pts b (F.mbox x dv (.slice (some ⟨g, 0, none⟩) n cap)) * (rowK dv D * A))))) W14 := by
    have := HN.out
    subst this
    exact rowK_cut h16
  have h18 := h17.of_eq (show _ = pts b2 mk0.box * (pts b3 (Mk.box ⟨m1, m2, m3, m4, m5⟩) * (pts b (F.mbox x dv (.slice (some ⟨g, 0, none⟩) n cap)) * (rowK dv D * (rowK (.slice (some ⟨g, 0, none⟩) n cap) T * A)))) by ac_rfl)
  clear c1 lb fb h15 h16 h17 hW14
  have k0 := h18.r.cell (i := 0) rfl
  have k1 := h18.r.cell (i := 1) rfl
  have k2 := h18.r.cell (i := 2) rfl
  have k3 := h18.r.cell (i := 3) rfl
  have k4 := h18.r.cell (i := 4) rfl
  have kl := h18.r.lt
  have j0 := h18.cell (i := 0) rfl
  have j1 := h18.cell (i := 1) rfl
  have j2 := h18.cell (i := 2) rfl
  have j3 := h18.cell (i := 3) rfl
  have j4 := h18.cell (i := 4) rfl
  have jl := h18.lt
  have f0 := h18.free (i := 0)
  have f1 := h18.free (i := 1)
  have f2 := h18.free (i := 2)
  have f3 := h18.free (i := 3)
  have f4 := h18.free (i := 4)
  have G := Lib.hid (sat_set5 h18 (.int .i64 m1) (.int .i64 m2) (.bool m3) (.int .i64 m4) (.bool m5))
  clear h18
  go_wp2
  clear k0 k1 k2 k3 k4 kl j0 j1 j2 j3 j4 jl f0 f1 f2 f3 f4
  have j0 := G.out.cell (i := 0) rfl
  have j1 := G.out.cell (i := 1) rfl
  have j2 := G.out.cell (i := 2) rfl
  have j3 := G.out.cell (i := 3) rfl
  have j4 := G.out.cell (i := 4) rfl
  refine bodyPost_ret (v := .agg #[.int .i64 m1, .int .i64 m2, .bool m3, .int .i64 m4, .bool m5]) (by unfold results; go_simp) rfl ⟨rfl, .slice (some ⟨g, 0, none⟩) n cap, G.out.r.r⟩
theorem next_any {b : Nat} {D T : List Mk} (m : Mk) (hT : T.length ≤ 1000000) (h : MAt W A b x F D (T ++ [m]) w) :
    Calls Try.prog 32 #[.pointer (some ⟨b, 0, none⟩)] w fun e w' => e = .returned m.val ∧ MAt W A b x F D T w' := by
  obtain ⟨dv, h⟩ := h.v
  exact Calls.mono (nextV_any m hT h) fun e w' h => ⟨h.1, h.2.m⟩
end Go.Proofs.Ytigjfbbgbiajbaa
