/-
  A ligature that takes both letters away. Conditions: those that each theorem names.
-/
import Derived.Test.YtigjfbbgbiajbaaLgK
namespace Go.Proofs.Ytigjfbbgbiajbaa
open Go.RowKit Go.Sp
variable {w W : World} {x : FV} {F : Fnt} {A : HProp}

theorem kset1 (c0 c1 c2 c3 c4 v : Value) : (#[c0, c1, c2, c3, c4] : Array Value).setIfInBounds 1 v = #[c0, v, c2, c3, c4] := rfl
set_option maxRecDepth 100000 in
set_option maxHeartbeats 8000000 in
theorem lig_any {b : Nat} {D T : List Mk} (xm ym : Mk) (s1 s2 s4 : Nat) (h4 : s4 < 256) (hx : 0 ≤ xm.n ∧ xm.n ≤ 1000000) (hy : 0 ≤ ym.n ∧ ym.n ≤ 1000000) (hD : D.length ≤ 1000000) (h : MAt W A b x F (D ++ [xm]) T w) :
    Calls Try.prog 42 #[.pointer (some ⟨b, 0, none⟩), xm.val, ym.val, .int .i64 D.length, .agg #[.int .u8 s1, .int .u8 s2, .int .u8 0, .int .u8 s4]] w
      fun e w' => e = .returned (.tuple #[]) ∧ MAt W A b x F (D ++ [⟨s4, ym.n + xm.n, true, 0, false⟩]) T w' := by
  obtain ⟨dv, tv, h2⟩ := h
  obtain ⟨g, cap, hdv, hc1, hc2, -⟩ := rowK_last h2.r
  have h3 := (((h2.alloc xm.box).alloc ym.box).alloc (.cells #[.int .u8 s1, .int .u8 s2, .int .u8 0, .int .u8 s4] 36)).alloc (Mk.box ⟨s4, 0, true, 0, false⟩)
  obtain ⟨W1, hW1⟩ : ∃ W1, (((w.alloc xm.box).alloc ym.box).alloc (.cells #[.int .u8 s1, .int .u8 s2, .int .u8 0, .int .u8 s4] 36)).alloc (Mk.box ⟨s4, 0, true, 0, false⟩) = W1 := ⟨_, rfl⟩
  obtain ⟨b6, hb6⟩ : ∃ b6, w.heap.size = b6 := ⟨_, rfl⟩
  simp only [World.size_alloc] at h3
  rw [hW1, hb6] at h3
  obtain ⟨x1, x2, x3, x4, x5⟩ := xm
  obtain ⟨y1, y2, y3, y4, y5⟩ := ym
  simp only at hx hy
  have HW1 := Lib.hid (show (((w.alloc (.cells #[.int .i64 x1, .int .i64 x2, .bool x3, .int .i64 x4, .bool x5] 58)).alloc (.cells #[.int .i64 y1, .int .i64 y2, .bool y3, .int .i64 y4, .bool y5] 58)).alloc (.cells #[.int .u8 s1, .int .u8 s2, .int .u8 0, .int .u8 s4] 36)).alloc (.cells #[.int .i64 s4, .int .i64 0, .bool true, .int .i64 0, .bool false] 58) = W1 from hW1)
  have HB6 := Lib.hid hb6
  have H3 := Lib.hid h3.drew
  have HD := Lib.hid hD
  obtain ⟨n, hn⟩ : ∃ n, D.length = n := ⟨_, rfl⟩
  have HN := Lib.hid hn
  rw [hn] at hc1 hD ⊢
  have h4i : (s4 : Int) < 256 := by omega
  have HDV := Lib.hid hdv
  clear h2 h3 hW1 hb6 hn hdv
  go_enter Try.func42, Try.ntmps42
  go_upto_region 2 with fail
  rw [HB6.out, HW1.out]
  clear HB6 HW1
  obtain ⟨W9, hW9⟩ : ∃ W9, W1.drew = W9 := ⟨_, rfl⟩
  have h9 := H3.out
  rw [hW9] at h9
  have H9 := Lib.hid h9
  have e2 := h9.r.cell (i := 2) rfl
  have le := h9.r.lt
  clear H3
  refine wp_region_tail (fun w' => w' = W9) 15 (by kernel_rfl) (by kernel_rfl) hW9 ?_
  clear hW9
  simp only [List.take_succ_cons, List.take_zero, List.drop_succ_cons, List.drop_zero]
  iterate 15
    with_reducible refine wpQuiet_step ?_
    intro K hK
    go_simp
    first
      | (with_reducible refine hK _ ?_
         clear hK K)
      | (rw [if_neg (by intro h; cases h)]
         with_reducible refine hK _ ?_
         clear hK K)
      | (refine Exists.intro _ ⟨fun w9 hw9 => ?_, ?_⟩
         rotate_left 1
         with_reducible refine hK _ ?_
         clear hK K
         rotate_left 1
         · subst hw9; go_simp; try with_reducible rfl)
  refine wpQuiet_nil ?_
  rintro w17 rfl
  clear e2 le
  have z0 := h9.cell (i := 0) rfl
  have z1 := h9.cell (i := 1) rfl
  have zl := h9.lt
  have zf := h9.free (i := 1)
  have yn := h9.r.r.cell (i := 1) rfl
  have yl := h9.r.r.lt
  have h10 := h9.set (i := 1) (v := .int .i64 y2)
  rw [kset1] at h10
  clear h9
  go_upto_region 7 with fail
  clear z0 z1 zl zf yn yl H9
  obtain ⟨W10, hW10⟩ : ∃ W10, w17.setCell ⟨b6 + 1 + 1 + 1, 1, none⟩ (.int .i64 y2) = W10 := ⟨_, rfl⟩
  rw [hW10] at h10
  rw [hW10, show (IntKind.i64.wrap ((IntKind.i64.wrap 0).tdiv 2)).tmod 2 = 0 from rfl, show (IntKind.i64.wrap 0).tmod 2 = 0 from rfl, show (if (0 : Int) < 0 / 4 then (0 : Int) else 0 / 4) = 0 from rfl]
  have z0 := h10.cell (i := 0) rfl
  have z1 := h10.cell (i := 1) rfl
  have zl := h10.lt
  have zf := h10.free (i := 1)
  have xn := h10.r.r.r.cell (i := 1) rfl
  have xl := h10.r.r.r.lt
  have hxy : wrap64 (y2 + x2) = y2 + x2 := by unfold wrap64; omega
  have h11 := h10.set (i := 1) (v := .int .i64 (y2 + x2))
  rw [kset1] at h11
  clear h10 hW10
  go_upto_region 10 with fail
  clear z0 z1 zl zf xn xl
  obtain ⟨W12, hW12⟩ : ∃ W12, W10.setCell ⟨b6 + 1 + 1 + 1, 1, none⟩ (.int .i64 (y2 + x2)) = W12 := ⟨_, rfl⟩
  rw [hW12] at h11
  rw [hW12]
  obtain ⟨b10, hb10⟩ : ∃ b10, b6 + 1 + 1 + 1 = b10 := ⟨_, rfl⟩
  rw [hb10] at h11
  rw [hb10]
  obtain ⟨zz, hzz⟩ : ∃ zz : Mk, (⟨s4, y2 + x2, true, 0, false⟩ : Mk) = zz := ⟨_, rfl⟩
  have hzz1 : (.cells #[.int .i64 (s4 : Int), .int .i64 (y2 + x2), .bool true, .int .i64 0, .bool false] 58 : Obj) = zz.box := by rw [← hzz]
  obtain ⟨B9, hB9⟩ : ∃ B9, pts (b6 + 1 + 1) (.cells #[.int .u8 s1, .int .u8 s2, .int .u8 0, .int .u8 s4] 36) * (pts (b6 + 1) (Mk.box ⟨y1, y2, y3, y4, y5⟩) * pts b6 (Mk.box ⟨x1, x2, x3, x4, x5⟩)) = B9 := ⟨_, rfl⟩
  have h12 : Sat W (pts b10 zz.box * (pts b (F.mbox x dv tv) * (rowK dv (D ++ [(⟨x1, x2, x3, x4, x5⟩ : Mk)]) * (rowK tv T * (B9 * A))))) W12 := by
    rw [← hzz1, ← hB9]
    exact h11.of_eq (by ac_rfl)
  have hdv := HDV.out
  rw [HN.out] at hdv
  subst hdv
  have h13 := h12.drew
  have h14 := h13.of_eq (show _ = rowK (.slice (some ⟨g, 0, none⟩) (n + 1) cap) (D ++ [(⟨x1, x2, x3, x4, x5⟩ : Mk)]) * (pts b10 zz.box * (pts b (F.mbox x (.slice (some ⟨g, 0, none⟩) (n + 1) cap) tv) * (rowK tv T * (B9 * A)))) by ac_rfl)
  have h15 : Sat W (rowK (.slice (some ⟨g, 0, none⟩) n cap) D * (pts b10 zz.box * (pts b (F.mbox x (.slice (some ⟨g, 0, none⟩) (n + 1) cap) tv) * (rowK tv T * (B9 * A))))) W12.drew := by
    have := HN.out
    subst this
    exact rowK_cut h14
  have H9 := Lib.hid (h15.of_eq (show _ = pts b10 zz.box * (pts b (F.mbox x (.slice (some ⟨g, 0, none⟩) (n + 1) cap) tv) * (rowK (.slice (some ⟨g, 0, none⟩) n cap) D * (rowK tv T * (B9 * A)))) by ac_rfl))
  obtain ⟨C, hC⟩ : ∃ C : World → Prop, C = fun w' => ∃ X, Sat W (pts b10 zz.box * (pts b (F.mbox x (.slice (some ⟨g, 0, none⟩) (n + 1) cap) tv) * X)) w' := ⟨_, rfl⟩
  have HC := Lib.hid (show ∀ w', C w' → w'.cell? ⟨b, 0, none⟩ = some (.slice (some ⟨g, 0, none⟩) (n + 1) cap) ∧ w'.cell? ⟨b10, 0, none⟩ = some (.int .i64 zz.c) ∧ w'.cell? ⟨b10, 1, none⟩ = some (.int .i64 zz.n) ∧ w'.cell? ⟨b10, 2, none⟩ = some (.bool zz.made) ∧ w'.cell? ⟨b10, 3, none⟩ = some (.int .i64 zz.kern) ∧ w'.cell? ⟨b10, 4, none⟩ = some (.bool zz.space) ∧ b < w'.heap.size from fun w' h => by
    rw [hC] at h
    obtain ⟨X, h⟩ := h
    exact ⟨h.r.cell rfl, h.cell rfl, h.cell rfl, h.cell rfl, h.cell rfl, h.cell rfl, h.r.lt⟩)
  have HC2 := Lib.hid (show ∀ X w', Sat W (pts b10 zz.box * (pts b (F.mbox x (.slice (some ⟨g, 0, none⟩) (n + 1) cap) tv) * X)) w' → C w' from fun X w' h => by rw [hC]; exact ⟨X, h⟩)
  obtain ⟨i0, hi, hz0, hz1, hz2⟩ := info_parts3 info_mk
  have HI := Lib.hid hi
  have HZ0 := Lib.hid hz0
  have HZ1 := Lib.hid hz1
  have HZ2 := Lib.hid hz2
  have HZZ := Lib.hid hzz
  have hc3 : (n : Int) ≤ cap := by omega
  have hn0 : (0 : Int) ≤ n := by omega
  clear h11 h12 h13 h14 h15 hC hi hz0 hz1 hz2 hzz hzz1 hW12 hb10 hB9
  obtain ⟨m1, m2, m3, m4, m5⟩ := zz
  refine wp_region_E C (by kernel_rfl) ?_
  obtain ⟨W9, hW9⟩ : ∃ W9, W12.drew = W9 := ⟨_, rfl⟩
  rw [hW9] at H9 ⊢
  refine wpE_take (i := 0) (q := 11) (v := ?_) rfl (by kernel_rfl) (by kernel_rfl) (by kernel_rfl) (by kernel_rfl) (by kernel_rfl) (fun _ _ _ h => h) (by rfl) ?_ ?_
  rotate_left 1
  · intro w hw; (obtain ⟨p0, q0, q1, q2, q3, q4, pl⟩ := HC.out _ hw; go_simp; try with_reducible rfl)
  refine wpE_take (i := 1) (q := 2) (v := ?_) rfl (by kernel_rfl) (by kernel_rfl) (by kernel_rfl) (by kernel_rfl) (by kernel_rfl) (fun _ _ _ h => h) (by rfl) ?_ ?_
  rotate_left 1
  · intro w hw; (obtain ⟨p0, q0, q1, q2, q3, q4, pl⟩ := HC.out _ hw; go_simp; try with_reducible rfl)
  refine wpE_take (i := 2) (q := 3) (v := ?_) rfl (by kernel_rfl) (by kernel_rfl) (by kernel_rfl) (by kernel_rfl) (by kernel_rfl) (fun _ _ _ h => h) (by rfl) ?_ ?_
  rotate_left 1
  · intro w hw; (obtain ⟨p0, q0, q1, q2, q3, q4, pl⟩ := HC.out _ hw; go_simp; try with_reducible rfl)
  refine wpE_take (i := 3) (q := 4) (v := ?_) rfl (by kernel_rfl) (by kernel_rfl) (by kernel_rfl) (by kernel_rfl) (by kernel_rfl) (fun _ _ _ h => h) (by rfl) ?_ ?_
  rotate_left 1
  · intro w hw; (obtain ⟨p0, q0, q1, q2, q3, q4, pl⟩ := HC.out _ hw; go_simp; try with_reducible rfl)
  refine wpE_take (i := 4) (q := 5) (v := ?_) rfl (by kernel_rfl) (by kernel_rfl) (by kernel_rfl) (by kernel_rfl) (by kernel_rfl) (fun _ _ _ h => h) (by rfl) ?_ ?_
  rotate_left 1
  · intro w hw; (obtain ⟨p0, q0, q1, q2, q3, q4, pl⟩ := HC.out _ hw; go_simp; try with_reducible rfl)
  refine wpE_take (i := 5) (q := 7) (v := ?_) rfl (by kernel_rfl) (by kernel_rfl) (by kernel_rfl) (by kernel_rfl) (by kernel_rfl) (fun _ _ _ h => h) (by rfl) ?_ ?_
  rotate_left 1
  · intro w hw; (obtain ⟨p0, q0, q1, q2, q3, q4, pl⟩ := HC.out _ hw; go_simp; try with_reducible rfl)
  refine wpE_take (i := 6) (q := 7) (v := ?_) rfl (by kernel_rfl) (by kernel_rfl) (by kernel_rfl) (by kernel_rfl) (by kernel_rfl) (fun _ _ _ h => h) (by rfl) ?_ ?_
  rotate_left 1
  · intro w hw; (obtain ⟨p0, q0, q1, q2, q3, q4, pl⟩ := HC.out _ hw; go_simp; try with_reducible rfl)
  refine wpE_take (i := 7) (q := 10) (v := ?_) rfl (by kernel_rfl) (by kernel_rfl) (by kernel_rfl) (by kernel_rfl) (by kernel_rfl) (fun _ _ _ h => h) (by rfl) ?_ ?_
  rotate_left 1
  · intro w hw; (obtain ⟨p0, q0, q1, q2, q3, q4, pl⟩ := HC.out _ hw; go_simp; try with_reducible rfl)
  refine wpE_take (i := 8) (q := 9) (v := ?_) rfl (by kernel_rfl) (by kernel_rfl) (by kernel_rfl) (by kernel_rfl) (by kernel_rfl) (fun _ _ _ h => h) (by rfl) ?_ ?_
  rotate_left 1
  · intro w hw; (obtain ⟨p0, q0, q1, q2, q3, q4, pl⟩ := HC.out _ hw; go_simp; try with_reducible rfl)
  refine wpE_one (i := 9) rfl (by kernel_rfl) (HC2.out _ _ H9.out) (fun K hK => ?_)
  go_simp
  refine hK _ _ ?_
  clear hK K
  have h11 := H9.out.alloc (Mk.box ⟨m1, m2, m3, m4, m5⟩)
  obtain ⟨b74, hb74⟩ : ∃ b74, W9.heap.size = b74 := ⟨_, rfl⟩
  obtain ⟨W11, hW11⟩ : ∃ W11, W9.alloc (Mk.box ⟨m1, m2, m3, m4, m5⟩) = W11 := ⟨_, rfl⟩
  rw [hb74, hW11] at h11
  rw [hb74, show W9.alloc (.cells #[.int .i64 m1, .int .i64 m2, .bool m3, .int .i64 m4, .bool m5] 58) = W11 from hW11]
  have hcw3 := HC2.out _ _ h11.r
  have hnew : Rd W11 (.slice (some ⟨b74, 0, none⟩) 1 1) 1 5 (Mk.cells ⟨m1, m2, m3, m4, m5⟩) :=
    (Sat.row_mk (e := 58) (size := 5) (xs := Mk.cells ⟨m1, m2, m3, m4, m5⟩) h11 (Nat.le_refl 1) (by simp [maxLen]) rfl rfl rfl).rd
  have hrw := h11.r.of_eq (show _ = rowK (.slice (some ⟨g, 0, none⟩) n cap) D * (pts b10 (Mk.box ⟨m1, m2, m3, m4, m5⟩) * (pts b (F.mbox x (.slice (some ⟨g, 0, none⟩) (n + 1) cap) tv) * (rowK tv T * (B9 * A)))) by ac_rfl)
  have HRW := Lib.hid (show Sat W (row (.slice (some ⟨g, 0, none⟩) n cap) D.length 58 5 (D.flatMap Mk.cells) * (pts b10 (Mk.box ⟨m1, m2, m3, m4, m5⟩) * (pts b (F.mbox x (.slice (some ⟨g, 0, none⟩) (n + 1) cap) tv) * (rowK tv T * (B9 * A))))) W11 from hrw)
  clear h11 hb74 H9 hrw
  refine wpE_one (i := 10) rfl (by kernel_rfl) (hcw3) (fun K hK => ?_)
  refine step_append_rd rfl _ _ 56 rfl i0 _ 40 Try.underlying56 HI.out HZ0.out HZ1.out HZ2.out rfl (by omega) rfl HRW.out (.slice (some ⟨b74, 0, none⟩) 1 1) 1 (Mk.cells ⟨m1, m2, m3, m4, m5⟩) rfl hnew (mk_one _) (by have := HD.out; simp [maxLen]; omega) (by have := HD.out; omega) ?_
  intro v1 w12 h12 _
  have h13 := rowK_snoc (L := D) (y := ⟨m1, m2, m3, m4, m5⟩) h12 rfl
  obtain ⟨a1, c1, hv1, -⟩ := (rowK_rd h13).val
  rw [List.length_append, List.length_singleton] at hv1
  subst hv1
  have h13' := h13.of_eq (show _ = pts b10 (Mk.box ⟨m1, m2, m3, m4, m5⟩) * (pts b (F.mbox x (.slice (some ⟨g, 0, none⟩) (n + 1) cap) tv) * (rowK (.slice a1 (D.length + 1) c1) (D ++ [⟨m1, m2, m3, m4, m5⟩]) * (rowK tv T * (B9 * A)))) by ac_rfl)
  have HCW := Lib.hid (HC2.out _ _ h13')
  have ob := h13'.r.lt
  have oc := h13'.r.cell (i := 0) rfl
  have of := h13'.r.free (i := 0)
  have h14 := h13'.r.set (i := 0) (v := .slice a1 (D.length + 1) c1)
  rw [mset0] at h14
  have H14 := Lib.hid h14
  clear h12 h13 h13' h14 hcw3 HRW
  go_simp
  refine hK _ _ ?_
  clear hK K
  refine wpE_take (i := 11) (q := 12) (v := ?_) rfl (by kernel_rfl) (by kernel_rfl) (by kernel_rfl) (by kernel_rfl) (by kernel_rfl) (fun _ _ _ h => h) (by rfl) ?_ ?_
  rotate_left 1
  · intro w hw; (obtain ⟨p0, q0, q1, q2, q3, q4, pl⟩ := HC.out _ hw; go_simp; try with_reducible rfl)
  refine wpE_take (i := 12) (q := 13) (v := ?_) rfl (by kernel_rfl) (by kernel_rfl) (by kernel_rfl) (by kernel_rfl) (by kernel_rfl) (fun _ _ _ h => h) (by rfl) ?_ ?_
  rotate_left 1
  · intro w hw; (obtain ⟨p0, q0, q1, q2, q3, q4, pl⟩ := HC.out _ hw; go_simp; try with_reducible rfl)
  refine wpE_take (i := 13) (q := 14) (v := ?_) rfl (by kernel_rfl) (by kernel_rfl) (by kernel_rfl) (by kernel_rfl) (by kernel_rfl) (fun _ _ _ h => h) (by rfl) ?_ ?_
  rotate_left 1
  · intro w hw; (obtain ⟨p0, q0, q1, q2, q3, q4, pl⟩ := HC.out _ hw; go_simp; try with_reducible rfl)
  refine wpE_one (i := 14) rfl (by kernel_rfl) (HCW.out) (fun K hK => ?_)
  go_simp
  refine hK _ _ ?_
  clear hK K ob of oc
  refine wpE_done (by kernel_rfl) (by kernel_rfl) ?_
  have HM := Lib.hid (show MAt W A b x F (D ++ [(⟨m1, m2, m3, m4, m5⟩ : Mk)]) T (w12.setCell ⟨b, 0, none⟩ (.slice a1 (D.length + 1) c1)) from
    ⟨.slice a1 (D.length + 1) c1, tv, (H14.out.of_eq (show _ = B9 * (pts b (F.mbox x (.slice a1 (D.length + 1) c1) tv) * (rowK (.slice a1 (D.length + 1) c1) (D ++ [(⟨m1, m2, m3, m4, m5⟩ : Mk)]) * (rowK tv T * A))) by ac_rfl)).r⟩)
  clear H14 HCW HC HC2
  go_wp2_with fail
  go_loopg [13] 1 (fun gg s13 wx => s13 = .int .i64 0 ∧ MAt W A b x F (D ++ [(⟨m1, m2, m3, m4, m5⟩ : Mk)]) T wx)
  case atStart => exact ⟨rfl, HM.out⟩
  case round =>
    obtain ⟨rfl, hm⟩ := hrel
    have HM2 := Lib.hid hm
    clear hm HM
    go_wp2
    go_end0
    exact ⟨rfl, by rw [HZZ.out]; exact HM2.out⟩
end Go.Proofs.Ytigjfbbgbiajbaa
