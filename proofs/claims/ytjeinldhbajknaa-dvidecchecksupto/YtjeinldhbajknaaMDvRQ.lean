import Derived.Test.YtjeinldhbajknaaMDvRP
/-
  The document's post. Conditions: those that each theorem names.
-/
namespace Go.Proofs.Ytjeinldhbajknaa
open Go.RowKit Go.Sp Go.Conc
variable {W w w' : World} {A : HProp}

set_option maxRecDepth 100000 in
set_option maxHeartbeats 8000000 in
theorem post_any {V : List (Cmd × Value)} {b : Nat} {s : StM} {a : Option Addr} {ca : Nat} (o : Cmd) (hal : o.args.length = 8) (hpl : 4 ≤ s.pre.args.length) (hm : (o, .slice a o.args.length ca) ∈ V)
    (hV : ∀ w', Sat W A w' → ∀ x ∈ V, Rd w' x.2 x.1.args.length 1 (intsL x.1.args)) (h : StAt W A V b s w) :
    Calls Try.prog 55 #[.pointer (some ⟨b, 0, none⟩), o.val (.slice a o.args.length ca)] w fun e w' => e = .returned (.bool (s.post_ o).2) ∧ StAt W A V b (s.post_ o).1 w' := by
  obtain ⟨b3, hb3⟩ : ∃ b3, w.heap.size = b3 := ⟨_, rfl⟩
  obtain ⟨dv, av, pv, tv, h1, h2⟩ := h
  have hpm : (s.pre, pv) ∈ V := by
    rcases h1.1 with h | h
    · exact h
    · rw [h.1] at hpl; simp at hpl
  have h3 := h2.alloc (ropO o.code o.at_ (.slice a o.args.length ca) ⟨o.text.toArray⟩)
  rw [hb3] at h3
  obtain ⟨W1, hW1⟩ : ∃ W1, w.alloc (ropO o.code o.at_ (.slice a o.args.length ca) ⟨o.text.toArray⟩) = W1 := ⟨_, rfl⟩
  rw [hW1] at h3
  have q0 := h3.cell (i := 0) rfl
  have q1 := h3.cell (i := 1) rfl
  have q2 := h3.cell (i := 2) rfl
  have q3 := h3.cell (i := 3) rfl
  have h4 := h3.r
  have f0 := h4.free (i := 0)
  have f8 := h4.free (i := 8)
  have f13 := h4.free (i := 13)
  have f14 := h4.free (i := 14)
  have f15 := h4.free (i := 15)
  have f16 := h4.free (i := 16)
  have k0 := h4.cell (i := 0) rfl
  have k8 := h4.cell (i := 8) rfl
  have k13 := h4.cell (i := 13) rfl
  have k14 := h4.cell (i := 14) rfl
  have k15 := h4.cell (i := 15) rfl
  have k16 := h4.cell (i := 16) rfl
  have kl := h4.lt
  have h5 := (((((h4.set (i := 13) (v := .int .i64 o.code)).set (i := 14) (v := .int .i64 o.at_)).set (i := 15) (v := .slice a o.args.length ca)).set (i := 16) (v := .string ⟨o.text.toArray⟩)).set (i := 8) (v := .int .i64 o.at_)).set (i := 0) (v := .int .i64 3)
  have H5 := Lib.hid (show Sat W (pts b (stO ({ s with tail := o, post := o.at_, part := 3 } : StM) dv av pv (.slice a o.args.length ca)) * _) _ from h5)
  have HW1 := Lib.hid hW1
  have HM := Lib.hid hm
  have HPM := Lib.hid hpm
  have HV := Lib.hid hV
  have HAL := Lib.hid hal
  have HPL := Lib.hid hpl
  have H1 := Lib.hid h1
  obtain ⟨FR1, hF1⟩ : ∃ FR1, (s.post_ o).1 = FR1 := ⟨_, rfl⟩
  obtain ⟨FR2, hF2⟩ : ∃ FR2, (s.post_ o).2 = FR2 := ⟨_, rfl⟩
  rw [hF1, hF2]
  have HF1 := Lib.hid hF1
  have HF2 := Lib.hid hF2
  unfold Cmd.val
  clear h1 h2 h3 h4 h5 hW1 hm hV hal hpl hpm hF1 hF2
  go_enter Try.func55, Try.ntmps55
  go_upto_region 1 with fail
  rw [HW1.out]
  clear hb3 HW1
  go_upto_region 5 with fail
  clear q0 q1 q2 q3 f0 f8 f13 f14 f15 f16 k0 k8 k13 k14 k15 k16 kl
  generalize World.setCell _ _ _ = W5 at *
  obtain ⟨W9, hW9⟩ : ∃ W9, W5.drew = W9 := ⟨_, rfl⟩
  have h9 := H5.out.drew
  rw [hW9] at h9
  have hro := HV.out _ h9.r.r.r _ HM.out
  have hrp := HV.out _ h9.r.r.r _ HPM.out
  simp only at hro hrp
  obtain ⟨_, _, pa, pc, e, -⟩ := id hrp
  subst e
  have k11 := h9.cell (i := 11) rfl
  have hal := HAL.out
  have hpl := HPL.out
  obtain ⟨go, oo, hoa, q0⟩ := rd_arg hro 0 (by omega)
  obtain ⟨go2, oo2, hoa2, q1⟩ := rd_arg hro 1 (by omega)
  obtain ⟨go3, oo3, hoa3, q2⟩ := rd_arg hro 2 (by omega)
  obtain ⟨go4, oo4, hoa4, q3⟩ := rd_arg hro 3 (by omega)
  obtain ⟨go5, oo5, hoa5, q4⟩ := rd_arg hro 4 (by omega)
  obtain ⟨go6, oo6, hoa6, q5⟩ := rd_arg hro 5 (by omega)
  obtain ⟨go7, oo7, hoa7, q6⟩ := rd_arg hro 6 (by omega)
  obtain ⟨go8, oo8, hoa8, q7⟩ := rd_arg hro 7 (by omega)
  subst hoa
  cases hoa2
  cases hoa3
  cases hoa4
  cases hoa5
  cases hoa6
  cases hoa7
  cases hoa8
  obtain ⟨gp, po, hpa, r1⟩ := rd_arg hrp 1 (by omega)
  obtain ⟨gp2, po2, hpa2, r2⟩ := rd_arg hrp 2 (by omega)
  obtain ⟨gp3, po3, hpa3, r3⟩ := rd_arg hrp 3 (by omega)
  subst hpa
  cases hpa2
  cases hpa3
  rw [Nat.add_zero] at q0
  have H9 := Lib.hid h9
  obtain ⟨n5, hn5⟩ : ∃ n, s.pre.args.length = n := ⟨_, rfl⟩
  rw [hn5] at k11 hpl
  have j1 : (1 : Int) < (n5 : Int) := by omega
  have j2 : (2 : Int) < (n5 : Int) := by omega
  have j3 : (3 : Int) < (n5 : Int) := by omega
  have g1 : 1 < n5 := by omega
  have g2 : 2 < n5 := by omega
  have g3 : 3 < n5 := by omega
  rw [hal]
  obtain ⟨x0, hx0⟩ : ∃ x, o.args.getD 0 0 = x := ⟨_, rfl⟩
  obtain ⟨x1, hx1⟩ : ∃ x, o.args.getD 1 0 = x := ⟨_, rfl⟩
  obtain ⟨x2, hx2⟩ : ∃ x, o.args.getD 2 0 = x := ⟨_, rfl⟩
  obtain ⟨x3, hx3⟩ : ∃ x, o.args.getD 3 0 = x := ⟨_, rfl⟩
  obtain ⟨x4, hx4⟩ : ∃ x, o.args.getD 4 0 = x := ⟨_, rfl⟩
  obtain ⟨x5, hx5⟩ : ∃ x, o.args.getD 5 0 = x := ⟨_, rfl⟩
  obtain ⟨x6, hx6⟩ : ∃ x, o.args.getD 6 0 = x := ⟨_, rfl⟩
  obtain ⟨x7, hx7⟩ : ∃ x, o.args.getD 7 0 = x := ⟨_, rfl⟩
  obtain ⟨y1, hy1⟩ : ∃ x, s.pre.args.getD 1 0 = x := ⟨_, rfl⟩
  obtain ⟨y2, hy2⟩ : ∃ x, s.pre.args.getD 2 0 = x := ⟨_, rfl⟩
  obtain ⟨y3, hy3⟩ : ∃ x, s.pre.args.getD 3 0 = x := ⟨_, rfl⟩
  obtain ⟨ls, hls⟩ : ∃ x, s.last = x := ⟨_, rfl⟩
  obtain ⟨tp, htp⟩ : ∃ x, s.most = x := ⟨_, rfl⟩
  obtain ⟨pg, hpg⟩ : ∃ x, s.pages = x := ⟨_, rfl⟩
  rw [hx0] at q0
  rw [hx1] at q1
  rw [hx2] at q2
  rw [hx3] at q3
  rw [hx4] at q4
  rw [hx5] at q5
  rw [hx6] at q6
  rw [hx7] at q7
  rw [hy1] at r1
  rw [hy2] at r2
  rw [hy3] at r3
  have k3 : W9.cell? ⟨b, 3, none⟩ = some (.int .i64 ls) := by rw [← hls]; exact h9.cell (i := 3) rfl
  have k4 : W9.cell? ⟨b, 4, none⟩ = some (.int .i64 pg) := by rw [← hpg]; exact h9.cell (i := 4) rfl
  have k6 : W9.cell? ⟨b, 6, none⟩ = some (.int .i64 tp) := by rw [← htp]; exact h9.cell (i := 6) rfl
  obtain ⟨m1, hm1⟩ : ∃ m : Bool, (x0 == ls) = !m := ⟨!(x0 == ls), by simp⟩
  obtain ⟨b1, hb1⟩ : ∃ x, (x1 == y1) = x := ⟨_, rfl⟩
  obtain ⟨b2, hb2⟩ : ∃ x, (x2 == y2) = x := ⟨_, rfl⟩
  obtain ⟨b3', hb3'⟩ : ∃ x, (x3 == y3) = x := ⟨_, rfl⟩
  obtain ⟨b4, hb4⟩ : ∃ x, decide (0 ≤ x4) = x := ⟨_, rfl⟩
  obtain ⟨b5, hb5⟩ : ∃ x, decide (0 ≤ x5) = x := ⟨_, rfl⟩
  obtain ⟨b6, hb6⟩ : ∃ x, (x6 == tp) = x := ⟨_, rfl⟩
  obtain ⟨b7, hb7⟩ : ∃ x, (x7 == pg) = x := ⟨_, rfl⟩
  obtain ⟨m2, hm2⟩ : ∃ m : Bool, (!m1 && b1) = !m := ⟨!(!m1 && b1), by simp⟩
  obtain ⟨m3, hm3⟩ : ∃ m : Bool, (!m2 && b2) = !m := ⟨!(!m2 && b2), by simp⟩
  obtain ⟨m4, hm4⟩ : ∃ m : Bool, (!m3 && b3') = !m := ⟨!(!m3 && b3'), by simp⟩
  obtain ⟨m5, hm5⟩ : ∃ m : Bool, (!m4 && b4) = !m := ⟨!(!m4 && b4), by simp⟩
  obtain ⟨m6, hm6⟩ : ∃ m : Bool, (!m5 && b5) = !m := ⟨!(!m5 && b5), by simp⟩
  obtain ⟨m7, hm7⟩ : ∃ m : Bool, (!m6 && b6) = !m := ⟨!(!m6 && b6), by simp⟩
  obtain ⟨m8, hm8⟩ : ∃ m : Bool, (!m7 && b7) = !m := ⟨!(!m7 && b7), by simp⟩
  have hres : FR2 = !m8 := by
    rw [← HF2.out, ← hm8, ← hm7, ← hm6, ← hm5, ← hm4, ← hm3, ← hm2, ← hm1]
    unfold StM.post_
    simp only [hx0, hx1, hx2, hx3, hx4, hx5, hx6, hx7, hy1, hy2, hy3, hls, htp, hpg, hb1, hb2, hb3', hb4, hb5, hb6, hb7]
    simp only [Bool.and_assoc]
  have HRES := Lib.hid hres
  have hmv := mayV_false
  clear h9 hro hrp hal hpl hn5 hx0 hx1 hx2 hx3 hx4 hx5 hx6 hx7 hy1 hy2 hy3 hls htp hpg hres HF2
  refine wp_region_tail (fun w' => w' = W9) 79 (by kernel_rfl) (by kernel_rfl) hW9 ?_
  simp only [List.append, List.take_succ_cons, List.take_zero, List.drop_succ_cons, List.drop_zero]
  clear hW9
  iterate 9
    with_reducible refine wpQuiet_val (v := ?_) ?_
    rotate_left 1
    intro K hK
    refine ⟨by kernel_rfl, fun w9 hw9 => ?_, ?_⟩
    · subst hw9; go_simp; try with_reducible rfl
    go_simp
    with_reducible refine hK _ ?_
    clear hK K
  iterate 11
    with_reducible refine wpQuiet_maybe m1 (v := ?_) ?_
    rotate_left 1
    intro K hK
    refine ⟨by cases m1 <;> kernel_rfl, fun hb9 w9 hw9 => ?_, ?_⟩
    · subst hw9; go_simp; try with_reducible rfl
    go_simp
    with_reducible refine hK _ ?_
    clear hK K
  with_reducible refine wpQuiet_val (v := .bool (!m2)) ?_
  intro K hK
  refine ⟨by kernel_rfl, fun w9 hw9 => ?_, ?_⟩
  · subst hw9; cases m1 <;> (go_simp; first | done | (rw [← hm2]; rfl) | (simpa using hm2) | (simpa using hm2.symm))
  go_simp
  with_reducible refine hK _ ?_
  clear hK K
  iterate 1
    with_reducible refine wpQuiet_val (v := ?_) ?_
    rotate_left 1
    intro K hK
    refine ⟨by kernel_rfl, fun w9 hw9 => ?_, ?_⟩
    · subst hw9; go_simp; try with_reducible rfl
    go_simp
    with_reducible refine hK _ ?_
    clear hK K
  iterate 11
    with_reducible refine wpQuiet_maybe m2 (v := ?_) ?_
    rotate_left 1
    intro K hK
    refine ⟨by cases m2 <;> kernel_rfl, fun hb9 w9 hw9 => ?_, ?_⟩
    · subst hw9; go_simp; try with_reducible rfl
    go_simp
    with_reducible refine hK _ ?_
    clear hK K
  with_reducible refine wpQuiet_val (v := .bool (!m3)) ?_
  intro K hK
  refine ⟨by kernel_rfl, fun w9 hw9 => ?_, ?_⟩
  · subst hw9; cases m2 <;> (go_simp; first | done | (rw [← hm3]; rfl) | (simpa using hm3) | (simpa using hm3.symm))
  go_simp
  with_reducible refine hK _ ?_
  clear hK K
  iterate 1
    with_reducible refine wpQuiet_val (v := ?_) ?_
    rotate_left 1
    intro K hK
    refine ⟨by kernel_rfl, fun w9 hw9 => ?_, ?_⟩
    · subst hw9; go_simp; try with_reducible rfl
    go_simp
    with_reducible refine hK _ ?_
    clear hK K
  iterate 11
    with_reducible refine wpQuiet_maybe m3 (v := ?_) ?_
    rotate_left 1
    intro K hK
    refine ⟨by cases m3 <;> kernel_rfl, fun hb9 w9 hw9 => ?_, ?_⟩
    · subst hw9; go_simp; try with_reducible rfl
    go_simp
    with_reducible refine hK _ ?_
    clear hK K
  with_reducible refine wpQuiet_val (v := .bool (!m4)) ?_
  intro K hK
  refine ⟨by kernel_rfl, fun w9 hw9 => ?_, ?_⟩
  · subst hw9; cases m3 <;> (go_simp; first | done | (rw [← hm4]; rfl) | (simpa using hm4) | (simpa using hm4.symm))
  go_simp
  with_reducible refine hK _ ?_
  clear hK K
  iterate 1
    with_reducible refine wpQuiet_val (v := ?_) ?_
    rotate_left 1
    intro K hK
    refine ⟨by kernel_rfl, fun w9 hw9 => ?_, ?_⟩
    · subst hw9; go_simp; try with_reducible rfl
    go_simp
    with_reducible refine hK _ ?_
    clear hK K
  iterate 4
    with_reducible refine wpQuiet_maybe m4 (v := ?_) ?_
    rotate_left 1
    intro K hK
    refine ⟨by cases m4 <;> kernel_rfl, fun hb9 w9 hw9 => ?_, ?_⟩
    · subst hw9; go_simp; try with_reducible rfl
    go_simp
    with_reducible refine hK _ ?_
    clear hK K
  with_reducible refine wpQuiet_val (v := .bool (!m5)) ?_
  intro K hK
  refine ⟨by kernel_rfl, fun w9 hw9 => ?_, ?_⟩
  · subst hw9; cases m4 <;> (go_simp; first | done | (rw [← hm5]; rfl) | (simpa using hm5) | (simpa using hm5.symm))
  go_simp
  with_reducible refine hK _ ?_
  clear hK K
  iterate 1
    with_reducible refine wpQuiet_val (v := ?_) ?_
    rotate_left 1
    intro K hK
    refine ⟨by kernel_rfl, fun w9 hw9 => ?_, ?_⟩
    · subst hw9; go_simp; try with_reducible rfl
    go_simp
    with_reducible refine hK _ ?_
    clear hK K
  iterate 4
    with_reducible refine wpQuiet_maybe m5 (v := ?_) ?_
    rotate_left 1
    intro K hK
    refine ⟨by cases m5 <;> kernel_rfl, fun hb9 w9 hw9 => ?_, ?_⟩
    · subst hw9; go_simp; try with_reducible rfl
    go_simp
    with_reducible refine hK _ ?_
    clear hK K
  with_reducible refine wpQuiet_val (v := .bool (!m6)) ?_
  intro K hK
  refine ⟨by kernel_rfl, fun w9 hw9 => ?_, ?_⟩
  · subst hw9; cases m5 <;> (go_simp; first | done | (rw [← hm6]; rfl) | (simpa using hm6) | (simpa using hm6.symm))
  go_simp
  with_reducible refine hK _ ?_
  clear hK K
  iterate 1
    with_reducible refine wpQuiet_val (v := ?_) ?_
    rotate_left 1
    intro K hK
    refine ⟨by kernel_rfl, fun w9 hw9 => ?_, ?_⟩
    · subst hw9; go_simp; try with_reducible rfl
    go_simp
    with_reducible refine hK _ ?_
    clear hK K
  iterate 8
    with_reducible refine wpQuiet_maybe m6 (v := ?_) ?_
    rotate_left 1
    intro K hK
    refine ⟨by cases m6 <;> kernel_rfl, fun hb9 w9 hw9 => ?_, ?_⟩
    · subst hw9; go_simp; try with_reducible rfl
    go_simp
    with_reducible refine hK _ ?_
    clear hK K
  with_reducible refine wpQuiet_val (v := .bool (!m7)) ?_
  intro K hK
  refine ⟨by kernel_rfl, fun w9 hw9 => ?_, ?_⟩
  · subst hw9; cases m6 <;> (go_simp; first | done | (rw [← hm7]; rfl) | (simpa using hm7) | (simpa using hm7.symm))
  go_simp
  with_reducible refine hK _ ?_
  clear hK K
  iterate 1
    with_reducible refine wpQuiet_val (v := ?_) ?_
    rotate_left 1
    intro K hK
    refine ⟨by kernel_rfl, fun w9 hw9 => ?_, ?_⟩
    · subst hw9; go_simp; try with_reducible rfl
    go_simp
    with_reducible refine hK _ ?_
    clear hK K
  iterate 8
    with_reducible refine wpQuiet_maybe m7 (v := ?_) ?_
    rotate_left 1
    intro K hK
    refine ⟨by cases m7 <;> kernel_rfl, fun hb9 w9 hw9 => ?_, ?_⟩
    · subst hw9; go_simp; try with_reducible rfl
    go_simp
    with_reducible refine hK _ ?_
    clear hK K
  with_reducible refine wpQuiet_val (v := .bool (!m8)) ?_
  intro K hK
  refine ⟨by kernel_rfl, fun w9 hw9 => ?_, ?_⟩
  · subst hw9; cases m7 <;> (go_simp; first | done | (rw [← hm8]; rfl) | (simpa using hm8) | (simpa using hm8.symm))
  go_simp
  with_reducible refine hK _ ?_
  clear hK K
  refine wpQuiet_nil ?_
  clear hmv hm1 hm2 hm3 hm4 hm5 hm6 hm7 hm8 hb1 hb2 hb3' hb4 hb5 hb6 hb7 q0 q1 q2 q3 q4 q5 q6 q7 r1 r2 r3 k3 k4 k6 k11
  rintro w17 rfl
  go_wp2
  go_ret
  refine ⟨by rw [HRES.out] <;> rfl, ?_⟩
  rw [← HF1.out]
  exact (show StAt W A V b (s.post_ o).1 _ from ⟨_, _, _, _, ⟨H1.out.1, .inl HM.out⟩, H9.out⟩)

end Go.Proofs.Ytjeinldhbajknaa
