import Derived.Test.YtjeinldhbajknaaMDvRL
/-
  The document's page: 141. Conditions: those that each theorem names.
-/
namespace Go.Proofs.Ytjeinldhbajknaa
open Go.RowKit Go.Sp Go.Conc
variable {W w w' : World} {A : HProp}
set_option maxRecDepth 100000 in
set_option maxHeartbeats 4000000 in
theorem pg_push {V : List (Cmd × Value)} {b : Nat} {s : StM} {a : Option Addr} {ca : Nat} (o : Cmd) (hb : o.code = 141) (hs : -2000000000 ≤ s.deep ∧ s.deep ≤ 2000000000) (h : StAt W A V b s w) :
    Calls Try.prog 56 #[.pointer (some ⟨b, 0, none⟩), o.val (.slice a o.args.length ca)] w fun e w' => e = .returned (.bool true) ∧ StAt W A V b { s with deep := s.deep + 1, most := if s.most < s.deep + 1 then s.deep + 1 else s.most } w' := by
  have hw : wrap64 (s.deep + 1) = s.deep + 1 := wrap64_mid (x := s.deep + 1) (by omega) (by omega)
  obtain ⟨m2, hm2⟩ : ∃ m2, (if s.most < s.deep + 1 then s.deep + 1 else s.most) = m2 := ⟨_, rfl⟩
  rw [hm2]
  have hx := h.allocX (ropO o.code o.at_ (.slice a o.args.length ca) ⟨o.text.toArray⟩)
  obtain ⟨b3, hb3⟩ : ∃ b3, w.heap.size = b3 := ⟨_, rfl⟩
  rw [hb3] at hx
  obtain ⟨dv, av, pv, tv, h1, h2⟩ := hx
  have q0 := h2.r.r.r.cell (i := 0) rfl
  have k5 := h2.cell (i := 5) rfl
  have kl := h2.lt
  have f5 := h2.free (i := 5)
  have H1 := Lib.hid h1
  have H2 := Lib.hid h2
  have HM := Lib.hid hm2
  unfold Cmd.val
  have HB := Lib.hid hb
  clear h h1 h2 hb hm2 hs
  go_enter Try.func56, Try.ntmps56
  go_upto_region 1 with fail
  generalize w.alloc (.cells #[.int .i64 o.code, .int .i64 o.at_, .slice a o.args.length ca, .string ⟨o.text.toArray⟩] 34) = W1 at *
  clear hb3
  rw [HB.out] at q0
  have i9 : ((141 : Nat) : Int) = 141 := rfl
  go_upto_region 10 with fail
  have h3 := H2.out.set (i := 5) (v := .int .i64 (s.deep + 1))
  clear q0 k5 kl f5
  obtain ⟨W2, hW2⟩ : ∃ W2, W1.setCell ⟨b, 5, none⟩ (.int .i64 (s.deep + 1)) = W2 := ⟨_, rfl⟩
  rw [hW2] at h3 ⊢
  have h4 := h3.drew
  have k5 := h4.cell (i := 5) rfl
  have k6 := h4.cell (i := 6) rfl
  have kl := h4.lt
  have f6 := h4.free (i := 6)
  have H4 := Lib.hid h4
  clear h3 h4 hW2 H2 hw
  refine wp_region_tail (fun w' => w' = W2.drew) 12 (by kernel_rfl) (by kernel_rfl) rfl ?_
  simp only [List.take_succ_cons, List.take_zero, List.drop_succ_cons, List.drop_zero]
  obtain ⟨W9, hW9⟩ : ∃ W9, W2.drew = W9 := ⟨_, rfl⟩
  rw [hW9] at H4 k5 k6 kl f6
  rw [hW9]
  clear hW9
  refine wpQuiet_val (v := ?_) ?_
  rotate_left 1
  intro K hK
  refine ⟨by kernel_rfl, fun w9 hw9 => ?_, ?_⟩
  · subst hw9; go_simp; try with_reducible rfl
  go_simp
  refine hK _ ?_
  clear hK K
  refine wpQuiet_val (v := ?_) ?_
  rotate_left 1
  intro K hK
  refine ⟨by kernel_rfl, fun w9 hw9 => ?_, ?_⟩
  · subst hw9; go_simp; try with_reducible rfl
  go_simp
  refine hK _ ?_
  clear hK K
  refine wpQuiet_val (v := ?_) ?_
  rotate_left 1
  intro K hK
  refine ⟨by kernel_rfl, fun w9 hw9 => ?_, ?_⟩
  · subst hw9; go_simp; try with_reducible rfl
  go_simp
  refine hK _ ?_
  clear hK K
  refine wpQuiet_val (v := ?_) ?_
  rotate_left 1
  intro K hK
  refine ⟨by kernel_rfl, fun w9 hw9 => ?_, ?_⟩
  · subst hw9; go_simp; try with_reducible rfl
  go_simp
  refine hK _ ?_
  clear hK K
  refine wpQuiet_val (v := ?_) ?_
  rotate_left 1
  intro K hK
  refine ⟨by kernel_rfl, fun w9 hw9 => ?_, ?_⟩
  · subst hw9; go_simp; try with_reducible rfl
  go_simp
  refine hK _ ?_
  clear hK K
  refine wpQuiet_val (v := ?_) ?_
  rotate_left 1
  intro K hK
  refine ⟨by kernel_rfl, fun w9 hw9 => ?_, ?_⟩
  · subst hw9; go_simp; try with_reducible rfl
  go_simp
  refine hK _ ?_
  clear hK K
  refine wpQuiet_val (v := ?_) ?_
  rotate_left 1
  intro K hK
  refine ⟨by kernel_rfl, fun w9 hw9 => ?_, ?_⟩
  · subst hw9; go_simp; try with_reducible rfl
  go_simp
  refine hK _ ?_
  clear hK K
  refine wpQuiet_val (v := ?_) ?_
  rotate_left 1
  intro K hK
  refine ⟨by kernel_rfl, fun w9 hw9 => ?_, ?_⟩
  · subst hw9; go_simp; try with_reducible rfl
  go_simp
  refine hK _ ?_
  clear hK K
  refine wpQuiet_val (v := ?_) ?_
  rotate_left 1
  intro K hK
  refine ⟨by kernel_rfl, fun w9 hw9 => ?_, ?_⟩
  · subst hw9; go_simp; try with_reducible rfl
  go_simp
  refine hK _ ?_
  clear hK K
  refine wpQuiet_val (v := .int .i64 m2) ?_
  intro K hK
  refine ⟨by kernel_rfl, fun w9 hw9 => ?_, ?_⟩
  · subst hw9
    rw [← HM.out]
    by_cases hlt : s.most < s.deep + 1
    · rw [if_pos hlt]; go_simp; try omega
    · rw [if_neg hlt]; go_simp; try omega
  go_simp
  refine hK _ ?_
  clear hK K
  refine wpQuiet_val (v := ?_) ?_
  rotate_left 1
  intro K hK
  refine ⟨by kernel_rfl, fun w9 hw9 => ?_, ?_⟩
  · subst hw9; go_simp; try with_reducible rfl
  go_simp
  refine hK _ ?_
  clear hK K
  refine wpQuiet_val (v := ?_) ?_
  rotate_left 1
  intro K hK
  refine ⟨by kernel_rfl, fun w9 hw9 => ?_, ?_⟩
  · subst hw9; go_simp; try with_reducible rfl
  go_simp
  refine hK _ ?_
  clear hK K
  refine wpQuiet_nil ?_
  rintro w17 rfl
  have h5 := H4.out.set (i := 6) (v := .int .i64 m2)
  have H5 := Lib.hid h5
  clear h5 k5
  go_wp2
  go_ret
  exact ⟨rfl, (Lib.hid (show StAt W (pts b3 (ropO o.code o.at_ (.slice a o.args.length ca) ⟨o.text.toArray⟩) * A) V b ({ s with deep := s.deep + 1, most := m2 } : StM) _ from ⟨dv, av, pv, tv, H1.out, H5.out⟩)).out.less⟩

end Go.Proofs.Ytjeinldhbajknaa

/-
  The document's page: a font. Conditions: those that each theorem names.
-/
namespace Go.Proofs.Ytjeinldhbajknaa
open Go.RowKit Go.Sp Go.Conc
variable {W w w' : World} {A : HProp}

set_option maxRecDepth 100000 in
set_option maxHeartbeats 4000000 in
theorem pg_font {V : List (Cmd × Value)} {b : Nat} {s : StM} {a : Option Addr} {ca : Nat} (o : Cmd) (hb : 171 ≤ o.code ∧ o.code ≤ 234) (hl : s.defs.length ≤ 4000000) (h : StAt W A V b s w) :
    Calls Try.prog 56 #[.pointer (some ⟨b, 0, none⟩), o.val (.slice a o.args.length ca)] w fun e w' => e = .returned (.bool (decide (foundM ((o.code : Int) - 171) s.defs < s.defs.length))) ∧ StAt W A V b { s with font := true } w' := by
  have hw : wrap64 ((o.code : Int) - 171) = (o.code : Int) - 171 := wrap64_mid (x := (o.code : Int) - 171) (by omega) (by omega)
  have g234 : ¬ (234 : Int) < (o.code : Int) := by omega
  have s132 : ¬ (o.code : Int) < (132 : Int) := by omega
  have l136 : ¬ (o.code : Int) ≤ (136 : Int) := by omega
  have l238 : (o.code : Int) ≤ (238 : Int) := by omega
  have g133 : (133 : Int) ≤ (o.code : Int) := by omega
  have g171 : (171 : Int) ≤ (o.code : Int) := by omega
  have e140 : ((o.code : Int) == 140) = false := by rw [beq_eq_false_iff_ne]; omega
  have n140 : ¬ ((o.code : Int) = 140) := by omega
  have e141 : ((o.code : Int) == 141) = false := by rw [beq_eq_false_iff_ne]; omega
  have n141 : ¬ ((o.code : Int) = 141) := by omega
  have e142 : ((o.code : Int) == 142) = false := by rw [beq_eq_false_iff_ne]; omega
  have n142 : ¬ ((o.code : Int) = 142) := by omega
  have hx := h.allocX (ropO o.code o.at_ (.slice a o.args.length ca) ⟨o.text.toArray⟩)
  obtain ⟨b3, hb3⟩ : ∃ b3, w.heap.size = b3 := ⟨_, rfl⟩
  rw [hb3] at hx
  obtain ⟨dv, av, pv, tv, h1, h2⟩ := hx
  obtain ⟨da, dc, hdv, -⟩ := h2.r.row_val
  subst hdv
  have q0 := h2.r.r.r.cell (i := 0) rfl
  have q2 := h2.r.r.r.cell (i := 2) rfl
  have k7 := h2.cell (i := 7) rfl
  have kl := h2.lt
  have f7 := h2.free (i := 7)
  have H1 := Lib.hid h1
  have H2 := Lib.hid h2
  have HLL := Lib.hid hl
  unfold Cmd.val
  clear h h1 h2 hl hb
  go_enter Try.func56, Try.ntmps56
  go_upto_region 1 with fail
  generalize w.alloc (.cells #[.int .i64 o.code, .int .i64 o.at_, .slice a o.args.length ca, .string ⟨o.text.toArray⟩] 34) = W1 at *
  clear hb3
  go_upto_region 19 with fail
  have h3 := H2.out.set (i := 7) (v := .bool true)
  obtain ⟨W2, hW2⟩ : ∃ W2, W1.setCell ⟨b, 7, none⟩ (.bool true) = W2 := ⟨_, rfl⟩
  rw [hW2] at h3 ⊢
  have HF := Lib.hid (found_any ((o.code : Int) - 171) HLL.out (Sat.rd h3.drew.r))
  have k1 := h3.drew.cell (i := 1) rfl
  have H4 := Lib.hid h3.drew
  clear h3 hW2 H2 q0 q2 k7 kl f7
  obtain ⟨W9, hW9⟩ : ∃ W9, W2.drew = W9 := ⟨_, rfl⟩
  rw [hW9] at H4 k1 HF
  refine wp_region_tail (fun w' => w' = W9) 12 (by kernel_rfl) (by kernel_rfl) hW9 ?_
  clear hW9
  simp only [List.take_succ_cons, List.take_zero, List.drop_succ_cons, List.drop_zero]
  refine wpQuiet_val (v := ?_) ?_
  rotate_left 1
  intro K hK
  refine ⟨by kernel_rfl, fun w9 hw9 => ?_, ?_⟩
  · subst hw9; go_simp; try with_reducible rfl
  go_simp
  refine hK _ ?_
  clear hK K
  refine wpQuiet_val (v := ?_) ?_
  rotate_left 1
  intro K hK
  refine ⟨by kernel_rfl, fun w9 hw9 => ?_, ?_⟩
  · subst hw9; go_simp; try with_reducible rfl
  go_simp
  refine hK _ ?_
  clear hK K
  refine wpQuiet_val (v := ?_) ?_
  rotate_left 1
  intro K hK
  refine ⟨by kernel_rfl, fun w9 hw9 => ?_, ?_⟩
  · subst hw9; go_simp; try with_reducible rfl
  go_simp
  refine hK _ ?_
  clear hK K
  refine wpQuiet_val (v := ?_) ?_
  rotate_left 1
  intro K hK
  refine ⟨by kernel_rfl, fun w9 hw9 => ?_, ?_⟩
  · subst hw9; go_simp; try with_reducible rfl
  go_simp
  refine hK _ ?_
  clear hK K
  refine wpQuiet_val (v := ?_) ?_
  rotate_left 1
  intro K hK
  refine ⟨by kernel_rfl, fun w9 hw9 => ?_, ?_⟩
  · subst hw9; go_simp; try with_reducible rfl
  go_simp
  refine hK _ ?_
  clear hK K
  refine wpQuiet_step (fun K hK => ?_)
  go_simp
  refine ⟨.int .i64 (foundM ((o.code : Int) - 171) s.defs), ?_, ?_⟩
  · with_reducible refine Calls.mono HF.out ?_
    exact fun _ _ h => ⟨h.1, h.2.symm⟩
  refine hK _ ?_
  clear hK K
  refine wpQuiet_val (v := ?_) ?_
  rotate_left 1
  intro K hK
  refine ⟨by kernel_rfl, fun w9 hw9 => ?_, ?_⟩
  · subst hw9; go_simp; try with_reducible rfl
  go_simp
  refine hK _ ?_
  clear hK K
  refine wpQuiet_val (v := ?_) ?_
  rotate_left 1
  intro K hK
  refine ⟨by kernel_rfl, fun w9 hw9 => ?_, ?_⟩
  · subst hw9; go_simp; try with_reducible rfl
  go_simp
  refine hK _ ?_
  clear hK K
  refine wpQuiet_val (v := ?_) ?_
  rotate_left 1
  intro K hK
  refine ⟨by kernel_rfl, fun w9 hw9 => ?_, ?_⟩
  · subst hw9; go_simp; try with_reducible rfl
  go_simp
  refine hK _ ?_
  clear hK K
  refine wpQuiet_val (v := ?_) ?_
  rotate_left 1
  intro K hK
  refine ⟨by kernel_rfl, fun w9 hw9 => ?_, ?_⟩
  · subst hw9; go_simp; try with_reducible rfl
  go_simp
  refine hK _ ?_
  clear hK K
  refine wpQuiet_val (v := ?_) ?_
  rotate_left 1
  intro K hK
  refine ⟨by kernel_rfl, fun w9 hw9 => ?_, ?_⟩
  · subst hw9; go_simp; try with_reducible rfl
  go_simp
  refine hK _ ?_
  clear hK K
  refine wpQuiet_val (v := ?_) ?_
  rotate_left 1
  intro K hK
  refine ⟨by kernel_rfl, fun w9 hw9 => ?_, ?_⟩
  · subst hw9; go_simp; try with_reducible rfl
  go_simp
  refine hK _ ?_
  clear hK K
  refine wpQuiet_nil ?_
  rintro w17 rfl
  clear k1 HF
  go_wp2
  go_ret
  exact ⟨by simp, (Lib.hid (show StAt W (pts b3 (ropO o.code o.at_ (.slice a o.args.length ca) ⟨o.text.toArray⟩) * A) V b ({ s with font := true } : StM) _ from ⟨_, av, pv, tv, H1.out, H4.out⟩)).out.less⟩

set_option maxRecDepth 100000 in
set_option maxHeartbeats 4000000 in
theorem pg_fnt {V : List (Cmd × Value)} {b : Nat} {s : StM} {a : Option Addr} {ca : Nat} (o : Cmd) (hb : 235 ≤ o.code ∧ o.code ≤ 238) (hal : 0 < o.args.length) (hr : Rd w (.slice a o.args.length ca) o.args.length 1 (intsL o.args)) (hl : s.defs.length ≤ 4000000) (h : StAt W A V b s w) :
    Calls Try.prog 56 #[.pointer (some ⟨b, 0, none⟩), o.val (.slice a o.args.length ca)] w fun e w' => e = .returned (.bool (decide (foundM (o.args.getD 0 0) s.defs < s.defs.length))) ∧ StAt W A V b { s with font := true } w' := by
  obtain ⟨g, off, ha, y0⟩ := rd_arg hr 0 hal
  subst ha
  rw [Nat.add_zero] at y0
  obtain ⟨x, hx0⟩ : ∃ x, o.args.getD 0 0 = x := ⟨_, rfl⟩
  rw [hx0] at y0 ⊢
  have z0 := ((Ext.refl w).alloc (o := ropO o.code o.at_ (.slice (some ⟨g, off, none⟩) o.args.length ca) ⟨o.text.toArray⟩)).cell y0
  have g234 : (234 : Int) < (o.code : Int) := by omega
  have hal2 : (0 : Int) < (o.args.length : Int) := by omega
  have hw : wrap64 ((o.code : Int) - 171) = (o.code : Int) - 171 := wrap64_mid (x := (o.code : Int) - 171) (by omega) (by omega)
  clear hr y0 hx0
  have s132 : ¬ (o.code : Int) < (132 : Int) := by omega
  have l136 : ¬ (o.code : Int) ≤ (136 : Int) := by omega
  have l238 : (o.code : Int) ≤ (238 : Int) := by omega
  have g133 : (133 : Int) ≤ (o.code : Int) := by omega
  have g171 : (171 : Int) ≤ (o.code : Int) := by omega
  have e140 : ((o.code : Int) == 140) = false := by rw [beq_eq_false_iff_ne]; omega
  have n140 : ¬ ((o.code : Int) = 140) := by omega
  have e141 : ((o.code : Int) == 141) = false := by rw [beq_eq_false_iff_ne]; omega
  have n141 : ¬ ((o.code : Int) = 141) := by omega
  have e142 : ((o.code : Int) == 142) = false := by rw [beq_eq_false_iff_ne]; omega
  have n142 : ¬ ((o.code : Int) = 142) := by omega
  have hx := h.allocX (ropO o.code o.at_ (.slice (some ⟨g, off, none⟩) o.args.length ca) ⟨o.text.toArray⟩)
  obtain ⟨b3, hb3⟩ : ∃ b3, w.heap.size = b3 := ⟨_, rfl⟩
  rw [hb3] at hx
  obtain ⟨dv, av, pv, tv, h1, h2⟩ := hx
  obtain ⟨da, dc, hdv, -⟩ := h2.r.row_val
  subst hdv
  have q0 := h2.r.r.r.cell (i := 0) rfl
  have q2 := h2.r.r.r.cell (i := 2) rfl
  have k7 := h2.cell (i := 7) rfl
  have kl := h2.lt
  have f7 := h2.free (i := 7)
  have H1 := Lib.hid h1
  have H2 := Lib.hid h2
  have HLL := Lib.hid hl
  unfold Cmd.val
  clear h h1 h2 hl hb
  go_enter Try.func56, Try.ntmps56
  go_upto_region 1 with fail
  generalize w.alloc (.cells #[.int .i64 o.code, .int .i64 o.at_, .slice (some ⟨g, off, none⟩) o.args.length ca, .string ⟨o.text.toArray⟩] 34) = W1 at *
  clear hb3
  go_upto_region 19 with fail
  have h3 := H2.out.set (i := 7) (v := .bool true)
  obtain ⟨W2, hW2⟩ : ∃ W2, W1.setCell ⟨b, 7, none⟩ (.bool true) = W2 := ⟨_, rfl⟩
  rw [hW2] at h3 ⊢
  have HF := Lib.hid (found_any x HLL.out (Sat.rd h3.drew.r))
  have k1 := h3.drew.cell (i := 1) rfl
  have H4 := Lib.hid h3.drew
  clear h3 hW2 H2 q0 q2 k7 kl f7 z0
  obtain ⟨W9, hW9⟩ : ∃ W9, W2.drew = W9 := ⟨_, rfl⟩
  rw [hW9] at H4 k1 HF
  refine wp_region_tail (fun w' => w' = W9) 12 (by kernel_rfl) (by kernel_rfl) hW9 ?_
  clear hW9
  simp only [List.take_succ_cons, List.take_zero, List.drop_succ_cons, List.drop_zero]
  refine wpQuiet_val (v := ?_) ?_
  rotate_left 1
  intro K hK
  refine ⟨by kernel_rfl, fun w9 hw9 => ?_, ?_⟩
  · subst hw9; go_simp; try with_reducible rfl
  go_simp
  refine hK _ ?_
  clear hK K
  refine wpQuiet_val (v := ?_) ?_
  rotate_left 1
  intro K hK
  refine ⟨by kernel_rfl, fun w9 hw9 => ?_, ?_⟩
  · subst hw9; go_simp; try with_reducible rfl
  go_simp
  refine hK _ ?_
  clear hK K
  refine wpQuiet_val (v := ?_) ?_
  rotate_left 1
  intro K hK
  refine ⟨by kernel_rfl, fun w9 hw9 => ?_, ?_⟩
  · subst hw9; go_simp; try with_reducible rfl
  go_simp
  refine hK _ ?_
  clear hK K
  refine wpQuiet_val (v := ?_) ?_
  rotate_left 1
  intro K hK
  refine ⟨by kernel_rfl, fun w9 hw9 => ?_, ?_⟩
  · subst hw9; go_simp; try with_reducible rfl
  go_simp
  refine hK _ ?_
  clear hK K
  refine wpQuiet_val (v := ?_) ?_
  rotate_left 1
  intro K hK
  refine ⟨by kernel_rfl, fun w9 hw9 => ?_, ?_⟩
  · subst hw9; go_simp; try with_reducible rfl
  go_simp
  refine hK _ ?_
  clear hK K
  refine wpQuiet_step (fun K hK => ?_)
  go_simp
  refine ⟨.int .i64 (foundM x s.defs), ?_, ?_⟩
  · with_reducible refine Calls.mono HF.out ?_
    exact fun _ _ h => ⟨h.1, h.2.symm⟩
  refine hK _ ?_
  clear hK K
  refine wpQuiet_val (v := ?_) ?_
  rotate_left 1
  intro K hK
  refine ⟨by kernel_rfl, fun w9 hw9 => ?_, ?_⟩
  · subst hw9; go_simp; try with_reducible rfl
  go_simp
  refine hK _ ?_
  clear hK K
  refine wpQuiet_val (v := ?_) ?_
  rotate_left 1
  intro K hK
  refine ⟨by kernel_rfl, fun w9 hw9 => ?_, ?_⟩
  · subst hw9; go_simp; try with_reducible rfl
  go_simp
  refine hK _ ?_
  clear hK K
  refine wpQuiet_val (v := ?_) ?_
  rotate_left 1
  intro K hK
  refine ⟨by kernel_rfl, fun w9 hw9 => ?_, ?_⟩
  · subst hw9; go_simp; try with_reducible rfl
  go_simp
  refine hK _ ?_
  clear hK K
  refine wpQuiet_val (v := ?_) ?_
  rotate_left 1
  intro K hK
  refine ⟨by kernel_rfl, fun w9 hw9 => ?_, ?_⟩
  · subst hw9; go_simp; try with_reducible rfl
  go_simp
  refine hK _ ?_
  clear hK K
  refine wpQuiet_val (v := ?_) ?_
  rotate_left 1
  intro K hK
  refine ⟨by kernel_rfl, fun w9 hw9 => ?_, ?_⟩
  · subst hw9; go_simp; try with_reducible rfl
  go_simp
  refine hK _ ?_
  clear hK K
  refine wpQuiet_val (v := ?_) ?_
  rotate_left 1
  intro K hK
  refine ⟨by kernel_rfl, fun w9 hw9 => ?_, ?_⟩
  · subst hw9; go_simp; try with_reducible rfl
  go_simp
  refine hK _ ?_
  clear hK K
  refine wpQuiet_nil ?_
  rintro w17 rfl
  clear k1 HF
  go_wp2
  go_ret
  exact ⟨by simp, (Lib.hid (show StAt W (pts b3 (ropO o.code o.at_ (.slice (some ⟨g, off, none⟩) o.args.length ca) ⟨o.text.toArray⟩) * A) V b ({ s with font := true } : StM) _ from ⟨_, av, pv, tv, H1.out, H4.out⟩)).out.less⟩

theorem page_any {V : List (Cmd × Value)} {b : Nat} {s : StM} {a : Option Addr} {ca : Nat} (o : Cmd) (hc : o.code ≤ 255) (hs : -2000000000 ≤ s.deep ∧ s.deep ≤ 2000000000) (hl : s.defs.length ≤ 4000000) (hal : 235 ≤ o.code ∧ o.code ≤ 238 → 0 < o.args.length)
    (hr : Rd w (.slice a o.args.length ca) o.args.length 1 (intsL o.args)) (h : StAt W A V b s w) :
    Calls Try.prog 56 #[.pointer (some ⟨b, 0, none⟩), o.val (.slice a o.args.length ca)] w fun e w' => e = .returned (.bool (s.page o).2) ∧ StAt W A V b (s.page o).1 w' := by
  have hcs : (o.code ≤ 131) ∨ (o.code = 132) ∨ (133 ≤ o.code ∧ o.code ≤ 136) ∨ (137 ≤ o.code ∧ o.code ≤ 139) ∨ (o.code = 140) ∨ (o.code = 141) ∨ (o.code = 142) ∨ (143 ≤ o.code ∧ o.code ≤ 170) ∨ (171 ≤ o.code ∧ o.code ≤ 234) ∨ (235 ≤ o.code ∧ o.code ≤ 238) ∨ (239 ≤ o.code ∧ o.code ≤ 255) := by omega
  rcases hcs with hb | hb | hb | hb | hb | hb | hb | hb | hb | hb | hb
  · have e : s.page o = (s, s.font) := by
      unfold StM.page
      repeat (first | rw [if_pos (by omega)] | rw [if_neg (by omega)])
    rw [e]
    exact pg_set o hb h
  · have e : s.page o = (s, true) := by
      unfold StM.page
      repeat (first | rw [if_pos (by omega)] | rw [if_neg (by omega)])
    rw [e]
    exact pg_132 o hb h
  · have e : s.page o = (s, s.font) := by
      unfold StM.page
      repeat (first | rw [if_pos (by omega)] | rw [if_neg (by omega)])
    rw [e]
    exact pg_put o hb h
  · have e : s.page o = (s, true) := by
      unfold StM.page
      repeat (first | rw [if_pos (by omega)] | rw [if_neg (by omega)])
    rw [e]
    exact pg_137 o hb h
  · have e : s.page o = ({ s with part := 1 }, s.deep == 0) := by
      unfold StM.page
      repeat (first | rw [if_pos (by omega)] | rw [if_neg (by omega)])
    rw [e]
    exact pg_eop o hb h
  · have e : s.page o = ({ s with deep := s.deep + 1, most := if s.most < s.deep + 1 then s.deep + 1 else s.most }, true) := by
      unfold StM.page
      repeat (first | rw [if_pos (by omega)] | rw [if_neg (by omega)])
    rw [e]
    exact pg_push o hb hs h
  · have e : s.page o = ({ s with deep := s.deep - 1 }, decide (1 ≤ s.deep)) := by
      unfold StM.page
      repeat (first | rw [if_pos (by omega)] | rw [if_neg (by omega)])
      congr 1
      exact decide_eq_decide.2 (by omega)
    rw [e]
    exact pg_pop o hb hs h
  · have e : s.page o = (s, true) := by
      unfold StM.page
      repeat (first | rw [if_pos (by omega)] | rw [if_neg (by omega)])
    rw [e]
    exact pg_143 o hb h
  · have e : s.page o = ({ s with font := true }, decide (foundM ((o.code : Int) - 171) s.defs < s.defs.length)) := by
      unfold StM.page
      repeat (first | rw [if_pos (by omega)] | rw [if_neg (by omega)])
    rw [e]
    exact pg_font o hb hl h
  · have e : s.page o = ({ s with font := true }, decide (foundM (o.args.getD 0 0) s.defs < s.defs.length)) := by
      unfold StM.page
      repeat (first | rw [if_pos (by omega)] | rw [if_neg (by omega)])
    rw [e]
    exact pg_fnt o hb (hal hb) hr hl h
  · have e : s.page o = (s, true) := by
      unfold StM.page
      repeat (first | rw [if_pos (by omega)] | rw [if_neg (by omega)])
    rw [e]
    exact pg_239 o hb h

end Go.Proofs.Ytjeinldhbajknaa
