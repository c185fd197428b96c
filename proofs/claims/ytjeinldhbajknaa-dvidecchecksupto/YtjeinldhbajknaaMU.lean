import Derived.Test.YtjeinldhbajknaaMDvS
import Derived.Test.YtjeinldhbajknaaMQ
import Derived.Test.YtjeinldhbajknaaMA
import Derived.Test.YtjeinldhbajknaaMLA
import Derived.KernelRfl
/-
  Check, Ops, Fonts, Last. Conditions: those that each theorem names.
-/
namespace Go.Proofs.Ytjeinldhbajknaa
open Go.RowKit Go.Sp Go.Conc
variable {W w w' : World} {A R : HProp}

theorem whole_res {v : Value} {l : List UInt8} (hv : Rd w v l.length 1 (l.map byteV)) :
    Calls Try.prog 23 #[v] w fun e w' => (fileM l = none ∧ errM l ≠ 0 ∧ e = .returned (.tuple #[.pointer none, .int .i64 (errM l)]) ∧ Sat w (own w) w') ∨
      ∃ F b, fileM l = some F ∧ errM l = 0 ∧ e = .returned (.tuple #[.pointer (some ⟨b, 0, none⟩), .int .i64 0]) ∧ FileAt w (own w) b F w' := by
  refine (whole_any hv).mono fun e w' h => ?_
  rcases h with ⟨h1, h2, h3⟩ | ⟨h1, ⟨K, h2⟩, h3, h4⟩ | ⟨h1, K, F, b, h2, h3, h4⟩
  · left
    have e1 : errM l = 6 := by unfold errM; rw [if_pos h1]
    exact ⟨by unfold fileM; rw [if_pos h1], by rw [e1]; decide, by rw [e1]; exact h2, h3⟩
  · left
    rw [wholeM_wk] at h2
    have h5 : wholeM [] l = none := by
      cases hh : wholeM [] l with
      | none => rfl
      | some F => rw [hh] at h2; cases h2
    have e1 : errM l = 240 := by unfold errM; rw [if_neg (by omega), h5]; rfl
    exact ⟨by unfold fileM; rw [if_neg (by omega), h5], by rw [e1]; decide, by rw [e1]; exact h3, h4⟩
  · right
    rw [wholeM_wk] at h2
    cases hh : wholeM [] l with
    | none => rw [hh] at h2; cases h2
    | some G =>
      rw [hh] at h2
      cases h2
      have hk : G.keep = [] := by
        have h9 := wholeM_wk [] l
        rw [hh] at h9
        have h10 : G = G.wk [] := by simpa using h9
        rw [h10]
        rfl
      exact ⟨G, b, by unfold fileM; rw [if_neg (by omega), hh], by unfold errM; rw [if_neg (by omega), hh]; rfl, h3, FileAt.keep_less (K := K) h4 fun x hx => by rw [hk] at hx; cases hx⟩

theorem FileAt.frame {G : HProp} {b : Nat} {F : FileM} {w1 w2 : World} (hG : Sat W G w1) (h : FileAt w1 (own w1) b F w2) : FileAt W G b F w2 := by
  obtain ⟨m, fb, tb, nt, ov, av, pv, V, h2, h3⟩ := h
  refine ⟨m, fb, tb, nt, ov, av, pv, V, h2, ?_⟩
  have h4 := Sat.frame hG (A := pts b (fileO ov fb av tb F pv) * (roH m * (row ov V.length 33 4 (flatO V) * (mapE (Value.int .i64) DefM.val fb F.nf F.fonts * (row av F.again.length 56 5 (flatD F.again) * mapE (Value.int .i64) (Value.int .i64) tb nt F.told))))) (h3.of_eq (by ac_rfl))
  exact h4.of_eq (by ac_rfl)
/-- what the end says can be read -/
theorem FileAt.post {b : Nat} {F : FileM} (h : FileAt W A b F w) (hp : F.post.args.length = 8) : ∃ a c, w.cell? ⟨b, 13, none⟩ = some (.slice a 8 c) ∧ Rd w (.slice a 8 c) F.post.args.length 1 (intsL F.post.args) := by
  obtain ⟨m, fb, tb, nt, ov, av, pv, V, h2, h3⟩ := h
  have hm : (F.post, pv) ∈ V := by
    rcases h2.2.2 with h | h
    · exact h
    · rw [h.1] at hp; cases hp
  have hr := h3.r.args_rd h2.2.1.1 hm
  obtain ⟨_, _, a, c, hv, -⟩ := id hr
  simp only [hp] at hv
  subst hv
  exact ⟨a, c, h3.cell rfl, hr⟩

theorem check_any {v : Value} {l : List UInt8} (hv : Rd w v l.length 1 (l.map byteV)) :
    Calls Try.prog 15 #[v] w fun e w' => e = .returned (.int .i64 (errM l)) ∧ Sat w (own w) w' := by
  have HW := Lib.hid (whole_res hv)
  clear hv
  go_enter Try.func15, Try.ntmps15
  go_wp2_with fail
  refine Calls.mono HW.out ?_
  rintro e w1 (⟨-, -, rfl, h1⟩ | ⟨F, b, -, he, rfl, h1⟩)
  · have H1 := Lib.hid h1
    clear h1 HW
    go_wp2
    go_ret
    exact ⟨rfl, H1.out⟩
  · have H1 := Lib.hid h1
    have HE := Lib.hid he
    clear h1 HW he
    go_wp2
    go_ret
    exact ⟨by rw [HE.out]; rfl, H1.out.sat⟩

/-- the lists of commands -/
theorem ops_any {v : Value} {l : List UInt8} (hv : Rd w v l.length 1 (l.map byteV)) :
    Calls Try.prog 8 #[v] w fun e w' => ∃ (V : List (Cmd × Value)) (ov : Value), V.map Prod.fst = opsM l ∧ e = .returned (.tuple #[ov, .int .i64 (errM l)]) ∧
      Sat w (row ov V.length 33 4 (flatO V) * (argsH V * own w)) w' := by
  have HW := Lib.hid (whole_res hv)
  clear hv
  go_enter Try.func8, Try.ntmps8
  go_wp2_with fail
  refine Calls.mono HW.out ?_
  rintro e w1 (⟨hf, hn, rfl, h1⟩ | ⟨F, b, hf, he, rfl, h1⟩)
  · have H1 := Lib.hid h1
    have HF := Lib.hid hf
    clear h1 HW hf
    obtain ⟨x, hx⟩ : ∃ x, errM l = x := ⟨_, rfl⟩
    rw [hx] at hn ⊢
    have HXX := Lib.hid hx
    clear hx
    have hnb : (x != 0) = true := by simpa using hn
    go_wp2
    go_ret2
    exact ⟨[], .slice none 0 0, by unfold opsM; rw [HF.out]; rfl, by rw [HXX.out]; rfl, (Sat.row_nil (e := 33) (size := 4) H1.out).of_eq (by simp only [argsH]; rw [emp_star]; rfl)⟩
  · obtain ⟨m, fb, tb, nt, ov, av, pv, V, h2, h3⟩ := h1
    have c0 := h3.cell (i := 0) rfl
    have H2 := Lib.hid h2
    have H3 := Lib.hid h3
    have HE := Lib.hid he
    have HF := Lib.hid hf
    clear h2 h3 HW he hf
    go_wp2
    go_ret2
    refine ⟨V, ov, by unfold opsM; rw [HF.out]; exact H2.out.1, by rw [HE.out]; rfl, ?_⟩
    have h4 := H3.out.r.of_ro H2.out.2.1.1
    exact (h4.of_eq (show _ = mapE (Value.int .i64) DefM.val fb F.nf F.fonts * (row av F.again.length 56 5 (flatD F.again) * (mapE (Value.int .i64) (Value.int .i64) tb nt F.told * (row ov V.length 33 4 (flatO V) * (argsH V * own w)))) by ac_rfl)).r.r.r

theorem fonts_any {v : Value} {l : List UInt8} (hv : Rd w v l.length 1 (l.map byteV)) :
    Calls Try.prog 16 #[v] w fun e w' => ∃ (av : Value), e = .returned (.tuple #[av, .int .i64 (errM l)]) ∧
      Sat w (row av (againM l).length 56 5 (flatD (againM l)) * own w) w' := by
  have HW := Lib.hid (whole_res hv)
  clear hv
  go_enter Try.func16, Try.ntmps16
  go_wp2_with fail
  refine Calls.mono HW.out ?_
  rintro e w1 (⟨hf, hn, rfl, h1⟩ | ⟨F, b, hf, he, rfl, h1⟩)
  · have H1 := Lib.hid h1
    have HF := Lib.hid hf
    clear h1 HW hf
    obtain ⟨x, hx⟩ : ∃ x, errM l = x := ⟨_, rfl⟩
    rw [hx] at hn ⊢
    have HXX := Lib.hid hx
    clear hx
    have hnb : (x != 0) = true := by simpa using hn
    go_wp2
    go_ret2
    have e1 : againM l = [] := by unfold againM; rw [HF.out]
    exact ⟨.slice none 0 0, by rw [HXX.out]; rfl, by rw [e1]; exact Sat.row_nil (e := 56) (size := 5) H1.out⟩
  · obtain ⟨m, fb, tb, nt, ov, av, pv, V, h2, h3⟩ := h1
    have c0 := h3.cell (i := 2) rfl
    have H3 := Lib.hid h3
    have HE := Lib.hid he
    have HF := Lib.hid hf
    clear h2 h3 HW he hf
    go_wp2
    go_ret2
    have e1 : againM l = F.again := by unfold againM; rw [HF.out]
    refine ⟨av, by rw [HE.out]; rfl, ?_⟩
    rw [e1]
    exact (H3.out.r.r.r.r.of_eq (show _ = mapE (Value.int .i64) (Value.int .i64) tb nt F.told * (row av F.again.length 56 5 (flatD F.again) * own w) by ac_rfl)).r

/-- the end's five numbers -/
def tailV (p : List Int) : Value := .agg #[.int .i64 (p.getD 3 0), .int .i64 (p.getD 4 0), .int .i64 (p.getD 5 0), .int .i64 (p.getD 6 0), .int .i64 (p.getD 7 0)]
set_option maxRecDepth 100000 in
set_option maxHeartbeats 4000000 in
theorem last_any {v : Value} {l : List UInt8} (hv : Rd w v l.length 1 (l.map byteV)) :
    Calls Try.prog 13 #[v] w fun e w' => e = .returned (.tuple #[tailV (postM l), .int .i64 (errM l)]) ∧ Sat w (own w) w' := by
  have hx := (Sat.start w).alloc (.cells #[.int .i64 0, .int .i64 0, .int .i64 0, .int .i64 0, .int .i64 0] 39)
  obtain ⟨W1, hW1⟩ : ∃ W1, w.alloc (.cells #[.int .i64 0, .int .i64 0, .int .i64 0, .int .i64 0, .int .i64 0] 39) = W1 := ⟨_, rfl⟩
  obtain ⟨b2, hb2⟩ : ∃ b2, w.heap.size = b2 := ⟨_, rfl⟩
  rw [hW1, hb2] at hx
  have HX := Lib.hid hx
  have HW := Lib.hid (whole_res (hv.ext hx.r.toExt))
  have HW1 := Lib.hid hW1
  clear hv hx hW1
  go_enter Try.func13, Try.ntmps13
  go_wp2_with fail
  rw [HW1.out]
  refine Calls.mono HW.out ?_
  rintro e w1 (⟨hf, hn, rfl, h1⟩ | ⟨F, b, hf, he, rfl, h1⟩)
  · have h2 := Sat.frame HX.out (A := emp) (h1.of_eq emp_star.symm)
    rw [emp_star] at h2
    have H2 := Lib.hid h2
    have HF := Lib.hid hf
    obtain ⟨x, hx⟩ : ∃ x, errM l = x := ⟨_, rfl⟩
    rw [hx] at hn ⊢
    have HXX := Lib.hid hx
    clear h1 h2 HW hf hx HW1
    have c0 := H2.out.cell (i := 0) rfl
    have c1 := H2.out.cell (i := 1) rfl
    have c2 := H2.out.cell (i := 2) rfl
    have c3 := H2.out.cell (i := 3) rfl
    have c4 := H2.out.cell (i := 4) rfl
    have f0 := H2.out.free (i := 0)
    have f1 := H2.out.free (i := 1)
    have f2 := H2.out.free (i := 2)
    have f3 := H2.out.free (i := 3)
    have f4 := H2.out.free (i := 4)
    have lb := H2.out.lt
    have hnb : (x != 0) = true := by simpa using hn
    go_wp2
    have h5 := ((((H2.out.set (i := 0) (v := .int .i64 0)).set (i := 1) (v := .int .i64 0)).set (i := 2) (v := .int .i64 0)).set (i := 3) (v := .int .i64 0)).set (i := 4) (v := .int .i64 0)
    clear c0 c1 c2 c3 c4 f0 f1 f2 f3 f4 lb
    obtain ⟨W5, hW5⟩ : ∃ W5, ((((w1.setCell ⟨b2, 0, none⟩ (.int .i64 0)).setCell ⟨b2, 1, none⟩ (.int .i64 0)).setCell ⟨b2, 2, none⟩ (.int .i64 0)).setCell ⟨b2, 3, none⟩ (.int .i64 0)).setCell ⟨b2, 4, none⟩ (.int .i64 0) = W5 := ⟨_, rfl⟩
    rw [hW5] at h5 ⊢
    have h6 : Sat w (pts b2 (.cells #[.int .i64 0, .int .i64 0, .int .i64 0, .int .i64 0, .int .i64 0] 39) * own w) W5 := h5
    have c0 := h6.cell (i := 0) rfl
    have c1 := h6.cell (i := 1) rfl
    have c2 := h6.cell (i := 2) rfl
    have c3 := h6.cell (i := 3) rfl
    have c4 := h6.cell (i := 4) rfl
    have hl := h6.lt
    clear hW5 h5
    refine bodyPost_ret (v := .tuple #[.agg #[.int .i64 0, .int .i64 0, .int .i64 0, .int .i64 0, .int .i64 0], .int .i64 x]) (by unfold results; go_simp) rfl ⟨?_, h6.r⟩
    rw [HXX.out, show postM l = [] by unfold postM; rw [HF.out]]
    rfl
  · have h2 := FileAt.frame HX.out h1
    have HF := Lib.hid hf
    have HE := Lib.hid he
    have hpl : F.post.args.length = 8 := fileM_post hf
    obtain ⟨pa, pc, k13, hrd⟩ := h2.post hpl
    have HRD := Lib.hid hrd
    have HPL := Lib.hid hpl
    have H2 := Lib.hid h2
    clear h1 HW hf he HW1 hpl hrd h2
    go_upto_region 5 with fail
    clear k13
    obtain ⟨gp, po, hap, q3⟩ := rd_arg HRD.out 3 (by rw [HPL.out]; omega)
    subst hap
    obtain ⟨g', off', hap, q4⟩ := rd_arg HRD.out 4 (by rw [HPL.out]; omega)
    cases hap
    obtain ⟨g', off', hap, q5⟩ := rd_arg HRD.out 5 (by rw [HPL.out]; omega)
    cases hap
    obtain ⟨g', off', hap, q6⟩ := rd_arg HRD.out 6 (by rw [HPL.out]; omega)
    cases hap
    obtain ⟨g', off', hap, q7⟩ := rd_arg HRD.out 7 (by rw [HPL.out]; omega)
    cases hap
    have HEX := Lib.hid (Ext.refl w1).drew
    have f3 := HEX.out.cell q3
    have f4 := HEX.out.cell q4
    have f5 := HEX.out.cell q5
    have f6 := HEX.out.cell q6
    have f7 := HEX.out.cell q7
    have h3 := H2.out.sat.drew
    obtain ⟨p3, hp3⟩ : ∃ x, F.post.args.getD 3 0 = x := ⟨_, rfl⟩
    obtain ⟨p4, hp4⟩ : ∃ x, F.post.args.getD 4 0 = x := ⟨_, rfl⟩
    obtain ⟨p5, hp5⟩ : ∃ x, F.post.args.getD 5 0 = x := ⟨_, rfl⟩
    obtain ⟨p6, hp6⟩ : ∃ x, F.post.args.getD 6 0 = x := ⟨_, rfl⟩
    obtain ⟨p7, hp7⟩ : ∃ x, F.post.args.getD 7 0 = x := ⟨_, rfl⟩
    rw [hp3] at f3
    rw [hp4] at f4
    rw [hp5] at f5
    rw [hp6] at f6
    rw [hp7] at f7
    have HPS := Lib.hid (show tailV (postM l) = .agg #[.int .i64 p3, .int .i64 p4, .int .i64 p5, .int .i64 p6, .int .i64 p7] by
      rw [show postM l = F.post.args by unfold postM; rw [HF.out]]
      unfold tailV
      rw [hp3, hp4, hp5, hp6, hp7])
    have H3 := Lib.hid h3
    clear q3 q4 q5 q6 q7 hp3 hp4 hp5 hp6 hp7 h3
    refine wp_region_tail (fun w' => w' = w1.drew) 16 (by kernel_rfl) (by kernel_rfl) rfl ?_
    simp only [List.take_succ_cons, List.take_zero, List.drop_succ_cons, List.drop_zero]
    obtain ⟨W9, hW9⟩ : ∃ W9, w1.drew = W9 := ⟨_, rfl⟩
    rw [hW9] at H3 f3 f4 f5 f6 f7
    rw [hW9]
    clear hW9 HEX
    refine wpQuiet_val (v := ?_) ?_
    rotate_left 1
    intro K hK
    refine ⟨by kernel_rfl, fun w9 hw9 => ?_, ?_⟩
    · subst hw9; go_simp; try with_reducible rfl
    go_simp
    refine hK _ ?_
    clear hK K
    refine wpQuiet_val (v := ?_) ?_
    rotate_left 1
    intro K hK
    refine ⟨by kernel_rfl, fun w9 hw9 => ?_, ?_⟩
    · subst hw9; go_simp; try with_reducible rfl
    go_simp
    refine hK _ ?_
    clear hK K
    refine wpQuiet_val (v := ?_) ?_
    rotate_left 1
    intro K hK
    refine ⟨by kernel_rfl, fun w9 hw9 => ?_, ?_⟩
    · subst hw9; go_simp; try with_reducible rfl
    go_simp
    refine hK _ ?_
    clear hK K
    refine wpQuiet_val (v := ?_) ?_
    rotate_left 1
    intro K hK
    refine ⟨by kernel_rfl, fun w9 hw9 => ?_, ?_⟩
    · subst hw9; go_simp; try with_reducible rfl
    go_simp
    refine hK _ ?_
    clear hK K
    refine wpQuiet_val (v := ?_) ?_
    rotate_left 1
    intro K hK
    refine ⟨by kernel_rfl, fun w9 hw9 => ?_, ?_⟩
    · subst hw9; go_simp; try with_reducible rfl
    go_simp
    refine hK _ ?_
    clear hK K
    refine wpQuiet_val (v := ?_) ?_
    rotate_left 1
    intro K hK
    refine ⟨by kernel_rfl, fun w9 hw9 => ?_, ?_⟩
    · subst hw9; go_simp; try with_reducible rfl
    go_simp
    refine hK _ ?_
    clear hK K
    refine wpQuiet_val (v := ?_) ?_
    rotate_left 1
    intro K hK
    refine ⟨by kernel_rfl, fun w9 hw9 => ?_, ?_⟩
    · subst hw9; go_simp; try with_reducible rfl
    go_simp
    refine hK _ ?_
    clear hK K
    refine wpQuiet_val (v := ?_) ?_
    rotate_left 1
    intro K hK
    refine ⟨by kernel_rfl, fun w9 hw9 => ?_, ?_⟩
    · subst hw9; go_simp; try with_reducible rfl
    go_simp
    refine hK _ ?_
    clear hK K
    refine wpQuiet_val (v := ?_) ?_
    rotate_left 1
    intro K hK
    refine ⟨by kernel_rfl, fun w9 hw9 => ?_, ?_⟩
    · subst hw9; go_simp; try with_reducible rfl
    go_simp
    refine hK _ ?_
    clear hK K
    refine wpQuiet_val (v := ?_) ?_
    rotate_left 1
    intro K hK
    refine ⟨by kernel_rfl, fun w9 hw9 => ?_, ?_⟩
    · subst hw9; go_simp; try with_reducible rfl
    go_simp
    refine hK _ ?_
    clear hK K
    refine wpQuiet_val (v := ?_) ?_
    rotate_left 1
    intro K hK
    refine ⟨by kernel_rfl, fun w9 hw9 => ?_, ?_⟩
    · subst hw9; go_simp; try with_reducible rfl
    go_simp
    refine hK _ ?_
    clear hK K
    refine wpQuiet_val (v := ?_) ?_
    rotate_left 1
    intro K hK
    refine ⟨by kernel_rfl, fun w9 hw9 => ?_, ?_⟩
    · subst hw9; go_simp; try with_reducible rfl
    go_simp
    refine hK _ ?_
    clear hK K
    refine wpQuiet_val (v := ?_) ?_
    rotate_left 1
    intro K hK
    refine ⟨by kernel_rfl, fun w9 hw9 => ?_, ?_⟩
    · subst hw9; go_simp; try with_reducible rfl
    go_simp
    refine hK _ ?_
    clear hK K
    refine wpQuiet_val (v := ?_) ?_
    rotate_left 1
    intro K hK
    refine ⟨by kernel_rfl, fun w9 hw9 => ?_, ?_⟩
    · subst hw9; go_simp; try with_reducible rfl
    go_simp
    refine hK _ ?_
    clear hK K
    refine wpQuiet_val (v := ?_) ?_
    rotate_left 1
    intro K hK
    refine ⟨by kernel_rfl, fun w9 hw9 => ?_, ?_⟩
    · subst hw9; go_simp; try with_reducible rfl
    go_simp
    refine hK _ ?_
    clear hK K
    refine wpQuiet_val (v := ?_) ?_
    rotate_left 1
    intro K hK
    refine ⟨by kernel_rfl, fun w9 hw9 => ?_, ?_⟩
    · subst hw9; go_simp; try with_reducible rfl
    go_simp
    refine hK _ ?_
    clear hK K
    refine wpQuiet_nil ?_
    clear f3 f4 f5 f6 f7
    rintro w17 rfl
    have c0 := H3.out.cell (i := 0) rfl
    have c1 := H3.out.cell (i := 1) rfl
    have c2 := H3.out.cell (i := 2) rfl
    have c3 := H3.out.cell (i := 3) rfl
    have c4 := H3.out.cell (i := 4) rfl
    have f0 := H3.out.free (i := 0)
    have f1 := H3.out.free (i := 1)
    have f2 := H3.out.free (i := 2)
    have f3 := H3.out.free (i := 3)
    have f4 := H3.out.free (i := 4)
    have lb := H3.out.lt
    go_wp2
    have h5 := ((((H3.out.set (i := 0) (v := .int .i64 p3)).set (i := 1) (v := .int .i64 p4)).set (i := 2) (v := .int .i64 p5)).set (i := 3) (v := .int .i64 p6)).set (i := 4) (v := .int .i64 p7)
    clear c0 c1 c2 c3 c4 f0 f1 f2 f3 f4 lb
    obtain ⟨W5, hW5⟩ : ∃ W5, ((((w17.setCell ⟨b2, 0, none⟩ (.int .i64 p3)).setCell ⟨b2, 1, none⟩ (.int .i64 p4)).setCell ⟨b2, 2, none⟩ (.int .i64 p5)).setCell ⟨b2, 3, none⟩ (.int .i64 p6)).setCell ⟨b2, 4, none⟩ (.int .i64 p7) = W5 := ⟨_, rfl⟩
    rw [hW5] at h5 ⊢
    have h6 : Sat w (pts b2 (.cells #[.int .i64 p3, .int .i64 p4, .int .i64 p5, .int .i64 p6, .int .i64 p7] 39) * own w) W5 := h5
    have c0 := h6.cell (i := 0) rfl
    have c1 := h6.cell (i := 1) rfl
    have c2 := h6.cell (i := 2) rfl
    have c3 := h6.cell (i := 3) rfl
    have c4 := h6.cell (i := 4) rfl
    have hl := h6.lt
    clear hW5 h5
    refine bodyPost_ret (v := .tuple #[.agg #[.int .i64 p3, .int .i64 p4, .int .i64 p5, .int .i64 p6, .int .i64 p7], .int .i64 0]) (by unfold results; go_simp) rfl ⟨?_, h6.r⟩
    rw [HPS.out, HE.out]

end Go.Proofs.Ytjeinldhbajknaa

/-
  The least file. Conditions: those that each theorem names.
-/
namespace Go.Proofs.Ytjeinldhbajknaa
open Go.RowKit Go.Sp Go.Conc
variable {W w w' : World} {A : HProp}

/-- the low byte of a number -/
def lowB (x : Int) : UInt8 := UInt8.ofNat (x % 256).toNat
theorem lowB_nat (x : Int) : ((lowB x).toNat : Int) = x % 256 := by
  unfold lowB
  rw [UInt8.toNat_ofNat']
  omega
/-- a number of four bytes -/
def fourB (n : Int) : List UInt8 := [lowB (n / 16777216), lowB (n / 65536), lowB (n / 256), lowB n]
theorem fourB_cells (n : Int) : bytesB (fourB n) = [.int .u8 (n / 16777216 % 256), .int .u8 (n / 65536 % 256), .int .u8 (n / 256 % 256), .int .u8 (n % 256)] := by
  simp [bytesB, fourB, lowB_nat]

set_option maxRecDepth 100000 in
set_option maxHeartbeats 4000000 in
theorem four_any {v : Value} {l : List UInt8} (n : Int) (hl : l.length ≤ 100000000) (h : Sat W (rowB v l * A) w) :
    Calls Try.prog 22 #[v, .int .i64 n] w fun e w' => ∃ v', e = .returned v' ∧ Sat W (rowB v' (l ++ fourB n) * A) w' := by
  obtain ⟨i0, hi, hz0, hz1, hz2⟩ := info_parts3B info_u8B
  have HI := Lib.hid hi
  have HZ0 := Lib.hid hz0
  have HZ1 := Lib.hid hz1
  have HZ2 := Lib.hid hz2
  have H := Lib.hid h
  clear hi hz0 hz1 hz2 h
  go_enter Try.func22, Try.ntmps22
  go_wp2_with (at_builtin; refine wpList_append_sep rfl _ _ 22 rfl i0 _ 1 Try.underlying22 HI.out HZ0.out HZ1.out HZ2.out rfl rfl H.out.allocD ⟨w.heap.size, 0, none⟩ 4 4 [.int .u8 (n / 16777216 % 256), .int .u8 (n / 65536 % 256), .int .u8 (n / 256 % 256), .int .u8 (n % 256)] rfl rfl ?_ ?_ ?_ ?_ ?_)
  · exact new_cells _ _ _
  · simp [Value.oneCell']
  · simp [maxLen]; omega
  · omega
  intro v' w1 h6
  have H6 := Lib.hid (rowB_app (l := fourB n) h6 rfl (by rw [fourB_cells]))
  clear h6 H
  go_wp2
  go_ret
  exact ⟨v', rfl, H6.out⟩

def leastL : List UInt8 := [247, 2, 1, 131, 146, 192, 28, 59, 0, 0, 0, 0, 3, 232, 0, 248, 255, 255, 255, 255, 1, 131, 146, 192, 28, 59, 0, 0, 0, 0, 3, 232, 0, 0, 0, 0, 0, 0, 0, 0, 0, 0, 0, 0, 249, 0, 0, 0, 15, 2, 223, 223, 223, 223, 223, 223]
set_option maxRecDepth 100000 in
set_option maxHeartbeats 4000000 in
theorem least_any (h : Sat W A w) :
    Calls Try.prog 25 #[] w fun e w' => ∃ v', e = .returned v' ∧ Sat W (rowB v' leastL * A) w' := by
  obtain ⟨i0, hi, hz0, hz1, hz2⟩ := info_parts3B info_u8B
  have HI := Lib.hid hi
  have HZ0 := Lib.hid hz0
  have HZ1 := Lib.hid hz1
  have HZ2 := Lib.hid hz2
  have H := Lib.hid (show Sat W (rowB (.slice none 0 0) [] * A) w from Sat.row_nil (e := 5) (size := 1) h)
  clear hi hz0 hz1 hz2 h
  go_enter Try.func25, Try.ntmps25
  go_wp2_with (at_builtin; refine wpList_append_sep rfl _ _ 22 rfl i0 _ 1 Try.underlying22 HI.out HZ0.out HZ1.out HZ2.out rfl rfl H.out.allocD ⟨w.heap.size, 0, none⟩ 2 2 (bytesB [247, 2]) rfl rfl ?_ ?_ ?_ ?_ ?_)
  · exact new_cells _ _ _
  · exact bytesB_one _
  · simp [maxLen]
  · simp
  intro v1 w1 h6
  have H1 := Lib.hid (rowB_app (acc := []) (l := [247, 2]) h6 rfl rfl)
  clear h6 H
  have HF := Lib.hid (four_any 25400000 (by decide) H1.out)
  clear H1
  go_wp2_with fail
  with_reducible refine Calls.mono HF.out ?_
  rintro e w2 ⟨v2, rfl, h6⟩
  have H2 := Lib.hid h6
  clear h6 HF
  have HF := Lib.hid (four_any 473628672 (by decide) H2.out)
  clear H2
  go_wp2_with fail
  with_reducible refine Calls.mono HF.out ?_
  rintro e w3 ⟨v3, rfl, h6⟩
  have H3 := Lib.hid h6
  clear h6 HF
  have HF := Lib.hid (four_any 1000 (by decide) H3.out)
  clear H3
  go_wp2_with fail
  with_reducible refine Calls.mono HF.out ?_
  rintro e w4 ⟨v4, rfl, h6⟩
  have H4 := Lib.hid h6
  clear h6 HF
  go_wp2_with (at_builtin; refine wpList_append_sep rfl _ _ 22 rfl i0 _ 1 Try.underlying22 HI.out HZ0.out HZ1.out HZ2.out rfl rfl H4.out.allocD ⟨w4.heap.size, 0, none⟩ 2 2 (bytesB [0, 248]) rfl rfl ?_ ?_ ?_ ?_ ?_)
  · exact new_cells _ _ _
  · exact bytesB_one _
  · simp [maxLen, fourB]
  · simp [fourB]
  intro v5 w5 h6
  have H5 := Lib.hid (rowB_app (l := [0, 248]) h6 rfl rfl)
  clear h6 H4
  have HF := Lib.hid (four_any (-1) (by decide) H5.out)
  clear H5
  go_wp2_with fail
  with_reducible refine Calls.mono HF.out ?_
  rintro e w6 ⟨v6, rfl, h6⟩
  have H6 := Lib.hid h6
  clear h6 HF
  have HF := Lib.hid (four_any 25400000 (by decide) H6.out)
  clear H6
  go_wp2_with fail
  with_reducible refine Calls.mono HF.out ?_
  rintro e w7 ⟨v7, rfl, h6⟩
  have H7 := Lib.hid h6
  clear h6 HF
  have HF := Lib.hid (four_any 473628672 (by decide) H7.out)
  clear H7
  go_wp2_with fail
  with_reducible refine Calls.mono HF.out ?_
  rintro e w8 ⟨v8, rfl, h6⟩
  have H8 := Lib.hid h6
  clear h6 HF
  have HF := Lib.hid (four_any 1000 (by decide) H8.out)
  clear H8
  go_wp2_with fail
  with_reducible refine Calls.mono HF.out ?_
  rintro e w9 ⟨v9, rfl, h6⟩
  have H9 := Lib.hid h6
  clear h6 HF
  have HF := Lib.hid (four_any 0 (by decide) H9.out)
  clear H9
  go_wp2_with fail
  with_reducible refine Calls.mono HF.out ?_
  rintro e w10 ⟨v10, rfl, h6⟩
  have H10 := Lib.hid h6
  clear h6 HF
  have HF := Lib.hid (four_any 0 (by decide) H10.out)
  clear H10
  go_wp2_with fail
  with_reducible refine Calls.mono HF.out ?_
  rintro e w11 ⟨v11, rfl, h6⟩
  have H11 := Lib.hid h6
  clear h6 HF
  go_wp2_with (at_builtin; refine wpList_append_sep rfl _ _ 22 rfl i0 _ 1 Try.underlying22 HI.out HZ0.out HZ1.out HZ2.out rfl rfl H11.out.allocD ⟨w11.heap.size, 0, none⟩ 5 5 (bytesB [0, 0, 0, 0, 249]) rfl rfl ?_ ?_ ?_ ?_ ?_)
  · exact new_cells _ _ _
  · exact bytesB_one _
  · simp [maxLen, fourB]
  · simp [fourB]
  intro v12 w12 h6
  have H12 := Lib.hid (rowB_app (l := [0, 0, 0, 0, 249]) h6 rfl rfl)
  clear h6 H11
  have HF := Lib.hid (four_any 15 (by decide) H12.out)
  clear H12
  go_wp2_with fail
  with_reducible refine Calls.mono HF.out ?_
  rintro e w13 ⟨v13, rfl, h6⟩
  have H13 := Lib.hid h6
  clear h6 HF
  go_wp2_with (at_builtin; refine wpList_append_sep rfl _ _ 22 rfl i0 _ 1 Try.underlying22 HI.out HZ0.out HZ1.out HZ2.out rfl rfl H13.out.allocD ⟨w13.heap.size, 0, none⟩ 7 7 (bytesB [2, 223, 223, 223, 223, 223, 223]) rfl rfl ?_ ?_ ?_ ?_ ?_)
  · exact new_cells _ _ _
  · exact bytesB_one _
  · simp [maxLen, fourB]
  · simp [fourB]
  intro v14 w14 h6
  have H14 := Lib.hid (rowB_app (l := [2, 223, 223, 223, 223, 223, 223]) h6 rfl rfl)
  clear h6 H13
  go_wp2
  go_ret
  exact ⟨v14, rfl, H14.out⟩

end Go.Proofs.Ytjeinldhbajknaa

/-
  The least file, read. Conditions: none.
-/
namespace Go.Proofs.Ytjeinldhbajknaa
open Go.RowKit Go.Sp Go.Conc

theorem least_some : (wholeM [] leastL).map (fun F => (F.ops.length, F.post.args.getD 3 0)) = some (3, 1000) := by kernel_rfl
theorem least_short : (wholeM [] (leastL.take 55)).isSome = false := by kernel_rfl

end Go.Proofs.Ytjeinldhbajknaa

/-
  The law's live answer. Conditions: those that each theorem names.
-/
namespace Go.Proofs.Ytjeinldhbajknaa
open Go.RowKit Go.Sp Go.Conc
variable {W w w' : World} {A G : HProp}

theorem _root_.Go.Sp.Sat.thru (hG : Sat W G w) (h : Sat w (own w) w') : Sat W G w' := by
  have h2 := Sat.frame hG (A := emp) (h.of_eq emp_star.symm)
  rwa [emp_star] at h2
theorem rowB_rd {v : Value} {l : List UInt8} (h : Sat W (rowB v l * A) w) : Rd w v l.length 1 (l.map byteV) := Sat.rd h
theorem num_any (n : Int) (w : World) : Calls Try.prog 10 #[.int .i64 n] w fun e w' => e = .returned (.int .i64 n) ∧ w = w' := by
  go_enter Try.func10, Try.ntmps10
  go_wp2
  go_ret
  exact ⟨rfl, rfl⟩
theorem least_err : errM leastL = 0 ∧ (opsM leastL).length = 3 ∧ (postM leastL).getD 3 0 = 1000 ∧ errM (leastL.take 55) = 240 := by
  have h1 := least_some
  have h2 := least_short
  cases hh : wholeM [] leastL with
  | none => rw [hh] at h1; cases h1
  | some F =>
    rw [hh] at h1
    simp only [Option.map_some, Option.some.injEq, Prod.mk.injEq] at h1
    have e1 : ¬ 1048576 < leastL.length := by decide
    have e2 : ¬ 1048576 < (leastL.take 55).length := by decide
    refine ⟨?_, ?_, ?_, ?_⟩
    · unfold errM; rw [if_neg e1, hh]; rfl
    · unfold opsM fileM; rw [if_neg e1, hh]; exact h1.1
    · unfold postM fileM; rw [if_neg e1, hh]; exact h1.2
    · unfold errM; rw [if_neg e2, if_neg (by rw [h2]; simp)]

set_option maxRecDepth 100000 in
set_option maxHeartbeats 4000000 in
theorem live_any (h : Sat W A w) : Calls Try.prog 12 #[] w fun e w' => e = .returned (.bool true) ∧ Sat W A w' := by
  have HL := Lib.hid (least_any h)
  obtain ⟨le1, le2, le3, le4⟩ := least_err
  have HE1 := Lib.hid le1
  have HE2 := Lib.hid le2
  have HE3 := Lib.hid le3
  have HE4 := Lib.hid le4
  clear h le1 le2 le3 le4
  go_enter Try.func12, Try.ntmps12
  go_wp2_with fail
  refine Calls.mono HL.out ?_
  rintro e w1 ⟨v, rfl, h1⟩
  obtain ⟨a, cap, hv, hcap, hat⟩ := rowB_val h1
  subst hv
  have HLA := Lib.hid (last_any (rowB_rd h1))
  have H1 := Lib.hid h1
  clear h1 HL hat
  go_wp2_with fail
  with_reducible refine Calls.mono HLA.out ?_
  rintro e w2 ⟨rfl, h2⟩
  have h3 := H1.out.thru h2
  rw [HE1.out]
  obtain ⟨p3, p4, p5, p6, hpt⟩ : ∃ p4 p5 p6 p7, tailV (postM leastL) = .agg #[.int .i64 1000, .int .i64 p4, .int .i64 p5, .int .i64 p6, .int .i64 p7] := ⟨_, _, _, _, by unfold tailV; rw [HE3.out]⟩
  rw [hpt]
  have h4 := h3.alloc (.cells #[.int .i64 1000, .int .i64 p3, .int .i64 p4, .int .i64 p5, .int .i64 p6] 39)
  obtain ⟨b2, hb2⟩ : ∃ b2, w2.heap.size = b2 := ⟨_, rfl⟩
  rw [hb2] at h4
  obtain ⟨W4, hW4⟩ : ∃ W4, w2.alloc (.cells #[.int .i64 1000, .int .i64 p3, .int .i64 p4, .int .i64 p5, .int .i64 p6] 39) = W4 := ⟨_, rfl⟩
  rw [hW4] at h4
  have HO := Lib.hid (ops_any (rowB_rd h4.rot))
  have H4 := Lib.hid h4
  have HW4 := Lib.hid hW4
  clear h2 h3 h4 HLA hpt hW4
  go_wp2_with fail
  rw [HW4.out]
  with_reducible refine Calls.mono HO.out ?_
  rintro e w5 ⟨V, ov, hV, rfl, h5⟩
  have h6 := Sat.frame H4.out (A := row ov V.length 33 4 (flatO V) * argsH V) (h5.of_eq (by ac_rfl))
  have hvl : V.length = 3 := by
    have := congrArg List.length hV
    rw [HE2.out, List.length_map] at this
    exact this
  obtain ⟨oa, oc, hov, -⟩ := h5.row_val
  rw [hvl] at hov
  subst hov
  rw [HE1.out]
  have h7 := h6.of_eq (show _ = pts b2 (.cells #[.int .i64 1000, .int .i64 p3, .int .i64 p4, .int .i64 p5, .int .i64 p6] 39) * (rowB (.slice a leastL.length cap) leastL * (A * (row (.slice oa 3 oc) V.length 33 4 (flatO V) * argsH V))) by ac_rfl)
  have c0 := h7.cell (i := 0) rfl
  have HCK := Lib.hid (check_any (v := .slice a 55 cap) (l := leastL.take 55) (w := w5) (by
    obtain ⟨r1, r2, a', cap', e, r3⟩ := rowB_rd h7.r
    cases e
    exact ⟨rfl, by decide, a, cap, rfl, fun j u hj => r3 j u (by
      rw [List.map_take, List.getElem?_take] at hj
      split at hj
      · exact hj
      · cases hj)⟩))
  have H7 := Lib.hid h7
  have hl5 : ((leastL.length : Nat) : Int) = 56 := rfl
  clear h5 h6 h7 HO H4 HW4 hV hvl
  go_wp2_with (first | (go_at_call 10; with_reducible refine Calls.mono (num_any _ _) ?_; rintro e _ ⟨rfl, rfl⟩) | fail)
  with_reducible refine Calls.mono HCK.out ?_
  rintro e w6 ⟨rfl, h8⟩
  have h9 := H7.out.thru h8
  rw [HE4.out]
  have H9 := Lib.hid (h9.r.r.l)
  clear h8 h9 HCK H7 c0
  go_wp2_with (first | (go_at_call 10; with_reducible refine Calls.mono (num_any _ _) ?_; rintro e _ ⟨rfl, rfl⟩) | fail)
  go_ret
  exact ⟨rfl, H9.out⟩

end Go.Proofs.Ytjeinldhbajknaa
