/-
  The machine runs. Conditions: those that each theorem names.
-/
import Derived.Test.YtigjfbbgbiajbaaLgN
namespace Go.Proofs.Ytigjfbbgbiajbaa
open Go.RowKit Go.Sp
variable {w W : World} {x : FV} {F : Fnt} {A : HProp}

/-- what becomes of a row: D was passed, l comes -/
def goM (F : Fnt) : List Mk → Mk → List Mk → List Mk
  | D, m, [] => D ++ [m]
  | D, m, y :: l => goM F (D ++ (stepM F m y).dropLast) ((stepM F m y).getLastD mk0) l
/-- it meets kerns only, and ligatures that take both letters away -/
def GoOk (F : Fnt) : Mk → List Mk → Prop
  | _, [] => True
  | m, y :: l => (∀ s, findM F m.c y.c = some s → s.op.toNat < 128 → s.op.toNat = 0) ∧ GoOk F ((stepM F m y).getLastD mk0) l
def MkOk (m : Mk) : Prop := m.space = false ∧ 0 ≤ m.c ∧ m.c ≤ 255 ∧ 0 ≤ m.n
theorem stepM_last (F : Fnt) {m y : Mk} (hm : MkOk m) (hy : MkOk y) : MkOk ((stepM F m y).getLastD mk0) ∧ ((stepM F m y).getLastD mk0).n ≤ m.n + y.n ∧ (stepM F m y).dropLast.length ≤ 2 ∧
    stepM F m y = (stepM F m y).dropLast ++ [(stepM F m y).getLastD mk0] := by
  unfold MkOk at hm hy
  unfold stepM
  cases findM F m.c y.c with
  | none => exact ⟨hy, by simp only [List.getLastD_cons, List.getLastD_nil]; show y.n ≤ _; omega, by simp, by simp⟩
  | some s =>
    simp only
    have := u8i s.rest
    split
    · exact ⟨hy, by show y.n ≤ _; omega, by simp, by simp⟩
    · exact ⟨⟨rfl, by show (0 : Int) ≤ (s.rest.toNat : Int); omega, by show ((s.rest.toNat : Int)) ≤ 255; omega, by show 0 ≤ y.n + m.n; omega⟩, by show y.n + m.n ≤ _; omega, by simp, by simp⟩

set_option maxRecDepth 100000 in
set_option maxHeartbeats 8000000 in
theorem step_nil {b : Nat} {D : List Mk} (h : MAt W A b x F D [] w) : Calls Try.prog 33 #[.pointer (some ⟨b, 0, none⟩)] w fun e w' => e = .returned (.bool false) ∧ w' = w := by
  have c1 : ∃ tv c, w.cell? ⟨b, 1, none⟩ = some (.slice tv 0 c) := by
    obtain ⟨dv, tv, h9⟩ := h
    obtain ⟨a, c, hv, -⟩ := (rowK_rd (h9.of_eq (show _ = rowK tv [] * (pts b (F.mbox x dv tv) * (rowK dv D * A)) by ac_rfl))).val
    rw [List.length_nil] at hv
    exact ⟨a, c, by rw [h9.cell rfl, ← hv]; rfl⟩
  obtain ⟨ta, tc, c1⟩ := c1
  have lb : b < w.heap.size := by
    obtain ⟨dv, tv, h9⟩ := h
    exact h9.lt
  clear h
  go_enter Try.func33, Try.ntmps33
  go_wp2
  go_ret
  exact ⟨rfl, rfl⟩

theorem class3 (b : Nat) : ∃ C : World → Prop, (∀ w', C w' → b < w'.heap.size) ∧ ∀ w', b < w'.heap.size → C w' := ⟨fun w' => b < w'.heap.size, fun _ h => h, fun _ h => h⟩
theorem MAt.lt {b : Nat} {D T : List Mk} (h : MAt W A b x F D T w) : b < w.heap.size := by
  obtain ⟨dv, tv, h9⟩ := h
  exact h9.lt
set_option maxRecDepth 100000 in
set_option maxHeartbeats 8000000 in
theorem run_any {b : Nat} {m : Mk} {l : List Mk} (hrd : RdF W x F) (hok : FOk F) (hm : MkOk m) (hl : ∀ y ∈ l, MkOk y ∧ y.n ≤ 1) (hn : m.n ≤ 1) (hlen : l.length ≤ 100000) (hg : GoOk F m l) (h : MAt W (A * own W) b x F [] (m :: l).reverse w) :
    Calls Try.prog 20 #[.pointer (some ⟨b, 0, none⟩)] w fun e w' => e = .returned (.tuple #[]) ∧ MAt W (A * own W) b x F (goM F [] m l) [] w' := by
  have c1 : ∃ tv c, w.cell? ⟨b, 1, none⟩ = some (.slice tv (l.length + 1) c) := by
    obtain ⟨dv, tv, h9⟩ := h
    obtain ⟨a, c, hv, -⟩ := (rowK_rd (h9.of_eq (show _ = rowK tv (m :: l).reverse * (pts b (F.mbox x dv tv) * (rowK dv [] * (A * own W))) by ac_rfl))).val
    rw [List.length_reverse, List.length_cons] at hv
    exact ⟨a, c, by rw [h9.cell rfl, ← hv]; rfl⟩
  obtain ⟨ta, tc, c1⟩ := c1
  have lb : b < w.heap.size := by
    obtain ⟨dv, tv, h9⟩ := h
    exact h9.lt
  obtain ⟨tn, htn⟩ : ∃ tn, l.length = tn := ⟨_, rfl⟩
  rw [htn] at c1
  have hh := h.ext (Ext.refl w).drew
  rw [List.reverse_cons] at hh
  obtain ⟨W9, hW9⟩ : ∃ W9, w.drew = W9 := ⟨_, rfl⟩
  rw [hW9] at hh
  have HNX := Lib.hid (next_any m (by rw [List.length_reverse]; omega) hh)
  have HL := Lib.hid hl
  have HG := Lib.hid hg
  have HMK := Lib.hid hm
  have HN := Lib.hid hn
  have HLEN := Lib.hid hlen
  obtain ⟨r, hr⟩ : ∃ r, goM F [] m l = r := ⟨_, rfl⟩
  have HR := Lib.hid hr
  rw [hr]
  have lb9 : b < W9.heap.size := by
    obtain ⟨dv, tv, h9⟩ := hh
    exact h9.lt
  have htl : (tn : Int) ≤ 100000 := by omega
  have HNL := Lib.hid htn
  obtain ⟨m1, m2, m3, m4, m5⟩ := m
  clear hl hg hm hn hlen hr hh h htn
  go_enter Try.func20, Try.ntmps20
  go_upto_region 1 with fail
  clear c1 lb
  obtain ⟨C, hc1, hc2⟩ := class3 b
  have HCL := Lib.hid hc1
  have HCW := Lib.hid hc2
  have HLB := Lib.hid lb9
  clear hc1 hc2 lb9
  refine wp_region_E C (by kernel_rfl) ?_
  rw [hW9]
  clear hW9
  refine wpE_take (i := 0) (q := 1) (v := ?_) rfl (by kernel_rfl) (by kernel_rfl) (by kernel_rfl) (by kernel_rfl) (by kernel_rfl) (fun _ _ _ h => h) (by rfl) ?_ ?_
  rotate_left 1
  · intro w hw; (have pl := HCL.out _ hw; go_simp; try with_reducible rfl)
  refine wpE_take (i := 1) (q := 2) (v := ?_) rfl (by kernel_rfl) (by kernel_rfl) (by kernel_rfl) (by kernel_rfl) (by kernel_rfl) (fun _ _ _ h => h) (by rfl) ?_ ?_
  rotate_left 1
  · intro w hw; (have pl := HCL.out _ hw; go_simp; try with_reducible rfl)
  refine wpE_take (i := 2) (q := 7) (v := ?_) rfl (by kernel_rfl) (by kernel_rfl) (by kernel_rfl) (by kernel_rfl) (by kernel_rfl) (fun _ _ _ h => h) (by rfl) ?_ ?_
  rotate_left 1
  · intro w hw; (have pl := HCL.out _ hw; go_simp; try with_reducible rfl)
  refine wpE_take (i := 3) (q := 4) (v := ?_) rfl (by kernel_rfl) (by kernel_rfl) (by kernel_rfl) (by kernel_rfl) (by kernel_rfl) (fun _ _ _ h => h) (by rfl) ?_ ?_
  rotate_left 1
  · intro w hw; (have pl := HCL.out _ hw; go_simp; try with_reducible rfl)
  refine wpE_take (i := 4) (q := 5) (v := ?_) rfl (by kernel_rfl) (by kernel_rfl) (by kernel_rfl) (by kernel_rfl) (by kernel_rfl) (fun _ _ _ h => h) (by rfl) ?_ ?_
  rotate_left 1
  · intro w hw; (have pl := HCL.out _ hw; go_simp; try with_reducible rfl)
  refine wpE_take (i := 5) (q := 6) (v := ?_) rfl (by kernel_rfl) (by kernel_rfl) (by kernel_rfl) (by kernel_rfl) (by kernel_rfl) (fun _ _ _ h => h) (by rfl) ?_ ?_
  rotate_left 1
  · intro w hw; (have pl := HCL.out _ hw; go_simp; try with_reducible rfl)
  refine wpE_one (i := 6) rfl (by kernel_rfl) (HCW.out _ HLB.out) (fun K hK => ?_)
  go_simp
  with_reducible refine Calls.mono HNX.out ?_
  rintro e w2 ⟨rfl, h2⟩
  have HPS := Lib.hid (pass_any ⟨m1, m2, m3, m4, m5⟩ (by simp) h2)
  have HL2 := Lib.hid h2.lt
  clear HNX h2
  go_simp
  refine hK _ _ ?_
  clear hK K
  refine wpE_one (i := 7) rfl (by kernel_rfl) (HCW.out _ HL2.out) (fun K hK => ?_)
  go_simp
  with_reducible refine Calls.mono HPS.out ?_
  rintro e w3 ⟨rfl, h3⟩
  have H3 := Lib.hid h3
  clear HPS h3
  go_simp
  refine hK _ _ ?_
  clear hK K
  refine wpE_done (by kernel_rfl) (by kernel_rfl) ?_
  go_wp2_with fail
  go_loopg [18] (tn + 1) (fun gg s18 wx => ∃ (D : List Mk) (m : Mk) (l : List Mk), gg = l.length + 1 ∧ l.length ≤ tn ∧ D.length + 2 * l.length ≤ 200000 ∧ m.n + l.length ≤ 200000 ∧ MkOk m ∧ (∀ y ∈ l, MkOk y ∧ y.n ≤ 1) ∧ GoOk F m l ∧ goM F D m l = r ∧ MAt W (A * own W) b x F (D ++ [m]) l.reverse wx)
  case atStart => exact ⟨[], ⟨m1, m2, m3, m4, m5⟩, l, by rw [HNL.out], by rw [HNL.out]; exact Nat.le_refl _, by have := HLEN.out; simp; omega, by have := HLEN.out; have h9 := HN.out; simp only at h9 ⊢; omega, HMK.out, HL.out, HG.out, HR.out, H3.out⟩
  case round =>
    obtain ⟨D, m, l, hg, hl1, hd, hmn, hmk, hl, hgo, hr, hm⟩ := hrel
    subst hg
    clear H3 HL HG HMK HN HLEN HR HNL
    cases l with
    | nil =>
      have HS := Lib.hid (step_nil hm)
      have HM := Lib.hid hm
      rw [goM] at hr
      subst hr
      clear hm hgo hmk hl
      go_wp2_with fail
      with_reducible refine Calls.mono HS.out ?_
      rintro e w4 ⟨rfl, rfl⟩
      go_wp2
      go_end0
      exact ⟨rfl, HM.out⟩
    | cons y l =>
      rw [goM] at hr
      obtain ⟨hg1, hg2⟩ := hgo
      obtain ⟨hy, hyn⟩ := hl y (List.mem_cons_self ..)
      obtain ⟨s1, s2, s3, s4⟩ := stepM_last F hmk hy
      simp only [List.length_cons] at hl1 hd hmn
      rw [List.reverse_cons] at hm
      have HS := Lib.hid (stepm_any hrd hok hmk.1 ⟨by have := hmk.2.1; omega, by have := hmk.2.2.1; omega⟩ ⟨hmk.2.2.2, by omega⟩ ⟨hy.2.2.2, by omega⟩ (by omega) (by rw [List.length_reverse]; omega) hg1 hm)
      rw [s4, ← List.append_assoc] at HS
      have HR := Lib.hid hr
      have HL := Lib.hid (show ∀ z ∈ l, MkOk z ∧ z.n ≤ 1 from fun z hz => hl z (List.mem_cons_of_mem _ hz))
      have HG := Lib.hid hg2
      have HK := Lib.hid s1
      have HB1 := Lib.hid (show (D ++ (stepM F m y).dropLast).length + 2 * l.length ≤ 200000 by rw [List.length_append]; omega)
      have HB2 := Lib.hid (show ((stepM F m y).getLastD mk0).n + l.length ≤ 200000 by omega)
      clear hr hg1 hg2 hl hmk hy hyn s1 s2 s3 s4 hm
      go_wp2_with fail
      with_reducible refine Calls.mono HS.out ?_
      rintro e w4 ⟨rfl, h4⟩
      have H4 := Lib.hid h4
      clear h4 HS
      go_wp2
      go_roundg (l.length + 1)
      case measure => simp
      case rel => exact ⟨_, _, l, rfl, by omega, HB1.out, HB2.out, HK.out, HL.out, HG.out, HR.out, H4.out⟩
end Go.Proofs.Ytigjfbbgbiajbaa
