import Derived.Test.YticljfpippbkkaaMNP
/-
  A register, behind a scanner. Conditions: those that each theorem names.
-/
namespace Go.Proofs.Yticljfpippbkkaa
open Go.RowKit Go.Sp
variable {W w w' : World} {A : HProp} {bx bs bt N : Nat} {L : List Tok} {S : TabS}

theorem ScAt.drewN (h : ScAt W A bx bs bt L N S w) {n : Nat} : ScAt W A bx bs bt L N S (w.drewN n) := by
  obtain ⟨Y, h1, back⟩ := h.focus
  exact back _ _ h1.drewN
theorem str_ne {a : ByteArray} (l : List UInt8) (h : ¬ a = ⟨l.toArray⟩) : (a.toList == l) = false := by
  have e : (⟨l.toArray⟩ : ByteArray).toList = l := by rw [Lib.toList_data]
  have h1 := beq_bytes a ⟨l.toArray⟩
  rw [e] at h1
  rw [h1]
  exact decide_eq_false h
set_option maxRecDepth 100000 in
set_option maxHeartbeats 8000000 in
theorem register_of {n : Nat} (hn : n ≤ 2000000) (IH : ∀ m, m < n → RegC W bx bs bt N S m) (hl : L.length ≤ n) (h : ScAt W A bx bs bt L N S w) :
    Calls Try.prog 39 #[.pointer (some ⟨bx, 0, none⟩)] w fun e w' => e = .returned (.tuple #[.int .i64 (registerM S L).1, .int .i64 (registerM S L).2.1, .bool (registerM S L).2.2.1, .int .i64 (registerM S L).2.2.2.1]) ∧ ScAt W A bx bs bt (registerM S L).2.2.2.2 N S w' := by
  obtain ⟨c0, -, lb⟩ := h.cells
  have hm1 := fun n => m_next n bs w
  have HN1 := Lib.hid (scnext_any h)
  have HIH := Lib.hid IH
  obtain ⟨r, hr⟩ : ∃ r, registerM S L = r := ⟨_, rfl⟩
  rw [hr]
  have HR := Lib.hid hr
  clear h hr IH
  go_enter Try.func39, Try.ntmps39
  go_wp2_with fail
  with_reducible refine Calls.mono HN1.out ?_
  rintro e w2 ⟨rfl, h2⟩
  clear c0 lb hm1 HN1
  cases L with
  | nil =>
    have H2 := Lib.hid (h2.ext ((Ext.refl _).alloc (o := tok0.box)))
    clear h2
    go_wp2
    have hr := HR.out
    subst hr
    exact bodyPost_ret (v := .tuple #[.int .i64 0, .int .i64 0, .bool false, .int .i64 0]) (by unfold results; go_simp) rfl ⟨rfl, H2.out⟩
  | cons x L =>
    simp only [List.headD_cons, List.isEmpty_cons, Bool.not_false, List.tail_cons] at *
    have hr := HR.out
    rw [registerM_cons] at hr
    have HR1 := Lib.hid hr
    clear HR hr
    go_upto_region 2 with fail
    obtain ⟨w3, hw3⟩ : ∃ w3, w2.alloc x.box = w3 := ⟨_, rfl⟩
    obtain ⟨bk, hbk⟩ : ∃ bk, w2.heap.size = bk := ⟨_, rfl⟩
    have hx3 := h2.alloc x.box
    rw [hw3, hbk] at hx3
    rw [show w2.alloc (.cells #[.int .i64 x.cat, .int .u8 x.chr.toNat, .string x.name] 28) = w3 from hw3, hbk]
    have d0 := hx3.sat.cell (i := 0) rfl
    have d1 := hx3.sat.cell (i := 1) rfl
    have d2 := hx3.sat.cell (i := 2) rfl
    have ld := hx3.sat.lt
    have HX3 := Lib.hid hx3
    clear hx3 hw3 hbk h2
    have HME := Lib.hid (meaning_any x HX3.out)
    go_wp2_with fail
    with_reducible refine Calls.mono HME.out ?_
    rintro e w4 ⟨rfl, h4⟩
    obtain ⟨⟨m1, m2, m3, m4, m5⟩, hmm⟩ : ∃ m, meansM S x = m := ⟨_, rfl⟩
    have HMM := Lib.hid hmm
    rw [hmm]
    clear hmm
    go_upto_region 5 with fail
    have hx5 := h4.alloc (.cells #[.int .i64 m1, .int .i64 m2, .int .i64 m3, .int .i64 m4, .string m5] 103)
    obtain ⟨w5, hw5⟩ : ∃ w5, w4.alloc (.cells #[.int .i64 m1, .int .i64 m2, .int .i64 m3, .int .i64 m4, .string m5] 103) = w5 := ⟨_, rfl⟩
    obtain ⟨bm, hbm⟩ : ∃ bm, w4.heap.size = bm := ⟨_, rfl⟩
    rw [hw5, hbm] at hx5
    rw [hw5, hbm]
    clear d0 d1 d2 ld HX3 hw5 hbm h4
    have g0 := hx5.sat.cell (i := 0) rfl
    have g1 := hx5.sat.cell (i := 1) rfl
    have g2 := hx5.sat.cell (i := 2) rfl
    have g4 := hx5.sat.cell (i := 4) rfl
    have lg := hx5.sat.lt
    have d0 := hx5.sat.r.cell (i := 0) rfl
    have d1 := hx5.sat.r.cell (i := 1) rfl
    have d2 := hx5.sat.r.cell (i := 2) rfl
    have ld := hx5.sat.r.lt
    have HX5 := Lib.hid hx5
    clear hx5
    clear HME
    rw [HMM.out] at HR1
    by_cases h4 : m1 = 4 ∧ m2 ≤ 3
    · have hr := HR1.out
      rw [if_pos h4] at hr
      subst hr
      obtain ⟨rfl, h3⟩ := h4
      go_upto_region 6 with fail
      go_quiet (fail)
      go_wp2
      exact bodyPost_ret (v := .tuple #[.int .i64 m2, .int .i64 m3, .bool true, .int .i64 0]) (by unfold results; go_simp) rfl ⟨rfl, HX5.out.drewN.less.less⟩
    · have hr := HR1.out
      rw [if_neg h4] at hr
      have HR2 := Lib.hid hr
      clear hr HR1
      by_cases h1 : m1 = 1
      · subst h1
        by_cases t1 : m5 = ⟨#[99, 111, 117, 110, 116]⟩
        · subst t1
          rw [show classM ⟨1, m2, m3, m4, ⟨#[99, 111, 117, 110, 116]⟩⟩ = 1 from rfl, if_neg (by simp)] at HR2
          have HIN := Lib.hid (integer_of (n := n - 1) (L := L) (by omega) (by simp only [List.length_cons] at hl; omega) (HIH.out (n - 1) (by simp only [List.length_cons] at hl; omega)) HX5.out)
          obtain ⟨⟨i1, i2, i3⟩, hi⟩ : ∃ i, integerM S L = i := ⟨_, rfl⟩
          rw [hi] at HIN HR2
          have HR3 := Lib.hid HR2.out
          clear HR2 hi d0 d1 d2 ld HX5
          go_wp2_with fail
          with_reducible refine Calls.mono HIN.out ?_
          rintro e w8 ⟨rfl, h8⟩
          have H8 := Lib.hid h8
          clear h8 HIN
          clear g0 g1 g2 g4 lg
          unfold regEnd at HR3
          simp only at HR3
          by_cases he : i2 = 0
          · subst he
            have hr := HR3.out
            rw [if_neg (by simp)] at hr
            by_cases hi : i1 < 0 ∨ 256 ≤ i1
            · rw [if_pos hi] at hr
              subst hr
              rcases hi with h0 | h0
              · go_wp2
                exact bodyPost_ret (v := .tuple #[.int .i64 0, .int .i64 0, .bool false, .int .i64 11]) (by unfold results; go_simp) rfl ⟨rfl, H8.out.less.less⟩
              · have h00 : ¬ i1 < 0 := by omega
                go_wp2
                exact bodyPost_ret (v := .tuple #[.int .i64 0, .int .i64 0, .bool false, .int .i64 11]) (by unfold results; go_simp) rfl ⟨rfl, H8.out.less.less⟩
            · rw [if_neg hi] at hr
              subst hr
              have h00 : ¬ i1 < 0 := fun h => hi (.inl h)
              have h01 : ¬ 256 ≤ i1 := fun h => hi (.inr h)
              go_wp2
              exact bodyPost_ret (v := .tuple #[.int .i64 1, .int .i64 i1, .bool true, .int .i64 0]) (by unfold results; go_simp) rfl ⟨rfl, H8.out.less.less⟩
          · have hr := HR3.out
            rw [if_pos he] at hr
            subst hr
            have q1 : (i2 == 0) = false := by rw [beq_eq_false_iff_ne]; exact he
            have b1' : (i2 != 0) = true := by rw [bne_iff_ne]; exact he
            go_wp2
            exact bodyPost_ret (v := .tuple #[.int .i64 0, .int .i64 0, .bool false, .int .i64 i2]) (by unfold results; go_simp) rfl ⟨rfl, H8.out.less.less⟩
        · have s1 := str_ne [99, 111, 117, 110, 116] t1
          by_cases t2 : m5 = ⟨#[100, 105, 109, 101, 110]⟩
          · subst t2
            rw [show classM ⟨1, m2, m3, m4, ⟨#[100, 105, 109, 101, 110]⟩⟩ = 2 from by rw [classM, if_pos rfl, if_neg t1, if_pos rfl], if_neg (by simp)] at HR2
            have HIN := Lib.hid (integer_of (n := n - 1) (L := L) (by omega) (by simp only [List.length_cons] at hl; omega) (HIH.out (n - 1) (by simp only [List.length_cons] at hl; omega)) HX5.out)
            obtain ⟨⟨i1, i2, i3⟩, hi⟩ : ∃ i, integerM S L = i := ⟨_, rfl⟩
            rw [hi] at HIN HR2
            have HR3 := Lib.hid HR2.out
            clear HR2 hi d0 d1 d2 ld HX5
            go_wp2_with fail
            with_reducible refine Calls.mono HIN.out ?_
            rintro e w8 ⟨rfl, h8⟩
            have H8 := Lib.hid h8
            clear h8 HIN
            clear g0 g1 g2 g4 lg
            unfold regEnd at HR3
            simp only at HR3
            by_cases he : i2 = 0
            · subst he
              have hr := HR3.out
              rw [if_neg (by simp)] at hr
              by_cases hi : i1 < 0 ∨ 256 ≤ i1
              · rw [if_pos hi] at hr
                subst hr
                rcases hi with h0 | h0
                · go_wp2
                  exact bodyPost_ret (v := .tuple #[.int .i64 0, .int .i64 0, .bool false, .int .i64 11]) (by unfold results; go_simp) rfl ⟨rfl, H8.out.less.less⟩
                · have h00 : ¬ i1 < 0 := by omega
                  go_wp2
                  exact bodyPost_ret (v := .tuple #[.int .i64 0, .int .i64 0, .bool false, .int .i64 11]) (by unfold results; go_simp) rfl ⟨rfl, H8.out.less.less⟩
              · rw [if_neg hi] at hr
                subst hr
                have h00 : ¬ i1 < 0 := fun h => hi (.inl h)
                have h01 : ¬ 256 ≤ i1 := fun h => hi (.inr h)
                go_wp2
                exact bodyPost_ret (v := .tuple #[.int .i64 2, .int .i64 i1, .bool true, .int .i64 0]) (by unfold results; go_simp) rfl ⟨rfl, H8.out.less.less⟩
            · have hr := HR3.out
              rw [if_pos he] at hr
              subst hr
              have q1 : (i2 == 0) = false := by rw [beq_eq_false_iff_ne]; exact he
              have b1' : (i2 != 0) = true := by rw [bne_iff_ne]; exact he
              go_wp2
              exact bodyPost_ret (v := .tuple #[.int .i64 0, .int .i64 0, .bool false, .int .i64 i2]) (by unfold results; go_simp) rfl ⟨rfl, H8.out.less.less⟩
          · have s2 := str_ne [100, 105, 109, 101, 110] t2
            by_cases t3 : m5 = ⟨#[115, 107, 105, 112]⟩
            · subst t3
              rw [show classM ⟨1, m2, m3, m4, ⟨#[115, 107, 105, 112]⟩⟩ = 3 from by rw [classM, if_pos rfl, if_neg t1, if_neg t2, if_pos rfl], if_neg (by simp)] at HR2
              have HIN := Lib.hid (integer_of (n := n - 1) (L := L) (by omega) (by simp only [List.length_cons] at hl; omega) (HIH.out (n - 1) (by simp only [List.length_cons] at hl; omega)) HX5.out)
              obtain ⟨⟨i1, i2, i3⟩, hi⟩ : ∃ i, integerM S L = i := ⟨_, rfl⟩
              rw [hi] at HIN HR2
              have HR3 := Lib.hid HR2.out
              clear HR2 hi d0 d1 d2 ld HX5
              go_wp2_with fail
              with_reducible refine Calls.mono HIN.out ?_
              rintro e w8 ⟨rfl, h8⟩
              have H8 := Lib.hid h8
              clear h8 HIN
              clear g0 g1 g2 g4 lg
              unfold regEnd at HR3
              simp only at HR3
              by_cases he : i2 = 0
              · subst he
                have hr := HR3.out
                rw [if_neg (by simp)] at hr
                by_cases hi : i1 < 0 ∨ 256 ≤ i1
                · rw [if_pos hi] at hr
                  subst hr
                  rcases hi with h0 | h0
                  · go_wp2
                    exact bodyPost_ret (v := .tuple #[.int .i64 0, .int .i64 0, .bool false, .int .i64 11]) (by unfold results; go_simp) rfl ⟨rfl, H8.out.less.less⟩
                  · have h00 : ¬ i1 < 0 := by omega
                    go_wp2
                    exact bodyPost_ret (v := .tuple #[.int .i64 0, .int .i64 0, .bool false, .int .i64 11]) (by unfold results; go_simp) rfl ⟨rfl, H8.out.less.less⟩
                · rw [if_neg hi] at hr
                  subst hr
                  have h00 : ¬ i1 < 0 := fun h => hi (.inl h)
                  have h01 : ¬ 256 ≤ i1 := fun h => hi (.inr h)
                  go_wp2
                  exact bodyPost_ret (v := .tuple #[.int .i64 3, .int .i64 i1, .bool true, .int .i64 0]) (by unfold results; go_simp) rfl ⟨rfl, H8.out.less.less⟩
              · have hr := HR3.out
                rw [if_pos he] at hr
                subst hr
                have q1 : (i2 == 0) = false := by rw [beq_eq_false_iff_ne]; exact he
                have b1' : (i2 != 0) = true := by rw [bne_iff_ne]; exact he
                go_wp2
                exact bodyPost_ret (v := .tuple #[.int .i64 0, .int .i64 0, .bool false, .int .i64 i2]) (by unfold results; go_simp) rfl ⟨rfl, H8.out.less.less⟩
            · have s3 := str_ne [115, 107, 105, 112] t3
              rw [show classM ⟨1, m2, m3, m4, m5⟩ = 0 from by rw [classM, if_pos rfl, if_neg t1, if_neg t2, if_neg t3], if_pos rfl] at HR2
              go_upto_region 16 with fail
              clear g0 g1 g2 g4 lg
              have HX3 := HX5
              clear HX5
              have HB := Lib.hid (scback_any x (by simp only [List.length_cons] at hl; omega) HX3.out.drew)
              obtain ⟨W9, hW9⟩ : ∃ W9, w5.drew = W9 := ⟨_, rfl⟩
              rw [hW9] at HB
              obtain ⟨e0, -, -⟩ := HX3.out.drew.cells
              rw [hW9] at e0
              have e1 := (show w5.drew.cell? _ = _ from d0)
              have e2 := (show w5.drew.cell? _ = _ from d1)
              have e3 := (show w5.drew.cell? _ = _ from d2)
              rw [hW9] at e1 e2 e3
              have hm2 := fun n => m_back n bs W9
              clear d0 d1 d2 HX3
              refine wp_region_tail (fun w' => w' = W9) 5 (by kernel_rfl) (by kernel_rfl) hW9 ?_
              clear hW9
              simp only [List.take_succ_cons, List.take_zero, List.drop_succ_cons, List.drop_zero]
              iterate 5
                with_reducible refine wpQuiet_step ?_
                intro K hK
                go_simp
                first
                  | (with_reducible refine hK _ ?_
                     clear hK K)
                  | (refine Exists.intro _ ⟨fun w9 hw9 => ?_, ?_⟩
                     rotate_left 1
                     with_reducible refine hK _ ?_
                     clear hK K
                     rotate_left 1
                     · subst hw9; go_simp; try with_reducible rfl)
              refine wpQuiet_nil ?_
              rintro w17 rfl
              go_wp2_with fail
              with_reducible refine Calls.mono HB.out ?_
              rintro e w4 ⟨rfl, h4⟩
              have HX4 := Lib.hid h4
              clear h4 HB e0 e1 e2 e3 hm2
              go_wp2
              have hr := HR2.out
              subst hr
              exact bodyPost_ret (v := .tuple #[.int .i64 0, .int .i64 0, .bool false, .int .i64 0]) (by unfold results; go_simp) rfl ⟨rfl, HX4.out.less.less⟩
      · have n1 : (m1 == 1) = false := by rw [beq_eq_false_iff_ne]; exact h1
        rw [show classM ⟨m1, m2, m3, m4, m5⟩ = 0 from by rw [classM, if_neg h1], if_pos rfl] at HR2
        by_cases h40 : m1 = 4
        · subst h40
          have n2 : ¬ m2 ≤ 3 := fun h => h4 ⟨rfl, h⟩
          go_upto_region 16 with fail
          clear g0 g1 g2 g4 lg
          have HX3 := HX5
          clear HX5
          have HB := Lib.hid (scback_any x (by simp only [List.length_cons] at hl; omega) HX3.out.drew)
          obtain ⟨W9, hW9⟩ : ∃ W9, w5.drew = W9 := ⟨_, rfl⟩
          rw [hW9] at HB
          obtain ⟨e0, -, -⟩ := HX3.out.drew.cells
          rw [hW9] at e0
          have e1 := (show w5.drew.cell? _ = _ from d0)
          have e2 := (show w5.drew.cell? _ = _ from d1)
          have e3 := (show w5.drew.cell? _ = _ from d2)
          rw [hW9] at e1 e2 e3
          have hm2 := fun n => m_back n bs W9
          clear d0 d1 d2 HX3
          refine wp_region_tail (fun w' => w' = W9) 5 (by kernel_rfl) (by kernel_rfl) hW9 ?_
          clear hW9
          simp only [List.take_succ_cons, List.take_zero, List.drop_succ_cons, List.drop_zero]
          iterate 5
            with_reducible refine wpQuiet_step ?_
            intro K hK
            go_simp
            first
              | (with_reducible refine hK _ ?_
                 clear hK K)
              | (refine Exists.intro _ ⟨fun w9 hw9 => ?_, ?_⟩
                 rotate_left 1
                 with_reducible refine hK _ ?_
                 clear hK K
                 rotate_left 1
                 · subst hw9; go_simp; try with_reducible rfl)
          refine wpQuiet_nil ?_
          rintro w17 rfl
          go_wp2_with fail
          with_reducible refine Calls.mono HB.out ?_
          rintro e w4 ⟨rfl, h4⟩
          have HX4 := Lib.hid h4
          clear h4 HB e0 e1 e2 e3 hm2
          go_wp2
          have hr := HR2.out
          subst hr
          exact bodyPost_ret (v := .tuple #[.int .i64 0, .int .i64 0, .bool false, .int .i64 0]) (by unfold results; go_simp) rfl ⟨rfl, HX4.out.less.less⟩
        · have n2 : (m1 == 4) = false := by rw [beq_eq_false_iff_ne]; exact h40
          go_upto_region 16 with fail
          clear g0 g1 g2 g4 lg
          have HX3 := HX5
          clear HX5
          have HB := Lib.hid (scback_any x (by simp only [List.length_cons] at hl; omega) HX3.out.drew)
          obtain ⟨W9, hW9⟩ : ∃ W9, w5.drew = W9 := ⟨_, rfl⟩
          rw [hW9] at HB
          obtain ⟨e0, -, -⟩ := HX3.out.drew.cells
          rw [hW9] at e0
          have e1 := (show w5.drew.cell? _ = _ from d0)
          have e2 := (show w5.drew.cell? _ = _ from d1)
          have e3 := (show w5.drew.cell? _ = _ from d2)
          rw [hW9] at e1 e2 e3
          have hm2 := fun n => m_back n bs W9
          clear d0 d1 d2 HX3
          refine wp_region_tail (fun w' => w' = W9) 5 (by kernel_rfl) (by kernel_rfl) hW9 ?_
          clear hW9
          simp only [List.take_succ_cons, List.take_zero, List.drop_succ_cons, List.drop_zero]
          iterate 5
            with_reducible refine wpQuiet_step ?_
            intro K hK
            go_simp
            first
              | (with_reducible refine hK _ ?_
                 clear hK K)
              | (refine Exists.intro _ ⟨fun w9 hw9 => ?_, ?_⟩
                 rotate_left 1
                 with_reducible refine hK _ ?_
                 clear hK K
                 rotate_left 1
                 · subst hw9; go_simp; try with_reducible rfl)
          refine wpQuiet_nil ?_
          rintro w17 rfl
          go_wp2_with fail
          with_reducible refine Calls.mono HB.out ?_
          rintro e w4 ⟨rfl, h4⟩
          have HX4 := Lib.hid h4
          clear h4 HB e0 e1 e2 e3 hm2
          go_wp2
          have hr := HR2.out
          subst hr
          exact bodyPost_ret (v := .tuple #[.int .i64 0, .int .i64 0, .bool false, .int .i64 0]) (by unfold results; go_simp) rfl ⟨rfl, HX4.out.less.less⟩

theorem regC_all (n : Nat) : n ≤ 2000000 → RegC W bx bs bt N S n := by
  induction n using Nat.strongRecOn with
  | ind n ih => exact fun hn A L w hl h => register_of hn (fun m hm => ih m hm (by omega)) hl h
theorem register_any (hl : L.length ≤ 2000000) (h : ScAt W A bx bs bt L N S w) :
    Calls Try.prog 39 #[.pointer (some ⟨bx, 0, none⟩)] w fun e w' => e = .returned (.tuple #[.int .i64 (registerM S L).1, .int .i64 (registerM S L).2.1, .bool (registerM S L).2.2.1, .int .i64 (registerM S L).2.2.2.1]) ∧ ScAt W A bx bs bt (registerM S L).2.2.2.2 N S w' :=
  regC_all 2000000 (Nat.le_refl _) A L w hl h
theorem integer_any (hl : L.length ≤ 2000000) (h : ScAt W A bx bs bt L N S w) :
    Calls Try.prog 29 #[.pointer (some ⟨bx, 0, none⟩)] w fun e w' => e = .returned (.tuple #[.int .i64 (integerM S L).1, .int .i64 (integerM S L).2.1]) ∧ ScAt W A bx bs bt (integerM S L).2.2 N S w' :=
  integer_of (Nat.le_refl _) hl (regC_all 2000000 (Nat.le_refl _)) h

end Go.Proofs.Yticljfpippbkkaa
