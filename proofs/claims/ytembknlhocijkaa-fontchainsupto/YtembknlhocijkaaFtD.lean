
/-
  A font's steps and pieces: may the one at a place be? Conditions: those that each theorem names.
-/
import Derived.Test.YtembknlhocijkaaFtC
import Derived.Test.YtembknlhocijkaaAnyC
namespace Go.Proofs.Ytembknlhocijkaa
open Go.RowKit Go.Sp
variable {w : World} {x : FV} {F : Fnt}

set_option maxRecDepth 100000 in
set_option maxHeartbeats 4000000 in
theorem step_any (h : RdF w x F) (i : Nat) (hi : i < F.steps.length) (h0 : 0 ≤ F.first) (h1 : F.first ≤ 255) :
    Calls Try.prog 32 #[F.val x, .int .i64 i] w fun e w' => e = .returned (.bool (stepB F i (stpM F i))) ∧ Ext w w' := by
  have HX := Lib.hid (((Ext.refl w).alloc (o := F.box x)).alloc (o := (stpM F i).box))
  have HB := Lib.hid ((BoxF.new w F x).ext ((Ext.refl _).alloc (o := (stpM F i).box)))
  have HM := Lib.hid ((Sat.start (w.alloc (F.box x))).alloc (stpM F i).box)
  have HF := Lib.hid (h.ext HX.out)
  obtain ⟨ca, cc, sa, sc, ka, kc, pa, pc, ra, rc, rfl, -⟩ := h.vals
  have hle := h.lc
  have hls := h.ls
  have hlk := h.lk
  obtain ⟨b, off, rfl, c0, c1, c2, c3, lb⟩ := h.stp rfl hi
  have hi2 : (i : Int) < F.steps.length := by omega
  obtain ⟨W1, hW1⟩ : ∃ W1, (w.alloc (F.box ⟨.slice ca F.chars.length cc, .slice (some ⟨b, off, none⟩) F.steps.length sc, .slice ka F.kerns.length kc, .slice pa F.pieces.length pc, .slice ra F.params.length rc⟩)).alloc (stpM F i).box = W1 := ⟨_, rfl⟩
  obtain ⟨bf, hbf⟩ : ∃ bf, w.heap.size = bf := ⟨_, rfl⟩
  rw [hW1] at HX HB HM HF
  rw [hbf] at HB
  rw [World.size_alloc, hbf] at HM
  obtain ⟨r, hr⟩ : ∃ r, stepB F i (stpM F i) = r := ⟨_, rfl⟩
  rw [hr]
  unfold stepB far at hr
  obtain ⟨s, hs⟩ : ∃ s, stpM F i = s := ⟨_, rfl⟩
  rw [hs] at c0 c1 c2 c3 hr HM hW1
  obtain ⟨sk, nx, op, rs⟩ := s
  simp only at c0 c1 c2 c3 hr
  simp only [Fnt.box, Stp.box] at hW1 HM
  have k0 := u8i sk
  have k1 := u8i nx
  have k2 := u8i op
  have k3 := u8i rs
  generalize hsk : sk.toNat = sk at *
  generalize hnx : nx.toNat = nx at *
  generalize hop : op.toNat = op at *
  generalize hrs : rs.toNat = rs at *
  have HR := Lib.hid hr
  have HW1 := Lib.hid hW1
  have HBF := Lib.hid hbf
  clear hr h hs hW1 hbf hsk hnx hop hrs
  go_enter Try.func32, Try.ntmps32
  go_upto_region 2 with fail
  rw [HBF.out, HW1.out]
  clear HW1 HBF c0 c1 c2 c3
  have d0 := HM.out.cell (i := 0) rfl
  have d1 := HM.out.cell (i := 1) rfl
  have d2 := HM.out.cell (i := 2) rfl
  have d3 := HM.out.cell (i := 3) rfl
  have ld := HM.out.lt
  clear HM
  have b0 := HB.out.c0
  have b1 := HB.out.c1
  have b2 := HB.out.c2
  have b3 := HB.out.c3
  have b4 := HB.out.c4
  have b5 := HB.out.c5
  have b6 := HB.out.c6
  have b7 := HB.out.c7
  have lq := HB.out.lt
  have hr := HR.out
  by_cases hA : 128 < sk
  · have hA2 : (128 : Int) < sk := by omega
    rw [if_pos hA] at hr
    clear HR hA
    by_cases h255 : sk = 255
    · have hB2 : (sk : Int) = 255 := by omega
      by_cases hi0 : i = 0
      · have hi3 : (i : Int) = 0 := by omega
        obtain rfl : true = r := by rw [← hr]; simp [h255, hi0]
        clear hr hi0 h255
        go_wp2
        go_ret
        exact ⟨rfl, HX.out⟩
      · have hi3 : ¬ (i : Int) = 0 := by omega
        by_cases hf : 256 * (op : Int) + rs < F.steps.length
        · obtain rfl : true = r := by rw [← hr]; simp [hf]
          clear hr hi0 h255
          go_wp2
          go_ret
          exact ⟨rfl, HX.out⟩
        · obtain rfl : false = r := by rw [← hr]; simp only [hi0, decide_false, Bool.and_false, Bool.false_or, decide_eq_false hf]
          clear hr hi0 h255
          go_wp2
          go_ret
          exact ⟨by show Ending.returned (Value.bool ((i : Int) == 0)) = _; rw [beq_eq_false_iff_ne.2 hi3], HX.out⟩
    · have hB2 : ¬ (sk : Int) = 255 := by omega
      by_cases hf : 256 * (op : Int) + rs < F.steps.length
      · obtain rfl : true = r := by rw [← hr]; simp [hf]
        clear hr h255
        go_wp2
        go_ret
        exact ⟨rfl, HX.out⟩
      · obtain rfl : false = r := by rw [← hr]; simp only [h255, decide_false, Bool.false_and, Bool.false_or, decide_eq_false hf]
        clear hr h255
        go_wp2
        go_ret
        exact ⟨rfl, HX.out⟩
  · have hA2 : ¬ (128 : Int) < sk := by omega
    rw [if_neg hA] at hr
    have HR := Lib.hid hr
    clear hr hA
    have HT := Lib.hid (there_any HF.out nx ⟨by omega, by omega⟩ h0 h1)
    obtain ⟨q, hq⟩ : ∃ q, thereM F (nx : Int) = q := ⟨_, rfl⟩
    rw [hq] at HT HR
    clear hq
    go_wp2_with fail
    with_reducible refine Calls.mono HT.out ?_
    rintro e w2 ⟨rfl, hx⟩
    have HX2 := Lib.hid (HX.out.trans hx)
    have HB2 := Lib.hid (HB.out.ext hx)
    have HF2 := Lib.hid (HF.out.ext hx)
    have e0 := hx.cell d0
    have e1 := hx.cell d1
    have e2 := hx.cell d2
    have e3 := hx.cell d3
    have le := hx.lt ld
    clear hx HX HB HF HT d0 d1 d2 d3 ld b0 b1 b2 b3 b4 b5 b6 b7 lq
    cases q with
    | some k =>
      simp only [Option.getD_some, Option.isSome_some, Option.isNone_some] at HR ⊢
      go_upto_region 5 with fail
      obtain ⟨W9, hW9⟩ : ∃ W9, w2.drew = W9 := ⟨_, rfl⟩
      have hE := (Ext.refl w2).drew
      rw [hW9] at hE
      have HX3 := Lib.hid (HX2.out.trans hE)
      have HB := Lib.hid (HB2.out.ext hE)
      have HF3 := Lib.hid (HF2.out.ext hE)
      replace e0 := hE.cell e0
      replace e1 := hE.cell e1
      replace e2 := hE.cell e2
      replace e3 := hE.cell e3
      replace le := hE.lt le
      clear hE HX2 HB2 HF2
      have HX2 := HX3
      have HF2 := HF3
      clear HX3 HF3
      have b0 := HB.out.c0
      have b1 := HB.out.c1
      have b2 := HB.out.c2
      have b3 := HB.out.c3
      have b4 := HB.out.c4
      have b5 := HB.out.c5
      have b6 := HB.out.c6
      have b7 := HB.out.c7
      have lq := HB.out.lt
      refine wp_region_tail (fun w' => w' = W9) 9 (by kernel_rfl) (by kernel_rfl) hW9 ?_
      clear hW9
      simp only [List.take_succ_cons, List.take_zero, List.drop_succ_cons, List.drop_zero]
      iterate 9
        with_reducible refine wpQuiet_step ?_
        intro K hK
        go_simp
        first
          | (with_reducible refine hK _ ?_
             clear hK K)
          | (rw [if_neg (by intro h; cases h)]
             with_reducible refine hK _ ?_
             clear hK K)
          | (refine Exists.intro _ ⟨fun w9 hw9 => ?_, ?_⟩
             rotate_left 1
             with_reducible refine hK _ ?_
             clear hK K
             rotate_left 1
             · subst hw9; go_simp; try with_reducible rfl)
      refine wpQuiet_nil ?_
      rintro w17 rfl
      go_upto_region 7 with fail
      have hr := HR.out
      simp only [Bool.false_and, Bool.false_eq_true, if_false] at hr
      by_cases hB : sk < 128
      · have hB2 : (sk : Int) < 128 := by omega
        by_cases hC : F.steps.length ≤ i + sk + 1
        · have hC2 : (F.steps.length : Int) ≤ (i : Int) + sk + 1 := by omega
          rw [if_pos (by simp [hB, hC])] at hr
          subst hr
          clear hB hC
          go_wp2
          go_ret
          exact ⟨rfl, HX2.out⟩
        · have hC2 : ¬ (F.steps.length : Int) ≤ (i : Int) + sk + 1 := by omega
          rw [if_neg (by simp [hC])] at hr
          clear hB hC
          go_upto_region 9 with fail
          by_cases hop : 128 ≤ op
          · rw [if_pos hop] at hr
            have hop2 : (128 : Int) ≤ op := by omega
            clear HR
            by_cases hk : 256 * ((op : Int) - 128) + rs < F.kerns.length
            · obtain rfl : true = r := by rw [← hr]; simp [hk]
              clear hr hop
              go_wp2
              go_ret
              exact ⟨rfl, HX2.out⟩
            · obtain rfl : false = r := by rw [← hr]; simp only [decide_eq_false hk]
              clear hr hop
              go_wp2
              go_ret
              exact ⟨rfl, HX2.out⟩
          · rw [if_neg hop] at hr
            have hop2 : ¬ (128 : Int) ≤ op := by omega
            have HT := Lib.hid (there_any HF2.out rs ⟨by omega, by omega⟩ h0 h1)
            clear HR hop
            obtain ⟨q2, hq2⟩ : ∃ q2, thereM F (rs : Int) = q2 := ⟨_, rfl⟩
            rw [hq2] at hr HT
            subst hr
            clear hq2
            go_wp2_with fail
            with_reducible refine Calls.mono HT.out ?_
            rintro e w3 ⟨rfl, hx⟩
            clear HT e0 e1 e2 e3 le b0 b1 b2 b3 b4 b5 b6 b7 lq HF2 HB
            go_wp2
            go_ret
            exact ⟨rfl, HX2.out.trans hx⟩
      · have hB2 : ¬ (sk : Int) < 128 := by omega
        rw [if_neg (by simp [hB])] at hr
        clear hB
        go_upto_region 9 with fail
        by_cases hop : 128 ≤ op
        · rw [if_pos hop] at hr
          have hop2 : (128 : Int) ≤ op := by omega
          clear HR
          by_cases hk : 256 * ((op : Int) - 128) + rs < F.kerns.length
          · obtain rfl : true = r := by rw [← hr]; simp [hk]
            clear hr hop
            go_wp2
            go_ret
            exact ⟨rfl, HX2.out⟩
          · obtain rfl : false = r := by rw [← hr]; simp only [decide_eq_false hk]
            clear hr hop
            go_wp2
            go_ret
            exact ⟨rfl, HX2.out⟩
        · rw [if_neg hop] at hr
          have hop2 : ¬ (128 : Int) ≤ op := by omega
          have HT := Lib.hid (there_any HF2.out rs ⟨by omega, by omega⟩ h0 h1)
          clear HR hop
          obtain ⟨q2, hq2⟩ : ∃ q2, thereM F (rs : Int) = q2 := ⟨_, rfl⟩
          rw [hq2] at hr HT
          subst hr
          clear hq2
          go_wp2_with fail
          with_reducible refine Calls.mono HT.out ?_
          rintro e w3 ⟨rfl, hx⟩
          clear HT e0 e1 e2 e3 le b0 b1 b2 b3 b4 b5 b6 b7 lq HF2 HB
          go_wp2
          go_ret
          exact ⟨rfl, HX2.out.trans hx⟩
    | none =>
      simp only [Option.getD_none, Option.isSome_none, Option.isNone_none] at HR ⊢
      go_upto_region 5 with fail
      obtain ⟨W9, hW9⟩ : ∃ W9, w2.drew = W9 := ⟨_, rfl⟩
      have hE := (Ext.refl w2).drew
      rw [hW9] at hE
      have HX3 := Lib.hid (HX2.out.trans hE)
      have HB := Lib.hid (HB2.out.ext hE)
      have HF3 := Lib.hid (HF2.out.ext hE)
      replace e0 := hE.cell e0
      replace e1 := hE.cell e1
      replace e2 := hE.cell e2
      replace e3 := hE.cell e3
      replace le := hE.lt le
      clear hE HX2 HB2 HF2
      have HX2 := HX3
      have HF2 := HF3
      clear HX3 HF3
      have b0 := HB.out.c0
      have b1 := HB.out.c1
      have b2 := HB.out.c2
      have b3 := HB.out.c3
      have b4 := HB.out.c4
      have b5 := HB.out.c5
      have b6 := HB.out.c6
      have b7 := HB.out.c7
      have lq := HB.out.lt
      have HC9 := Lib.hid (show Ext W9 w2.drew by rw [hW9]; exact Ext.refl _)
      clear hW9
      refine wp_region_tail (Ext W9) 9 (by kernel_rfl) (by kernel_rfl) HC9.out ?_
      simp only [List.take_succ_cons, List.take_zero, List.drop_succ_cons, List.drop_zero]
      iterate 9
        with_reducible refine wpQuiet_step ?_
        intro K hK
        go_simp
        first
          | (with_reducible refine hK _ ?_
             clear hK K)
          | (rw [if_neg (by intro h; cases h)]
             with_reducible refine hK _ ?_
             clear hK K)
          | (apply Exists.intro
             refine ⟨fun w9 hw9 => ?_, ?_⟩
             · first
                | rfl
                | (go_at_call 49; with_reducible refine Calls.mono (boundary_any (HF2.out.ext hw9)) ?_; exact fun _ _ ⟨h1, h2⟩ => ⟨h1, hw9.trans h2⟩)
                | ((have q0 := hw9.cell b0; have q1 := hw9.cell b1; have q2 := hw9.cell b2; have q3 := hw9.cell b3; have q4 := hw9.cell b4; have q5 := hw9.cell b5; have q6 := hw9.cell b6; have q7 := hw9.cell b7; have q8 := hw9.cell e1; have q9 := hw9.lt lq); go_simp; first | done | rfl)
             with_reducible refine hK _ ?_
             clear hK K)
      refine wpQuiet_nil ?_
      intro w17 hw17
      replace e0 := hw17.cell e0
      replace e1 := hw17.cell e1
      replace e2 := hw17.cell e2
      replace e3 := hw17.cell e3
      replace le := hw17.lt le
      have HX3 := Lib.hid (HX2.out.trans hw17)
      have HB3 := Lib.hid (HB.out.ext hw17)
      have HF3 := Lib.hid (HF2.out.ext hw17)
      clear hw17 HC9 HX2 HB HF2 b0 b1 b2 b3 b4 b5 b6 b7 lq
      have HX2 := HX3
      have HF2 := HF3
      have HB := HB3
      clear HX3 HF3 HB3
      have b0 := HB.out.c0
      have b1 := HB.out.c1
      have b2 := HB.out.c2
      have b3 := HB.out.c3
      have b4 := HB.out.c4
      have b5 := HB.out.c5
      have b6 := HB.out.c6
      have b7 := HB.out.c7
      have lq := HB.out.lt
      have hr := HR.out
      clear HR
      by_cases hne : (nx : Int) = edgeM F
      · simp only [hne, ne_eq, not_true_eq_false, decide_false, Bool.and_false, Bool.false_eq_true, if_false] at hr
        have HR := Lib.hid hr
        have hne2 : ((nx : Int) != edgeM F) = false := by simp [hne]
        have hne3 : ((edgeM F : Int) != edgeM F) = false := by simp
        clear hr
        go_upto_region 7 with fail
        clear hne hne2 hne3
        have hr := HR.out
        by_cases hB : sk < 128
        · have hB2 : (sk : Int) < 128 := by omega
          by_cases hC : F.steps.length ≤ i + sk + 1
          · have hC2 : (F.steps.length : Int) ≤ (i : Int) + sk + 1 := by omega
            rw [if_pos (by simp [hB, hC])] at hr
            subst hr
            clear hB hC
            go_wp2
            go_ret
            exact ⟨rfl, HX2.out⟩
          · have hC2 : ¬ (F.steps.length : Int) ≤ (i : Int) + sk + 1 := by omega
            rw [if_neg (by simp [hC])] at hr
            clear hB hC
            go_upto_region 9 with fail
            by_cases hop : 128 ≤ op
            · rw [if_pos hop] at hr
              have hop2 : (128 : Int) ≤ op := by omega
              clear HR
              by_cases hk : 256 * ((op : Int) - 128) + rs < F.kerns.length
              · obtain rfl : true = r := by rw [← hr]; simp [hk]
                clear hr hop
                go_wp2
                go_ret
                exact ⟨rfl, HX2.out⟩
              · obtain rfl : false = r := by rw [← hr]; simp only [decide_eq_false hk]
                clear hr hop
                go_wp2
                go_ret
                exact ⟨rfl, HX2.out⟩
            · rw [if_neg hop] at hr
              have hop2 : ¬ (128 : Int) ≤ op := by omega
              have HT := Lib.hid (there_any HF2.out rs ⟨by omega, by omega⟩ h0 h1)
              clear HR hop
              obtain ⟨q2, hq2⟩ : ∃ q2, thereM F (rs : Int) = q2 := ⟨_, rfl⟩
              rw [hq2] at hr HT
              subst hr
              clear hq2
              go_wp2_with fail
              with_reducible refine Calls.mono HT.out ?_
              rintro e w3 ⟨rfl, hx⟩
              clear HT e0 e1 e2 e3 le b0 b1 b2 b3 b4 b5 b6 b7 lq HF2 HB
              go_wp2
              go_ret
              exact ⟨rfl, HX2.out.trans hx⟩
        · have hB2 : ¬ (sk : Int) < 128 := by omega
          rw [if_neg (by simp [hB])] at hr
          clear hB
          go_upto_region 9 with fail
          by_cases hop : 128 ≤ op
          · rw [if_pos hop] at hr
            have hop2 : (128 : Int) ≤ op := by omega
            clear HR
            by_cases hk : 256 * ((op : Int) - 128) + rs < F.kerns.length
            · obtain rfl : true = r := by rw [← hr]; simp [hk]
              clear hr hop
              go_wp2
              go_ret
              exact ⟨rfl, HX2.out⟩
            · obtain rfl : false = r := by rw [← hr]; simp only [decide_eq_false hk]
              clear hr hop
              go_wp2
              go_ret
              exact ⟨rfl, HX2.out⟩
          · rw [if_neg hop] at hr
            have hop2 : ¬ (128 : Int) ≤ op := by omega
            have HT := Lib.hid (there_any HF2.out rs ⟨by omega, by omega⟩ h0 h1)
            clear HR hop
            obtain ⟨q2, hq2⟩ : ∃ q2, thereM F (rs : Int) = q2 := ⟨_, rfl⟩
            rw [hq2] at hr HT
            subst hr
            clear hq2
            go_wp2_with fail
            with_reducible refine Calls.mono HT.out ?_
            rintro e w3 ⟨rfl, hx⟩
            clear HT e0 e1 e2 e3 le b0 b1 b2 b3 b4 b5 b6 b7 lq HF2 HB
            go_wp2
            go_ret
            exact ⟨rfl, HX2.out.trans hx⟩
      · rw [if_pos (by simp [hne])] at hr
        subst hr
        have hne2 : ((nx : Int) != edgeM F) = true := by simp [hne]
        go_wp2
        go_ret
        exact ⟨rfl, HX2.out⟩
end Go.Proofs.Ytembknlhocijkaa
