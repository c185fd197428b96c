import Derived.Test.YticljfpippbkkaaMNGN
import Derived.Test.YticljfpippbkkaaMNS
import Derived.Test.YticljfpippbkkaaMNA
/-
  Glue, whole. Conditions: those that each theorem names.
-/
namespace Go.Proofs.Yticljfpippbkkaa
open Go.RowKit Go.Sp
variable {W w w' : World} {A : HProp} {bx bs bt N : Nat} {L : List Tok} {S : TabS}

theorem unitC_all : UnitC W bx bs bt N S (fun _ _ => True) := by
  intro A x L w _ hl h
  by_cases hP : UnitP S x L
  · exact unit_some hP hl h
  · unfold UnitP at hP
    have h1 : (registerM S (blanksM L)).2.2.2.1 = 0 := Classical.byContradiction fun h => hP (.inl h)
    have h2 : (registerM S (blanksM L)).2.2.1 = false := by
      cases hb : (registerM S (blanksM L)).2.2.1 with
      | false => rfl
      | true => exact absurd (.inr (.inl hb)) hP
    have h3 : unitGo x (blanksM L) unitsL = none := by
      cases hu : unitGo x (blanksM L) unitsL with
      | none => rfl
      | some y => exact absurd (.inr (.inr (by rw [hu]; rfl))) hP
    have e : unitM S x L = (0, 21, L) := by
      unfold unitM
      simp only [h1, h2, h3]
      rfl
    rw [e]
    exact unit_none h1 h2 h3 hl h

set_option maxRecDepth 100000 in
set_option maxHeartbeats 8000000 in
theorem part_any (wd : List UInt8) (z : ByteArray) (hz : z = ⟨wd.toArray⟩) (hw : wd ≠ []) (hwl : wd.length ≤ 1000) (hl : L.length ≤ 2000000) (h : ScAt W A bx bs bt L N S w) :
    Calls Try.prog 38 #[.pointer (some ⟨bx, 0, none⟩), .string z] w fun e w' => e = .returned (.tuple #[.int .i64 (partM S wd L).1, .int .i64 (partM S wd L).2.1, .int .i64 (partM S wd L).2.2.1]) ∧ ScAt W A bx bs bt (partM S wd L).2.2.2 N S w' := by
  have HK := Lib.hid (sckey_at z wd hz hw hwl hl h)
  obtain ⟨R, hR⟩ : ∃ R, partM S wd L = R := ⟨_, rfl⟩
  rw [hR]
  unfold partM at hR
  obtain ⟨kw, hkw⟩ : ∃ kw, keyM wd L = kw := ⟨_, rfl⟩
  rw [hkw] at HK hR
  have HR := Lib.hid hR
  have HKW := Lib.hid hkw
  have HLL := Lib.hid hl
  clear h hR hkw hz hw hwl hl
  cases kw with
  | none =>
    have hr := HR.out
    simp only at hr
    subst hr
    simp only [Option.isSome_none, Option.getD_none] at HK
    clear HR HKW
    go_enter Try.func38, Try.ntmps38
    go_wp2_with fail
    with_reducible refine Calls.mono HK.out ?_
    rintro e w2 ⟨rfl, h2⟩
    have H2 := Lib.hid h2
    clear h2 HK
    go_wp2
    exact bodyPost_ret (v := .tuple #[.int .i64 (0), .int .i64 (0), .int .i64 (0)]) (by unfold results; go_simp) rfl ⟨rfl, H2.out⟩
  | some l1 =>
    have hr := HR.out
    simp only at hr
    have hl1 : l1.length ≤ 2000000 := Nat.le_trans (keyM_len HKW.out) HLL.out
    have hsl := signs_len l1 false
    simp only [Option.isSome_some, Option.getD_some] at HK
    have HSG := Lib.hid (fun w (h : ScAt W A bx bs bt l1 N S w) => signs_any hl1 h)
    obtain ⟨⟨sm, sl⟩, hs⟩ : ∃ s, signsM l1 false = s := ⟨_, rfl⟩
    rw [hs] at hr HSG hsl
    simp only at hr hsl
    have HSZ := Lib.hid (fun w (h : ScAt W A bx bs bt sl N S w) => size_any sm true (unitC_all (W := W)) trivial (by omega) h)
    obtain ⟨⟨z1, z2, z3, z4⟩, hz⟩ : ∃ z, sizeM S sm true sl = z := ⟨_, rfl⟩
    rw [hz] at hr HSZ
    simp only at hr
    obtain ⟨o, ho⟩ : ∃ o, (if z1 = 0 then 0 else z2) = o := ⟨_, rfl⟩
    rw [ho] at hr
    have HO := Lib.hid ho
    subst hr
    clear hs hz HR HKW HLL hsl hl1 ho
    go_enter Try.func38, Try.ntmps38
    go_wp2_with fail
    with_reducible refine Calls.mono HK.out ?_
    rintro e w2 ⟨rfl, h2⟩
    have H2 := Lib.hid (HSG.out _ h2)
    clear h2 HK HSG
    go_wp2_with fail
    with_reducible refine Calls.mono H2.out ?_
    rintro e w3 ⟨rfl, h3⟩
    have H3 := Lib.hid (HSZ.out _ h3)
    clear h3 H2 HSZ
    go_wp2_with fail
    with_reducible refine Calls.mono H3.out ?_
    rintro e w4 ⟨rfl, h4⟩
    have H4 := Lib.hid h4
    clear h4 H3
    by_cases h0 : z1 = 0
    · subst h0
      obtain rfl : 0 = o := by have := HO.out; rwa [if_pos rfl] at this
      go_wp2
      exact bodyPost_ret (v := .tuple #[.int .i64 (0), .int .i64 (0), .int .i64 (z3)]) (by unfold results; go_simp) rfl ⟨rfl, H4.out⟩
    · have q0 : (z1 == 0) = false := by rw [beq_eq_false_iff_ne]; exact h0
      obtain rfl : z2 = o := by have := HO.out; rwa [if_neg h0] at this
      clear h0 HO
      go_wp2
      exact bodyPost_ret (v := .tuple #[.int .i64 (z1), .int .i64 (z2), .int .i64 (z3)]) (by unfold results; go_simp) rfl ⟨rfl, H4.out⟩

theorem ScAt.setG {b : Nat} {c0 c1 c2 c3 c4 : Int} (h : ScAt W (pts b (glO c0 c1 c2 c3 c4) * A) bx bs bt L N S w) (d0 d1 d2 d3 d4 : Int) :
    ScAt W (pts b (glO d0 d1 d2 d3 d4) * A) bx bs bt L N S (((((w.setCell ⟨b, 0, none⟩ (.int .i64 d0)).setCell ⟨b, 1, none⟩ (.int .i64 d1)).setCell ⟨b, 2, none⟩ (.int .i64 d2)).setCell ⟨b, 3, none⟩ (.int .i64 d3)).setCell ⟨b, 4, none⟩ (.int .i64 d4)) := by
  obtain ⟨Y, h1, back⟩ := h.focus
  exact back _ _ ((glSet h1.asc d0 d1 d2 d3 d4).asc')
theorem ScAt.setG1 {b : Nat} {c0 c1 c2 c3 c4 : Int} (h : ScAt W (pts b (glO c0 c1 c2 c3 c4) * A) bx bs bt L N S w) (d0 : Int) :
    ScAt W (pts b (glO d0 c1 c2 c3 c4) * A) bx bs bt L N S (w.setCell ⟨b, 0, none⟩ (.int .i64 d0)) := by
  obtain ⟨Y, h1, back⟩ := h.focus
  exact back _ _ ((h1.asc.set (i := 0) (v := .int .i64 d0)).asc')
set_option maxRecDepth 100000 in
set_option maxHeartbeats 8000000 in
theorem start_any (minus : Bool) (hl : L.length ≤ 2000000) (h : ScAt W A bx bs bt L N S w) :
    Calls Try.prog 37 #[.pointer (some ⟨bx, 0, none⟩), .bool minus] w fun e w' => e = .returned (.tuple #[(startM S minus L).1.val, .bool (startM S minus L).2.1, .int .i64 (startM S minus L).2.2.1]) ∧ ScAt W A bx bs bt (startM S minus L).2.2.2 N S w' := by
  obtain ⟨r, hr⟩ : ∃ r, startM S minus L = r := ⟨_, rfl⟩
  rw [hr]
  unfold startM at hr
  have HR := Lib.hid hr
  have h0 := h.alloc (glO 0 0 0 0 0)
  obtain ⟨w0, hw0⟩ : ∃ w0, w.alloc (glO 0 0 0 0 0) = w0 := ⟨_, rfl⟩
  obtain ⟨b4, hb4⟩ : ∃ b4, w.heap.size = b4 := ⟨_, rfl⟩
  rw [hw0, hb4] at h0
  obtain ⟨c0, -, lb⟩ := h0.cells
  have hm1 := fun n => m_next n bs w0
  have HN1 := Lib.hid (scnext_any h0)
  clear h hr h0
  go_enter Try.func37, Try.ntmps37
  go_upto_region 1 with fail
  (try rw [hw0])
  (try rw [hb4])
  clear hw0 hb4
  go_wp2_with fail
  with_reducible refine Calls.mono HN1.out ?_
  rintro e w2 ⟨rfl, h2⟩
  clear c0 lb hm1 HN1
  cases L with
  | nil =>
    simp only [List.headD_nil, List.isEmpty_nil, Bool.not_true, List.tail_nil] at *
    have hr := HR.out
    rw [show headM S [] = false from rfl, if_neg (by simp)] at hr
    obtain ⟨x, hx⟩ : ∃ x, tok0 = x := ⟨_, rfl⟩
    rw [hx]
    clear HR hx
    go_upto_region 2 with fail
    obtain ⟨w3, hw3⟩ : ∃ w3, w2.alloc x.box = w3 := ⟨_, rfl⟩
    obtain ⟨bk, hbk⟩ : ∃ bk, w2.heap.size = bk := ⟨_, rfl⟩
    have hx3 := h2.alloc x.box
    rw [hw3, hbk] at hx3
    rw [show w2.alloc (.cells #[.int .i64 x.cat, .int .u8 x.chr.toNat, .string x.name] 28) = w3 from hw3, hbk]
    have d0 := hx3.sat.cell (i := 0) rfl
    have d1 := hx3.sat.cell (i := 1) rfl
    have d2 := hx3.sat.cell (i := 2) rfl
    have ld := hx3.sat.lt
    have HX3 := Lib.hid hx3
    clear hx3 hw3 hbk h2
    have HME := Lib.hid (meaning_any x HX3.out)
    go_wp2_with fail
    with_reducible refine Calls.mono HME.out ?_
    rintro e w4 ⟨rfl, h4⟩
    obtain ⟨⟨m1, m2, m3, m4, m5⟩, hmm⟩ : ∃ m, meansM S x = m := ⟨_, rfl⟩
    have HMM := Lib.hid hmm
    rw [hmm]
    clear hmm
    go_upto_region 5 with fail
    have hx5 := h4.alloc (.cells #[.int .i64 m1, .int .i64 m2, .int .i64 m3, .int .i64 m4, .string m5] 103)
    obtain ⟨w5, hw5⟩ : ∃ w5, w4.alloc (.cells #[.int .i64 m1, .int .i64 m2, .int .i64 m3, .int .i64 m4, .string m5] 103) = w5 := ⟨_, rfl⟩
    obtain ⟨bm, hbm⟩ : ∃ bm, w4.heap.size = bm := ⟨_, rfl⟩
    rw [hw5, hbm] at hx5
    rw [hw5, hbm]
    clear d0 d1 d2 ld HX3 hw5 hbm h4
    have g0 := hx5.sat.cell (i := 0) rfl
    have g1 := hx5.sat.cell (i := 1) rfl
    have g2 := hx5.sat.cell (i := 2) rfl
    have g4 := hx5.sat.cell (i := 4) rfl
    have lg := hx5.sat.lt
    have d0 := hx5.sat.r.cell (i := 0) rfl
    have d1 := hx5.sat.r.cell (i := 1) rfl
    have d2 := hx5.sat.r.cell (i := 2) rfl
    have ld := hx5.sat.r.lt
    have HX5 := Lib.hid hx5
    clear hx5
    clear HME
    have HZZ := Lib.hid (size_any minus false (unitC_all (W := W)) trivial (Nat.zero_le _) HX5.out)
    obtain ⟨⟨z1, z2, z3, z4⟩, hz⟩ : ∃ z, sizeM S minus false [] = z := ⟨_, rfl⟩
    rw [hz] at hr HZZ
    simp only at hr
    subst hr
    clear hz
    go_wp2_with fail
    with_reducible refine Calls.mono HZZ.out ?_
    rintro e w8 ⟨rfl, h8⟩
    clear g0 g1 g2 g4 lg d0 d1 d2 ld
    have H8 := Lib.hid (h8.of_eq (show _ = pts b4 (glO 0 0 0 0 0) * (pts bm (meanO ⟨m1, m2, m3, m4, m5⟩) * (pts bk x.box * A)) by ac_rfl))
    clear h8 HZZ HX5
    obtain ⟨y0, y1, y2, y3, y4, y5, y6, y7, y8, y9, yl⟩ := glAt (H8.out.sat)
    go_upto_region 15 with fail
    have H9 := Lib.hid (H8.out.setG1 z1)
    obtain ⟨w9, hw9⟩ : ∃ w9, w8.setCell ⟨b4, 0, none⟩ (.int .i64 z1) = w9 := ⟨_, rfl⟩
    rw [hw9] at H9
    (try rw [hw9])
    clear hw9 H8
    clear y0 y1 y2 y3 y4 y5 y6 y7 y8 y9 yl
    obtain ⟨y0, y1, y2, y3, y4, y5, y6, y7, y8, y9, yl⟩ := glAt (H9.out.sat)
    have H10 := Lib.hid (H9.out.setG z1 0 0 0 0)
    go_wp2
    (try simp only [Exit.inBlock, Exit.then])
    refine bodyPost_ret (v := .tuple #[.agg #[.int .i64 z1, .int .i64 0, .int .i64 0, .int .i64 0, .int .i64 0], .bool false, .int .i64 z3]) ?rh rfl ⟨rfl, H10.out.less.less.less⟩
    case rh => unfold results; go_simp
  | cons x L =>
    simp only [List.headD_cons, List.isEmpty_cons, Bool.not_false, List.tail_cons, List.length_cons] at *
    go_upto_region 2 with fail
    obtain ⟨w3, hw3⟩ : ∃ w3, w2.alloc x.box = w3 := ⟨_, rfl⟩
    obtain ⟨bk, hbk⟩ : ∃ bk, w2.heap.size = bk := ⟨_, rfl⟩
    have hx3 := h2.alloc x.box
    rw [hw3, hbk] at hx3
    rw [show w2.alloc (.cells #[.int .i64 x.cat, .int .u8 x.chr.toNat, .string x.name] 28) = w3 from hw3, hbk]
    have d0 := hx3.sat.cell (i := 0) rfl
    have d1 := hx3.sat.cell (i := 1) rfl
    have d2 := hx3.sat.cell (i := 2) rfl
    have ld := hx3.sat.lt
    have HX3 := Lib.hid hx3
    clear hx3 hw3 hbk h2
    go_upto_region 3 with fail
    have HB := Lib.hid (scback_any x (by omega) HX3.out.drew)
    obtain ⟨W9, hW9⟩ : ∃ W9, w3.drew = W9 := ⟨_, rfl⟩
    rw [hW9] at HB
    obtain ⟨e0, -, -⟩ := HX3.out.drew.cells
    rw [hW9] at e0
    have e1 := (show w3.drew.cell? _ = _ from d0)
    have e2 := (show w3.drew.cell? _ = _ from d1)
    have e3 := (show w3.drew.cell? _ = _ from d2)
    rw [hW9] at e1 e2 e3
    have hm2 := fun n => m_back n bs W9
    clear d0 d1 d2 HX3
    refine wp_region_tail (fun w' => w' = W9) 5 (by kernel_rfl) (by kernel_rfl) hW9 ?_
    clear hW9
    simp only [List.take_succ_cons, List.take_zero, List.drop_succ_cons, List.drop_zero]
    iterate 5
      with_reducible refine wpQuiet_step ?_
      intro K hK
      go_simp
      first
        | (with_reducible refine hK _ ?_
           clear hK K)
        | (refine Exists.intro _ ⟨fun w9 hw9 => ?_, ?_⟩
           rotate_left 1
           with_reducible refine hK _ ?_
           clear hK K
           rotate_left 1
           · subst hw9; go_simp; try with_reducible rfl)
    refine wpQuiet_nil ?_
    rintro w17 rfl
    go_wp2_with fail
    with_reducible refine Calls.mono HB.out ?_
    rintro e w4 ⟨rfl, h4⟩
    have HX4 := Lib.hid h4
    clear h4 HB e0 e1 e2 e3 hm2
    have HX3 := Lib.hid HX4.out
    have d0 := HX3.out.sat.cell (i := 0) rfl
    have d1 := HX3.out.sat.cell (i := 1) rfl
    have d2 := HX3.out.sat.cell (i := 2) rfl
    have ld := HX3.out.sat.lt
    have HME := Lib.hid (meaning_any x HX3.out)
    clear HX4
    go_wp2_with fail
    with_reducible refine Calls.mono HME.out ?_
    rintro e w4 ⟨rfl, h4⟩
    obtain ⟨⟨m1, m2, m3, m4, m5⟩, hmm⟩ : ∃ m, meansM S x = m := ⟨_, rfl⟩
    have HMM := Lib.hid hmm
    rw [hmm]
    clear hmm
    go_upto_region 5 with fail
    have hx5 := h4.alloc (.cells #[.int .i64 m1, .int .i64 m2, .int .i64 m3, .int .i64 m4, .string m5] 103)
    obtain ⟨w5, hw5⟩ : ∃ w5, w4.alloc (.cells #[.int .i64 m1, .int .i64 m2, .int .i64 m3, .int .i64 m4, .string m5] 103) = w5 := ⟨_, rfl⟩
    obtain ⟨bm, hbm⟩ : ∃ bm, w4.heap.size = bm := ⟨_, rfl⟩
    rw [hw5, hbm] at hx5
    rw [hw5, hbm]
    clear d0 d1 d2 ld HX3 hw5 hbm h4
    have g0 := hx5.sat.cell (i := 0) rfl
    have g1 := hx5.sat.cell (i := 1) rfl
    have g2 := hx5.sat.cell (i := 2) rfl
    have g4 := hx5.sat.cell (i := 4) rfl
    have lg := hx5.sat.lt
    have d0 := hx5.sat.r.cell (i := 0) rfl
    have d1 := hx5.sat.r.cell (i := 1) rfl
    have d2 := hx5.sat.r.cell (i := 2) rfl
    have ld := hx5.sat.r.lt
    have HX5 := Lib.hid hx5
    clear hx5
    clear HME
    have hr := HR.out
    rw [show headM S (x :: L) = skipB ⟨m1, m2, m3, m4, m5⟩ by rw [← HMM.out]; rfl] at hr
    have HR0 := Lib.hid hr
    clear HR hr
    by_cases h4 : m1 = 4
    · subst h4
      by_cases h3 : m2 = 3
      · subst h3
        have hr := HR0.out
        rw [if_pos (by simp [skipB])] at hr
        clear HR0
        have HG := Lib.hid (register_any (L := x :: L) (by simp only [List.length_cons]; omega) HX5.out)
        obtain ⟨⟨rc, ri, rb, re, rl⟩, hrg⟩ : ∃ r, registerM S (x :: L) = r := ⟨_, rfl⟩
        rw [hrg] at hr HG
        simp only at hr
        have HR := Lib.hid hr
        clear hrg hr
        go_wp2_with fail
        with_reducible refine Calls.mono HG.out ?_
        rintro e w6 ⟨rfl, h6⟩
        have H6 := Lib.hid (h6.of_eq (show _ = pts b4 (glO 0 0 0 0 0) * (pts bm (meanO ⟨4, 3, m3, m4, m5⟩) * (pts bk x.box * A)) by ac_rfl))
        clear h6 HG HX5 g0 g1 g2 g4 lg d0 d1 d2 ld
        by_cases he : re = 0
        · subst he
          have hr := HR.out
          rw [if_neg (by simp)] at hr
          obtain ⟨-, c1, lb⟩ := H6.out.cells
          have HGT := Lib.hid (scget_any 3 ri H6.out)
          obtain ⟨⟨n, ⟨g1, g2, g3, g4, g5⟩, toks⟩, hgv⟩ : ∃ g, getV S 3 ri = g := ⟨_, rfl⟩
          rw [hgv] at HGT hr
          simp only at hr
          have HR2 := Lib.hid hr
          clear hgv hr HR
          go_wp2_with fail
          with_reducible refine Calls.mono HGT.out ?_
          rintro e w7 ⟨ua, un, uk, rfl, h7⟩
          have h8 := h7.alloc (.cells #[.int .i64 n, .int .i64 g1, .int .i64 g2, .int .i64 g3, .int .i64 g4, .int .i64 g5, .slice ua un uk] 59)
          obtain ⟨w8, hw8⟩ : ∃ w8, w7.alloc (.cells #[.int .i64 n, .int .i64 g1, .int .i64 g2, .int .i64 g3, .int .i64 g4, .int .i64 g5, .slice ua un uk] 59) = w8 := ⟨_, rfl⟩
          obtain ⟨bv, hbv⟩ : ∃ bv, w7.heap.size = bv := ⟨_, rfl⟩
          rw [hw8, hbv] at h8
          clear h7 HGT c1 lb H6
          unfold valA
          simp only
          go_upto_region 10 with fail
          (try rw [hw8])
          (try rw [hbv])
          have v1 := h8.sat.cell (i := 1) rfl
          have v2 := h8.sat.cell (i := 2) rfl
          have v3 := h8.sat.cell (i := 3) rfl
          have v4 := h8.sat.cell (i := 4) rfl
          have v5 := h8.sat.cell (i := 5) rfl
          have lv := h8.sat.lt
          have h9 := h8.of_eq (show _ = pts b4 (glO 0 0 0 0 0) * (pts bv (.cells #[.int .i64 n, .int .i64 g1, .int .i64 g2, .int .i64 g3, .int .i64 g4, .int .i64 g5, .slice ua un uk] 59) * (pts bm (meanO ⟨4, 3, m3, m4, m5⟩) * (pts bk x.box * A))) by ac_rfl)
          obtain ⟨z0, z1, z2, z3, z4, z5, z6, z7, z8, z9, zl⟩ := glAt (h9.sat)
          have H9 := Lib.hid (h9.setG g1 g2 g3 g4 g5)
          clear h8 h9 hw8 hbv
          go_upto_region 11 with fail
          obtain ⟨w10, hw10⟩ : ∃ w10, (((((w8.setCell ⟨b4, 0, none⟩ (.int .i64 g1)).setCell ⟨b4, 1, none⟩ (.int .i64 g2)).setCell ⟨b4, 2, none⟩ (.int .i64 g3)).setCell ⟨b4, 3, none⟩ (.int .i64 g4)).setCell ⟨b4, 4, none⟩ (.int .i64 g5)) = w10 := ⟨_, rfl⟩
          rw [hw10] at H9
          (try rw [hw10])
          clear hw10 v1 v2 v3 v4 v5 lv
          clear z0 z1 z2 z3 z4 z5 z6 z7 z8 z9 zl
          obtain ⟨z0, z1, z2, z3, z4, z5, z6, z7, z8, z9, zl⟩ := glAt (H9.out.sat)
          cases minus with
          | false =>
            have hr := HR2.out
            rw [if_neg (by simp)] at hr
            subst hr
            have H10 := Lib.hid (H9.out.setG g1 g2 g3 g4 g5)
            go_wp2
            (try simp only [Exit.inBlock, Exit.then])
            refine bodyPost_ret (v := .tuple #[.agg #[.int .i64 g1, .int .i64 g2, .int .i64 g3, .int .i64 g4, .int .i64 g5], .bool true, .int .i64 0]) ?rh rfl ⟨rfl, H10.out.less.less.less.less⟩
            case rh => unfold results; go_simp
          | true =>
            have hr := HR2.out
            rw [if_pos rfl] at hr
            have HT := Lib.hid (fun w => timesN_any ⟨g1, g2, g3, g4, g5⟩ w)
            obtain ⟨⟨n1, n2, n3, n4, n5⟩, hn⟩ : ∃ g, negG ⟨g1, g2, g3, g4, g5⟩ = g := ⟨_, rfl⟩
            rw [hn] at HT hr
            subst hr
            clear hn HR2
            go_wp2_with fail
            with_reducible refine Calls.mono (HT.out _) ?_
            rintro e w11 ⟨⟨er, rfl⟩, hex⟩
            have H10 := Lib.hid (H9.out.ext hex)
            clear hex H9 HT
            clear z0 z1 z2 z3 z4 z5 z6 z7 z8 z9 zl
            obtain ⟨z0, z1, z2, z3, z4, z5, z6, z7, z8, z9, zl⟩ := glAt (H10.out.sat)
            have H11 := Lib.hid (H10.out.setG n1 n2 n3 n4 n5)
            go_upto_region 13 with fail
            obtain ⟨w12, hw12⟩ : ∃ w12, (((((w11.setCell ⟨b4, 0, none⟩ (.int .i64 n1)).setCell ⟨b4, 1, none⟩ (.int .i64 n2)).setCell ⟨b4, 2, none⟩ (.int .i64 n3)).setCell ⟨b4, 3, none⟩ (.int .i64 n4)).setCell ⟨b4, 4, none⟩ (.int .i64 n5)) = w12 := ⟨_, rfl⟩
            rw [hw12] at H11
            (try rw [hw12])
            clear hw12 H10
            clear z0 z1 z2 z3 z4 z5 z6 z7 z8 z9 zl
            obtain ⟨z0, z1, z2, z3, z4, z5, z6, z7, z8, z9, zl⟩ := glAt (H11.out.sat)
            have H12 := Lib.hid (H11.out.setG n1 n2 n3 n4 n5)
            go_wp2
            (try simp only [Exit.inBlock, Exit.then])
            refine bodyPost_ret (v := .tuple #[.agg #[.int .i64 n1, .int .i64 n2, .int .i64 n3, .int .i64 n4, .int .i64 n5], .bool true, .int .i64 0]) ?rh rfl ⟨rfl, H12.out.less.less.less.less⟩
            case rh => unfold results; go_simp
        · have hr := HR.out
          rw [if_pos he] at hr
          subst hr
          have q1 : (re == 0) = false := by rw [beq_eq_false_iff_ne]; exact he
          have b1 : (re != 0) = true := by rw [bne_iff_ne]; exact he
          clear HR he
          obtain ⟨z0, z1, z2, z3, z4, z5, z6, z7, z8, z9, zl⟩ := glAt (H6.out.sat)
          have H7 := Lib.hid (H6.out.setG 0 0 0 0 0)
          go_wp2
          (try simp only [Exit.inBlock, Exit.then])
          refine bodyPost_ret (v := .tuple #[.agg #[.int .i64 0, .int .i64 0, .int .i64 0, .int .i64 0, .int .i64 0], .bool false, .int .i64 re]) ?rh rfl ⟨rfl, H7.out.less.less.less⟩
          case rh => unfold results; go_simp
      · have n3 : (m2 == 3) = false := by rw [beq_eq_false_iff_ne]; exact h3
        have hr := HR0.out
        rw [if_neg (by simp [skipB, h3])] at hr
        clear HR0 h3
        have HZZ := Lib.hid (size_any minus false (unitC_all (W := W)) trivial (by simp only [List.length_cons]; omega) HX5.out)
        obtain ⟨⟨z1, z2, z3, z4⟩, hz⟩ : ∃ z, sizeM S minus false (x :: L) = z := ⟨_, rfl⟩
        rw [hz] at hr HZZ
        simp only at hr
        subst hr
        clear hz
        go_wp2_with fail
        with_reducible refine Calls.mono HZZ.out ?_
        rintro e w8 ⟨rfl, h8⟩
        clear g0 g1 g2 g4 lg d0 d1 d2 ld
        have H8 := Lib.hid (h8.of_eq (show _ = pts b4 (glO 0 0 0 0 0) * (pts bm (meanO ⟨4, m2, m3, m4, m5⟩) * (pts bk x.box * A)) by ac_rfl))
        clear h8 HZZ HX5
        obtain ⟨y0, y1, y2, y3, y4, y5, y6, y7, y8, y9, yl⟩ := glAt (H8.out.sat)
        go_upto_region 15 with fail
        have H9 := Lib.hid (H8.out.setG1 z1)
        obtain ⟨w9, hw9⟩ : ∃ w9, w8.setCell ⟨b4, 0, none⟩ (.int .i64 z1) = w9 := ⟨_, rfl⟩
        rw [hw9] at H9
        (try rw [hw9])
        clear hw9 H8
        clear y0 y1 y2 y3 y4 y5 y6 y7 y8 y9 yl
        obtain ⟨y0, y1, y2, y3, y4, y5, y6, y7, y8, y9, yl⟩ := glAt (H9.out.sat)
        have H10 := Lib.hid (H9.out.setG z1 0 0 0 0)
        go_wp2
        (try simp only [Exit.inBlock, Exit.then])
        refine bodyPost_ret (v := .tuple #[.agg #[.int .i64 z1, .int .i64 0, .int .i64 0, .int .i64 0, .int .i64 0], .bool false, .int .i64 z3]) ?rh rfl ⟨rfl, H10.out.less.less.less⟩
        case rh => unfold results; go_simp
    · have n4 : (m1 == 4) = false := by rw [beq_eq_false_iff_ne]; exact h4
      by_cases h1 : m1 = 1
      · subst h1
        by_cases t3 : m5 = ⟨#[115, 107, 105, 112]⟩
        · subst t3
          have hr := HR0.out
          rw [if_pos (by simp [skipB])] at hr
          clear HR0
          have HG := Lib.hid (register_any (L := x :: L) (by simp only [List.length_cons]; omega) HX5.out)
          obtain ⟨⟨rc, ri, rb, re, rl⟩, hrg⟩ : ∃ r, registerM S (x :: L) = r := ⟨_, rfl⟩
          rw [hrg] at hr HG
          simp only at hr
          have HR := Lib.hid hr
          clear hrg hr
          go_wp2_with fail
          with_reducible refine Calls.mono HG.out ?_
          rintro e w6 ⟨rfl, h6⟩
          have H6 := Lib.hid (h6.of_eq (show _ = pts b4 (glO 0 0 0 0 0) * (pts bm (meanO ⟨1, m2, m3, m4, ⟨#[115, 107, 105, 112]⟩⟩) * (pts bk x.box * A)) by ac_rfl))
          clear h6 HG HX5 g0 g1 g2 g4 lg d0 d1 d2 ld
          by_cases he : re = 0
          · subst he
            have hr := HR.out
            rw [if_neg (by simp)] at hr
            obtain ⟨-, c1, lb⟩ := H6.out.cells
            have HGT := Lib.hid (scget_any 3 ri H6.out)
            obtain ⟨⟨n, ⟨g1, g2, g3, g4, g5⟩, toks⟩, hgv⟩ : ∃ g, getV S 3 ri = g := ⟨_, rfl⟩
            rw [hgv] at HGT hr
            simp only at hr
            have HR2 := Lib.hid hr
            clear hgv hr HR
            go_wp2_with fail
            with_reducible refine Calls.mono HGT.out ?_
            rintro e w7 ⟨ua, un, uk, rfl, h7⟩
            have h8 := h7.alloc (.cells #[.int .i64 n, .int .i64 g1, .int .i64 g2, .int .i64 g3, .int .i64 g4, .int .i64 g5, .slice ua un uk] 59)
            obtain ⟨w8, hw8⟩ : ∃ w8, w7.alloc (.cells #[.int .i64 n, .int .i64 g1, .int .i64 g2, .int .i64 g3, .int .i64 g4, .int .i64 g5, .slice ua un uk] 59) = w8 := ⟨_, rfl⟩
            obtain ⟨bv, hbv⟩ : ∃ bv, w7.heap.size = bv := ⟨_, rfl⟩
            rw [hw8, hbv] at h8
            clear h7 HGT c1 lb H6
            unfold valA
            simp only
            go_upto_region 10 with fail
            (try rw [hw8])
            (try rw [hbv])
            have v1 := h8.sat.cell (i := 1) rfl
            have v2 := h8.sat.cell (i := 2) rfl
            have v3 := h8.sat.cell (i := 3) rfl
            have v4 := h8.sat.cell (i := 4) rfl
            have v5 := h8.sat.cell (i := 5) rfl
            have lv := h8.sat.lt
            have h9 := h8.of_eq (show _ = pts b4 (glO 0 0 0 0 0) * (pts bv (.cells #[.int .i64 n, .int .i64 g1, .int .i64 g2, .int .i64 g3, .int .i64 g4, .int .i64 g5, .slice ua un uk] 59) * (pts bm (meanO ⟨1, m2, m3, m4, ⟨#[115, 107, 105, 112]⟩⟩) * (pts bk x.box * A))) by ac_rfl)
            obtain ⟨z0, z1, z2, z3, z4, z5, z6, z7, z8, z9, zl⟩ := glAt (h9.sat)
            have H9 := Lib.hid (h9.setG g1 g2 g3 g4 g5)
            clear h8 h9 hw8 hbv
            go_upto_region 11 with fail
            obtain ⟨w10, hw10⟩ : ∃ w10, (((((w8.setCell ⟨b4, 0, none⟩ (.int .i64 g1)).setCell ⟨b4, 1, none⟩ (.int .i64 g2)).setCell ⟨b4, 2, none⟩ (.int .i64 g3)).setCell ⟨b4, 3, none⟩ (.int .i64 g4)).setCell ⟨b4, 4, none⟩ (.int .i64 g5)) = w10 := ⟨_, rfl⟩
            rw [hw10] at H9
            (try rw [hw10])
            clear hw10 v1 v2 v3 v4 v5 lv
            clear z0 z1 z2 z3 z4 z5 z6 z7 z8 z9 zl
            obtain ⟨z0, z1, z2, z3, z4, z5, z6, z7, z8, z9, zl⟩ := glAt (H9.out.sat)
            cases minus with
            | false =>
              have hr := HR2.out
              rw [if_neg (by simp)] at hr
              subst hr
              have H10 := Lib.hid (H9.out.setG g1 g2 g3 g4 g5)
              go_wp2
              (try simp only [Exit.inBlock, Exit.then])
              refine bodyPost_ret (v := .tuple #[.agg #[.int .i64 g1, .int .i64 g2, .int .i64 g3, .int .i64 g4, .int .i64 g5], .bool true, .int .i64 0]) ?rh rfl ⟨rfl, H10.out.less.less.less.less⟩
              case rh => unfold results; go_simp
            | true =>
              have hr := HR2.out
              rw [if_pos rfl] at hr
              have HT := Lib.hid (fun w => timesN_any ⟨g1, g2, g3, g4, g5⟩ w)
              obtain ⟨⟨n1, n2, n3, n4, n5⟩, hn⟩ : ∃ g, negG ⟨g1, g2, g3, g4, g5⟩ = g := ⟨_, rfl⟩
              rw [hn] at HT hr
              subst hr
              clear hn HR2
              go_wp2_with fail
              with_reducible refine Calls.mono (HT.out _) ?_
              rintro e w11 ⟨⟨er, rfl⟩, hex⟩
              have H10 := Lib.hid (H9.out.ext hex)
              clear hex H9 HT
              clear z0 z1 z2 z3 z4 z5 z6 z7 z8 z9 zl
              obtain ⟨z0, z1, z2, z3, z4, z5, z6, z7, z8, z9, zl⟩ := glAt (H10.out.sat)
              have H11 := Lib.hid (H10.out.setG n1 n2 n3 n4 n5)
              go_upto_region 13 with fail
              obtain ⟨w12, hw12⟩ : ∃ w12, (((((w11.setCell ⟨b4, 0, none⟩ (.int .i64 n1)).setCell ⟨b4, 1, none⟩ (.int .i64 n2)).setCell ⟨b4, 2, none⟩ (.int .i64 n3)).setCell ⟨b4, 3, none⟩ (.int .i64 n4)).setCell ⟨b4, 4, none⟩ (.int .i64 n5)) = w12 := ⟨_, rfl⟩
              rw [hw12] at H11
              (try rw [hw12])
              clear hw12 H10
              clear z0 z1 z2 z3 z4 z5 z6 z7 z8 z9 zl
              obtain ⟨z0, z1, z2, z3, z4, z5, z6, z7, z8, z9, zl⟩ := glAt (H11.out.sat)
              have H12 := Lib.hid (H11.out.setG n1 n2 n3 n4 n5)
              go_wp2
              (try simp only [Exit.inBlock, Exit.then])
              refine bodyPost_ret (v := .tuple #[.agg #[.int .i64 n1, .int .i64 n2, .int .i64 n3, .int .i64 n4, .int .i64 n5], .bool true, .int .i64 0]) ?rh rfl ⟨rfl, H12.out.less.less.less.less⟩
              case rh => unfold results; go_simp
          · have hr := HR.out
            rw [if_pos he] at hr
            subst hr
            have q1 : (re == 0) = false := by rw [beq_eq_false_iff_ne]; exact he
            have b1 : (re != 0) = true := by rw [bne_iff_ne]; exact he
            clear HR he
            obtain ⟨z0, z1, z2, z3, z4, z5, z6, z7, z8, z9, zl⟩ := glAt (H6.out.sat)
            have H7 := Lib.hid (H6.out.setG 0 0 0 0 0)
            go_wp2
            (try simp only [Exit.inBlock, Exit.then])
            refine bodyPost_ret (v := .tuple #[.agg #[.int .i64 0, .int .i64 0, .int .i64 0, .int .i64 0, .int .i64 0], .bool false, .int .i64 re]) ?rh rfl ⟨rfl, H7.out.less.less.less⟩
            case rh => unfold results; go_simp
        · have s3 := str_ne [115, 107, 105, 112] t3
          have hr := HR0.out
          rw [if_neg (by simp [skipB, t3])] at hr
          clear HR0 t3 h4
          have HZZ := Lib.hid (size_any minus false (unitC_all (W := W)) trivial (by simp only [List.length_cons]; omega) HX5.out)
          obtain ⟨⟨z1, z2, z3, z4⟩, hz⟩ : ∃ z, sizeM S minus false (x :: L) = z := ⟨_, rfl⟩
          rw [hz] at hr HZZ
          simp only at hr
          subst hr
          clear hz
          go_wp2_with fail
          with_reducible refine Calls.mono HZZ.out ?_
          rintro e w8 ⟨rfl, h8⟩
          clear g0 g1 g2 g4 lg d0 d1 d2 ld
          have H8 := Lib.hid (h8.of_eq (show _ = pts b4 (glO 0 0 0 0 0) * (pts bm (meanO ⟨1, m2, m3, m4, m5⟩) * (pts bk x.box * A)) by ac_rfl))
          clear h8 HZZ HX5
          obtain ⟨y0, y1, y2, y3, y4, y5, y6, y7, y8, y9, yl⟩ := glAt (H8.out.sat)
          go_upto_region 15 with fail
          have H9 := Lib.hid (H8.out.setG1 z1)
          obtain ⟨w9, hw9⟩ : ∃ w9, w8.setCell ⟨b4, 0, none⟩ (.int .i64 z1) = w9 := ⟨_, rfl⟩
          rw [hw9] at H9
          (try rw [hw9])
          clear hw9 H8
          clear y0 y1 y2 y3 y4 y5 y6 y7 y8 y9 yl
          obtain ⟨y0, y1, y2, y3, y4, y5, y6, y7, y8, y9, yl⟩ := glAt (H9.out.sat)
          have H10 := Lib.hid (H9.out.setG z1 0 0 0 0)
          go_wp2
          (try simp only [Exit.inBlock, Exit.then])
          refine bodyPost_ret (v := .tuple #[.agg #[.int .i64 z1, .int .i64 0, .int .i64 0, .int .i64 0, .int .i64 0], .bool false, .int .i64 z3]) ?rh rfl ⟨rfl, H10.out.less.less.less⟩
          case rh => unfold results; go_simp
      · have n1 : (m1 == 1) = false := by rw [beq_eq_false_iff_ne]; exact h1
        have hr := HR0.out
        rw [if_neg (by simp [skipB, h1, h4])] at hr
        clear HR0 h1 h4
        have HZZ := Lib.hid (size_any minus false (unitC_all (W := W)) trivial (by simp only [List.length_cons]; omega) HX5.out)
        obtain ⟨⟨z1, z2, z3, z4⟩, hz⟩ : ∃ z, sizeM S minus false (x :: L) = z := ⟨_, rfl⟩
        rw [hz] at hr HZZ
        simp only at hr
        subst hr
        clear hz
        go_wp2_with fail
        with_reducible refine Calls.mono HZZ.out ?_
        rintro e w8 ⟨rfl, h8⟩
        clear g0 g1 g2 g4 lg d0 d1 d2 ld
        have H8 := Lib.hid (h8.of_eq (show _ = pts b4 (glO 0 0 0 0 0) * (pts bm (meanO ⟨m1, m2, m3, m4, m5⟩) * (pts bk x.box * A)) by ac_rfl))
        clear h8 HZZ HX5
        obtain ⟨y0, y1, y2, y3, y4, y5, y6, y7, y8, y9, yl⟩ := glAt (H8.out.sat)
        go_upto_region 15 with fail
        have H9 := Lib.hid (H8.out.setG1 z1)
        obtain ⟨w9, hw9⟩ : ∃ w9, w8.setCell ⟨b4, 0, none⟩ (.int .i64 z1) = w9 := ⟨_, rfl⟩
        rw [hw9] at H9
        (try rw [hw9])
        clear hw9 H8
        clear y0 y1 y2 y3 y4 y5 y6 y7 y8 y9 yl
        obtain ⟨y0, y1, y2, y3, y4, y5, y6, y7, y8, y9, yl⟩ := glAt (H9.out.sat)
        have H10 := Lib.hid (H9.out.setG z1 0 0 0 0)
        go_wp2
        (try simp only [Exit.inBlock, Exit.then])
        refine bodyPost_ret (v := .tuple #[.agg #[.int .i64 z1, .int .i64 0, .int .i64 0, .int .i64 0, .int .i64 0], .bool false, .int .i64 z3]) ?rh rfl ⟨rfl, H10.out.less.less.less⟩
        case rh => unfold results; go_simp

theorem ScAt.setGs {b : Nat} {c0 c1 c2 c3 c4 : Int} (h : ScAt W (pts b (glO c0 c1 c2 c3 c4) * A) bx bs bt L N S w) (d1 d3 : Int) :
    ScAt W (pts b (glO c0 d1 c2 d3 c4) * A) bx bs bt L N S ((w.setCell ⟨b, 1, none⟩ (.int .i64 d1)).setCell ⟨b, 3, none⟩ (.int .i64 d3)) := by
  obtain ⟨Y, h1, back⟩ := h.focus
  exact back _ _ (((h1.asc.set (i := 1) (v := .int .i64 d1)).set (i := 3) (v := .int .i64 d3)).asc')
theorem ScAt.setGk {b : Nat} {c0 c1 c2 c3 c4 : Int} (h : ScAt W (pts b (glO c0 c1 c2 c3 c4) * A) bx bs bt L N S w) (d2 d4 : Int) :
    ScAt W (pts b (glO c0 c1 d2 c3 d4) * A) bx bs bt L N S ((w.setCell ⟨b, 2, none⟩ (.int .i64 d2)).setCell ⟨b, 4, none⟩ (.int .i64 d4)) := by
  obtain ⟨Y, h1, back⟩ := h.focus
  exact back _ _ (((h1.asc.set (i := 2) (v := .int .i64 d2)).set (i := 4) (v := .int .i64 d4)).asc')
theorem start_g {m : Bool} {l : List Tok} {g1 g2 g3 g4 g5 : Int} {b : Bool} {er : Int} {r : List Tok} (h : startM S m l = (⟨g1, g2, g3, g4, g5⟩, b, er, r)) : b = false → 0 = g2 ∧ 0 = g3 ∧ 0 = g4 ∧ 0 = g5 := by
  intro hb
  subst hb
  unfold startM at h
  simp only at h
  split at h
  · split at h
    · simp only [Prod.mk.injEq, glz, Gl.mk.injEq] at h
      exact h.1.2
    · simp at h
  · simp only [Prod.mk.injEq, Gl.mk.injEq] at h
    exact h.1.2
set_option maxRecDepth 100000 in
set_option maxHeartbeats 8000000 in
theorem nglue_any (hl : L.length ≤ 2000000) (h : LtAt W A bs bt L N S w) :
    Calls Try.prog 23 #[srcV bs, .pointer (some ⟨bt, 0, none⟩)] w fun e w' => e = .returned (.tuple #[(glueM S L).1.val, .int .i64 (glueM S L).2.1]) ∧ LtAt W A bs bt (glueM S L).2.2 N S w' := by
  obtain ⟨r, hr⟩ : ∃ r, glueM S L = r := ⟨_, rfl⟩
  rw [hr]
  unfold glueM at hr
  obtain ⟨Y, h1, back⟩ := h.focus
  have h2 := back (pts w.heap.size (glO 0 0 0 0 0) * A) _ ((h1.alloc (glO 0 0 0 0 0)).asc')
  obtain ⟨w0, hw0⟩ : ∃ w0, w.alloc (glO 0 0 0 0 0) = w0 := ⟨_, rfl⟩
  obtain ⟨b4, hb4⟩ : ∃ b4, w.heap.size = b4 := ⟨_, rfl⟩
  rw [hw0, hb4] at h2
  have HO := Lib.hid (open_any h2)
  have hsl := signs_len L false
  have HSG := Lib.hid (fun bx w (h : ScAt W (pts b4 (glO 0 0 0 0 0) * A) bx bs bt L N S w) => signs_any hl h)
  obtain ⟨⟨sm, sl⟩, hs⟩ : ∃ s, signsM L false = s := ⟨_, rfl⟩
  rw [hs] at hr HSG hsl
  simp only at hr hsl
  have hll := start_suf S sm sl
  have HST := Lib.hid (fun bx w (h : ScAt W (pts b4 (glO 0 0 0 0 0) * A) bx bs bt sl N S w) => start_any sm (by omega) h)
  obtain ⟨⟨⟨g1, g2, g3, g4, g5⟩, sa, se, sr⟩, hst⟩ : ∃ s, startM S sm sl = s := ⟨_, rfl⟩
  rw [hst] at hr HST hll
  simp only at hr hll
  have hsr : sr.length ≤ 2000000 := by have := hll.length_le; omega
  have HR := Lib.hid hr
  have HG0 := Lib.hid (start_g hst)
  clear h h1 h2 back hr hs hst hll hsl
  go_enter Try.func23, Try.ntmps23
  go_upto_region 1 with fail
  (try rw [hw0])
  (try rw [hb4])
  clear hw0 hb4
  go_wp2_with fail
  with_reducible refine Calls.mono HO.out ?_
  rintro e w1 ⟨bx, rfl, h1⟩
  have H1 := Lib.hid (HSG.out _ _ h1)
  clear h1 HO HSG
  go_wp2_with fail
  with_reducible refine Calls.mono H1.out ?_
  rintro e w2 ⟨rfl, h2⟩
  have H2 := Lib.hid (HST.out _ _ h2)
  clear h2 H1 HST
  go_wp2_with fail
  with_reducible refine Calls.mono H2.out ?_
  rintro e w3 ⟨rfl, h3⟩
  have h4 := h3.alloc (glO g1 g2 g3 g4 g5)
  obtain ⟨w4, hw4⟩ : ∃ w4, w3.alloc (glO g1 g2 g3 g4 g5) = w4 := ⟨_, rfl⟩
  obtain ⟨b9, hb9⟩ : ∃ b9, w3.heap.size = b9 := ⟨_, rfl⟩
  rw [hw4, hb9] at h4
  clear h3 H2
  go_upto_region 6 with fail
  (try rw [hw4])
  (try rw [hb9])
  have H4 := Lib.hid h4
  clear hw4 hb9 h4
  by_cases he : se = 0
  · subst he
    cases sa with
    | true =>
      have hr := HR.out
      rw [if_pos (.inr rfl)] at hr
      subst hr
      clear HR
      obtain ⟨z0, z1, z2, z3, z4, z5, z6, z7, z8, z9, zl⟩ := glAt (H4.out.sat)
      have hq := H4.out.of_eq (show _ = pts b4 (glO 0 0 0 0 0) * (pts b9 (glO g1 g2 g3 g4 g5) * A) by ac_rfl)
      obtain ⟨y0, y1, y2, y3, y4, y5, y6, y7, y8, y9, yl⟩ := glAt (hq.sat)
      have HQ := Lib.hid (hq.setG g1 g2 g3 g4 g5)
      clear hq
      go_wp2
      (try simp only [Exit.inBlock, Exit.then])
      refine bodyPost_ret (v := .tuple #[.agg #[.int .i64 g1, .int .i64 g2, .int .i64 g3, .int .i64 g4, .int .i64 g5], .int .i64 0]) ?rh rfl ⟨rfl, HQ.out.less.less.lt⟩
      case rh => unfold results; go_simp
    | false =>
      have hr := HR.out
      rw [if_neg (by simp)] at hr
      unfold glueEnd at hr
      obtain ⟨e2, e3, e4, e5⟩ := HG0.out rfl
      subst e2 e3 e4 e5
      have hpl := part_suf S plusB sr
      have HP := Lib.hid (part_any plusB ⟨#[112, 108, 117, 115]⟩ rfl (by simp [plusB]) (by simp [plusB]) hsr H4.out)
      obtain ⟨⟨p1, p2, p3, p4⟩, hp⟩ : ∃ p, partM S plusB sr = p := ⟨_, rfl⟩
      rw [hp] at hr HP hpl
      simp only at hr hpl
      have HR2 := Lib.hid hr
      clear hr HR hp HG0
      go_wp2_with fail
      with_reducible refine Calls.mono HP.out ?_
      rintro e w5 ⟨rfl, h5⟩
      have HX5 := Lib.hid h5
      clear h5 HP H4
      obtain ⟨z0, z1, z2, z3, z4, z5, z6, z7, z8, z9, zl⟩ := glAt (HX5.out.sat)
      have HX6 := Lib.hid (HX5.out.setGs p1 p2)
      go_upto_region 9 with fail
      obtain ⟨w6, hw6⟩ : ∃ w6, ((w5.setCell ⟨b9, 1, none⟩ (.int .i64 p1)).setCell ⟨b9, 3, none⟩ (.int .i64 p2)) = w6 := ⟨_, rfl⟩
      rw [hw6] at HX6
      (try rw [hw6])
      clear hw6 HX5
      clear z0 z1 z2 z3 z4 z5 z6 z7 z8 z9 zl
      by_cases he : p3 = 0
      · subst he
        have hr := HR2.out
        rw [if_neg (by simp)] at hr
        have hql := part_suf S minusB p4
        have HP := Lib.hid (part_any minusB ⟨#[109, 105, 110, 117, 115]⟩ rfl (by simp [minusB]) (by simp [minusB]) (by have := hpl.length_le; omega) HX6.out)
        obtain ⟨⟨q1, q2, q3, q4⟩, hq⟩ : ∃ p, partM S minusB p4 = p := ⟨_, rfl⟩
        rw [hq] at hr HP
        simp only at hr
        have HR3 := Lib.hid hr
        clear hr HR2 hq
        go_wp2_with fail
        with_reducible refine Calls.mono HP.out ?_
        rintro e w7 ⟨rfl, h7⟩
        have HX7 := Lib.hid h7
        clear h7 HP HX6
        obtain ⟨z0, z1, z2, z3, z4, z5, z6, z7, z8, z9, zl⟩ := glAt (HX7.out.sat)
        have HX8 := Lib.hid (HX7.out.setGk q1 q2)
        go_upto_region 12 with fail
        obtain ⟨w8, hw8⟩ : ∃ w8, ((w7.setCell ⟨b9, 2, none⟩ (.int .i64 q1)).setCell ⟨b9, 4, none⟩ (.int .i64 q2)) = w8 := ⟨_, rfl⟩
        rw [hw8] at HX8
        (try rw [hw8])
        clear hw8 HX7
        clear z0 z1 z2 z3 z4 z5 z6 z7 z8 z9 zl
        by_cases he : q3 = 0
        · subst he
          have hr := HR3.out
          rw [if_neg (by simp)] at hr
          subst hr
          clear HR3
          obtain ⟨z0, z1, z2, z3, z4, z5, z6, z7, z8, z9, zl⟩ := glAt (HX8.out.sat)
          have hq := HX8.out.of_eq (show _ = pts b4 (glO 0 0 0 0 0) * (pts b9 (glO g1 p1 q1 p2 q2) * A) by ac_rfl)
          obtain ⟨y0, y1, y2, y3, y4, y5, y6, y7, y8, y9, yl⟩ := glAt (hq.sat)
          have HQ := Lib.hid (hq.setG g1 p1 q1 p2 q2)
          clear hq
          go_wp2
          (try simp only [Exit.inBlock, Exit.then])
          refine bodyPost_ret (v := .tuple #[.agg #[.int .i64 g1, .int .i64 p1, .int .i64 q1, .int .i64 p2, .int .i64 q2], .int .i64 0]) ?rh rfl ⟨rfl, HQ.out.less.less.lt⟩
          case rh => unfold results; go_simp
        · have hr := HR3.out
          rw [if_pos he] at hr
          subst hr
          clear HR3
          have q1 : (q3 == 0) = false := by rw [beq_eq_false_iff_ne]; exact he
          have b1 : (q3 != 0) = true := by rw [bne_iff_ne]; exact he
          clear he
          have hq := HX8.out.of_eq (show _ = pts b4 (glO 0 0 0 0 0) * (pts b9 _ * A) by ac_rfl)
          obtain ⟨y0, y1, y2, y3, y4, y5, y6, y7, y8, y9, yl⟩ := glAt (hq.sat)
          have HQ := Lib.hid (hq.setG 0 0 0 0 0)
          clear hq
          go_wp2
          (try simp only [Exit.inBlock, Exit.then])
          refine bodyPost_ret (v := .tuple #[.agg #[.int .i64 0, .int .i64 0, .int .i64 0, .int .i64 0, .int .i64 0], .int .i64 q3]) ?rh rfl ⟨rfl, HQ.out.less.less.lt⟩
          case rh => unfold results; go_simp
      · have hr := HR2.out
        rw [if_pos he] at hr
        subst hr
        clear HR2
        have q1 : (p3 == 0) = false := by rw [beq_eq_false_iff_ne]; exact he
        have b1 : (p3 != 0) = true := by rw [bne_iff_ne]; exact he
        clear he
        have hq := HX6.out.of_eq (show _ = pts b4 (glO 0 0 0 0 0) * (pts b9 _ * A) by ac_rfl)
        obtain ⟨y0, y1, y2, y3, y4, y5, y6, y7, y8, y9, yl⟩ := glAt (hq.sat)
        have HQ := Lib.hid (hq.setG 0 0 0 0 0)
        clear hq
        go_wp2
        (try simp only [Exit.inBlock, Exit.then])
        refine bodyPost_ret (v := .tuple #[.agg #[.int .i64 0, .int .i64 0, .int .i64 0, .int .i64 0, .int .i64 0], .int .i64 p3]) ?rh rfl ⟨rfl, HQ.out.less.less.lt⟩
        case rh => unfold results; go_simp
  · have hr := HR.out
    rw [if_pos (.inl he)] at hr
    subst hr
    have q1 : (se == 0) = false := by rw [beq_eq_false_iff_ne]; exact he
    have b1 : (se != 0) = true := by rw [bne_iff_ne]; exact he
    clear HR he
    obtain ⟨z0, z1, z2, z3, z4, z5, z6, z7, z8, z9, zl⟩ := glAt (H4.out.sat)
    have hq := H4.out.of_eq (show _ = pts b4 (glO 0 0 0 0 0) * (pts b9 (glO g1 g2 g3 g4 g5) * A) by ac_rfl)
    obtain ⟨y0, y1, y2, y3, y4, y5, y6, y7, y8, y9, yl⟩ := glAt (hq.sat)
    have HQ := Lib.hid (hq.setG g1 g2 g3 g4 g5)
    clear hq
    go_wp2
    (try simp only [Exit.inBlock, Exit.then])
    refine bodyPost_ret (v := .tuple #[.agg #[.int .i64 g1, .int .i64 g2, .int .i64 g3, .int .i64 g4, .int .i64 g5], .int .i64 se]) ?rh rfl ⟨rfl, HQ.out.less.less.lt⟩
    case rh => unfold results; go_simp
end Go.Proofs.Yticljfpippbkkaa
