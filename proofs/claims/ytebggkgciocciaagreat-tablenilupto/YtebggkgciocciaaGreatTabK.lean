
/-
  Values of registers: are they right? Conditions: those that each theorem names.
-/
import Derived.Test.YtebggkgciocciaaGreatTabJ
namespace Go.Proofs.YtebggkgciocciaaGreat
open Go.RowKit Go.Sp
variable {W w w' : World} {F A : HProp}


set_option maxRecDepth 100000 in
set_option maxHeartbeats 4000000 in
theorem right_code {v : RegS} {s : Value} (w : World) (hr : RdT w s v.toks) (c : Int) (h1 : c ≠ 1) (h2 : c ≠ 2) (h3 : c ≠ 3) (h4 : c ≠ 4) :
    Calls Tryz.prog 50 #[valA v s, .int .i64 c] w fun e w' => e = .returned (.bool (bareN v && decide (0 ≤ v.n ∧ v.n ≤ 15))) ∧ Ext w w' := by
  have q1 : (c == 1) = false := by simpa using h1
  have q2 : (c == 2) = false := by simpa using h2
  have q3 : (c == 3) = false := by simpa using h3
  have q4 : (c == 4) = false := by simpa using h4
  clear h1 h2 h3 h4
  obtain ⟨n, ⟨g1, g2, g3, g4, g5⟩, L⟩ := v
  have hs0 := (Sat.start w).alloc (valO ⟨n, ⟨g1, g2, g3, g4, g5⟩, L⟩ s)
  have hva := valAt_box hs0 (hr.ext hs0.r.toExt)
  have HX := Lib.hid hs0.r.toExt
  have HS := Lib.hid hs0
  have HV := Lib.hid hva
  simp only [valA] at *
  clear hs0 hva hr
  obtain ⟨q, hq⟩ : ∃ q, bareN ⟨n, ⟨g1, g2, g3, g4, g5⟩, L⟩ = q := ⟨_, rfl⟩
  rw [hq]
  have HQ := Lib.hid hq
  clear hq
  cases q
  · go_enter Tryz.func50, Tryz.ntmps50
    go_upto_region 1 with fail
    generalize w.alloc (.cells #[.int .i64 n, .int .i64 g1, .int .i64 g2, .int .i64 g3, .int .i64 g4, .int .i64 g5, s] 29) = W1 at *
    generalize w.heap.size = bv at *
    have c0 := HV.out.c0
    have c1 := HV.out.c1
    have c2 := HV.out.c2
    have c3 := HV.out.c3
    have c4 := HV.out.c4
    have c5 := HV.out.c5
    have c6 := HV.out.c6
    simp only at c0 c1 c2 c3 c4 c5 c6
    have hb := bareN_any HV.out
    rw [HQ.out] at hb
    have HB := Lib.hid hb
    clear hb
    go_wp2_with fail
    refine Calls.mono HB.out ?_
    rintro e w' ⟨rfl, rfl⟩
    go_wp2
    go_ret
    first | exact ⟨rfl, HX.out⟩ | exact ⟨by simp; omega, HX.out⟩
  · by_cases k1 : 0 ≤ n
    · by_cases k2 : n ≤ 15
      · rw [show decide (0 ≤ n ∧ n ≤ 15) = true by simp [k1, k2]]
        go_enter Tryz.func50, Tryz.ntmps50
        go_upto_region 1 with fail
        generalize w.alloc (.cells #[.int .i64 n, .int .i64 g1, .int .i64 g2, .int .i64 g3, .int .i64 g4, .int .i64 g5, s] 29) = W1 at *
        generalize w.heap.size = bv at *
        have c0 := HV.out.c0
        have c1 := HV.out.c1
        have c2 := HV.out.c2
        have c3 := HV.out.c3
        have c4 := HV.out.c4
        have c5 := HV.out.c5
        have c6 := HV.out.c6
        simp only at c0 c1 c2 c3 c4 c5 c6
        have hb := bareN_any HV.out
        rw [HQ.out] at hb
        have HB := Lib.hid hb
        clear hb
        go_wp2_with fail
        refine Calls.mono HB.out ?_
        rintro e w' ⟨rfl, rfl⟩
        go_wp2
        go_ret
        first | exact ⟨rfl, HX.out⟩ | exact ⟨by simp; omega, HX.out⟩
      · rw [show decide (0 ≤ n ∧ n ≤ 15) = false by simp only [decide_eq_false_iff_not]; omega]
        go_enter Tryz.func50, Tryz.ntmps50
        go_upto_region 1 with fail
        generalize w.alloc (.cells #[.int .i64 n, .int .i64 g1, .int .i64 g2, .int .i64 g3, .int .i64 g4, .int .i64 g5, s] 29) = W1 at *
        generalize w.heap.size = bv at *
        have c0 := HV.out.c0
        have c1 := HV.out.c1
        have c2 := HV.out.c2
        have c3 := HV.out.c3
        have c4 := HV.out.c4
        have c5 := HV.out.c5
        have c6 := HV.out.c6
        simp only at c0 c1 c2 c3 c4 c5 c6
        have hb := bareN_any HV.out
        rw [HQ.out] at hb
        have HB := Lib.hid hb
        clear hb
        go_wp2_with fail
        refine Calls.mono HB.out ?_
        rintro e w' ⟨rfl, rfl⟩
        go_wp2
        go_ret
        first | exact ⟨rfl, HX.out⟩ | exact ⟨by simp; omega, HX.out⟩
    · rw [show decide (0 ≤ n ∧ n ≤ 15) = false by simp only [decide_eq_false_iff_not]; omega]
      go_enter Tryz.func50, Tryz.ntmps50
      go_upto_region 1 with fail
      generalize w.alloc (.cells #[.int .i64 n, .int .i64 g1, .int .i64 g2, .int .i64 g3, .int .i64 g4, .int .i64 g5, s] 29) = W1 at *
      generalize w.heap.size = bv at *
      have c0 := HV.out.c0
      have c1 := HV.out.c1
      have c2 := HV.out.c2
      have c3 := HV.out.c3
      have c4 := HV.out.c4
      have c5 := HV.out.c5
      have c6 := HV.out.c6
      simp only at c0 c1 c2 c3 c4 c5 c6
      have hb := bareN_any HV.out
      rw [HQ.out] at hb
      have HB := Lib.hid hb
      clear hb
      go_wp2_with fail
      refine Calls.mono HB.out ?_
      rintro e w' ⟨rfl, rfl⟩
      go_wp2
      go_ret
      first | exact ⟨rfl, HX.out⟩ | exact ⟨by simp; omega, HX.out⟩

set_option maxRecDepth 100000 in
set_option maxHeartbeats 4000000 in
theorem right_skip {v : RegS} {s : Value} (w : World) (hr : RdT w s v.toks) :
    Calls Tryz.prog 50 #[valA v s, .int .i64 3] w fun e w' => e = .returned (.bool (bareG v && (glueE v.g == 0))) ∧ Ext w w' := by
  obtain ⟨n, ⟨g1, g2, g3, g4, g5⟩, L⟩ := v
  have hs0 := (Sat.start w).alloc (valO ⟨n, ⟨g1, g2, g3, g4, g5⟩, L⟩ s)
  have hva := valAt_box hs0 (hr.ext hs0.r.toExt)
  have HX := Lib.hid hs0.r.toExt
  have HS := Lib.hid hs0
  have HV := Lib.hid hva
  simp only [valA] at *
  clear hs0 hva hr
  obtain ⟨q, hq⟩ : ∃ q, bareG ⟨n, ⟨g1, g2, g3, g4, g5⟩, L⟩ = q := ⟨_, rfl⟩
  rw [hq]
  have HQ := Lib.hid hq
  clear hq
  have HGL := Lib.hid (fun w => glue_any ⟨g1, g2, g3, g4, g5⟩ w)
  obtain ⟨z, hz⟩ : ∃ z, glueE ⟨g1, g2, g3, g4, g5⟩ = z := ⟨_, rfl⟩
  rw [hz] at HGL
  rw [hz]
  clear hz
  cases q
  · go_enter Tryz.func50, Tryz.ntmps50
    go_upto_region 1 with fail
    generalize w.alloc (.cells #[.int .i64 n, .int .i64 g1, .int .i64 g2, .int .i64 g3, .int .i64 g4, .int .i64 g5, s] 29) = W1 at *
    generalize w.heap.size = bv at *
    have c0 := HV.out.c0
    have c1 := HV.out.c1
    have c2 := HV.out.c2
    have c3 := HV.out.c3
    have c4 := HV.out.c4
    have c5 := HV.out.c5
    have c6 := HV.out.c6
    simp only at c0 c1 c2 c3 c4 c5 c6
    have hb := bareG_any HV.out
    rw [HQ.out] at hb
    have HB := Lib.hid hb
    clear hb
    go_wp2_with fail
    refine Calls.mono HB.out ?_
    rintro e w' ⟨rfl, rfl⟩
    go_wp2
    go_ret
    first | exact ⟨rfl, HX.out⟩ | exact ⟨by simp; omega, HX.out⟩
  · go_enter Tryz.func50, Tryz.ntmps50
    go_upto_region 1 with fail
    generalize w.alloc (.cells #[.int .i64 n, .int .i64 g1, .int .i64 g2, .int .i64 g3, .int .i64 g4, .int .i64 g5, s] 29) = W1 at *
    generalize w.heap.size = bv at *
    have c0 := HV.out.c0
    have c1 := HV.out.c1
    have c2 := HV.out.c2
    have c3 := HV.out.c3
    have c4 := HV.out.c4
    have c5 := HV.out.c5
    have c6 := HV.out.c6
    simp only at c0 c1 c2 c3 c4 c5 c6
    have hb := bareG_any HV.out
    rw [HQ.out] at hb
    have HB := Lib.hid hb
    clear hb
    go_wp2_with fail
    refine Calls.mono HB.out ?_
    rintro e w' ⟨rfl, rfl⟩
    go_wp2_with fail
    refine Calls.mono (HGL.out _) ?_
    rintro e w2 ⟨rfl, hx⟩
    have H2 := Lib.hid (HX.out.trans hx)
    clear hx c0 c1 c2 c3 c4 c5 c6
    go_wp2
    go_ret
    exact ⟨rfl, H2.out⟩

set_option maxRecDepth 100000 in
set_option maxHeartbeats 4000000 in
theorem right_toks {v : RegS} {s : Value} (w : World) (hr : RdT w s v.toks) :
    Calls Tryz.prog 50 #[valA v s, .int .i64 4] w fun e w' => e = .returned (.bool (bareT v && (decide (v.toks.length ≤ 20000) && v.toks.all tokOK))) ∧ Ext w w' := by
  obtain ⟨sa, sc, rfl⟩ := hr.val
  obtain ⟨n, ⟨g1, g2, g3, g4, g5⟩, L⟩ := v
  have hs0 := (Sat.start w).alloc (valO ⟨n, ⟨g1, g2, g3, g4, g5⟩, L⟩ (.slice sa L.length sc))
  have hva := valAt_box hs0 (hr.ext hs0.r.toExt)
  have HX := Lib.hid hs0.r.toExt
  have HV := Lib.hid hva
  have HCT := Lib.hid (fun (hl : L.length ≤ 1000000000) => contains_any _ L _ (hr.ext hs0.r.toExt) hl)
  simp only [valA] at *
  clear hs0 hva hr
  obtain ⟨q, hq⟩ : ∃ q, bareT ⟨n, ⟨g1, g2, g3, g4, g5⟩, L⟩ = q := ⟨_, rfl⟩
  rw [hq]
  have HQ := Lib.hid hq
  clear hq
  obtain ⟨k, hk⟩ : ∃ k, L.length = k := ⟨_, rfl⟩
  rw [hk] at HV HCT HX
  rw [hk]
  obtain ⟨al, hal⟩ : ∃ al, L.all tokOK = al := ⟨_, rfl⟩
  rw [hal] at HCT
  rw [hal]
  clear hal hk
  obtain ⟨s, hs⟩ : ∃ s, Value.slice sa k sc = s := ⟨_, rfl⟩
  cases q
  · rw [hs] at HV HX ⊢
    clear HCT hs
    go_enter Tryz.func50, Tryz.ntmps50
    go_upto_region 1 with fail
    generalize w.alloc (.cells #[.int .i64 n, .int .i64 g1, .int .i64 g2, .int .i64 g3, .int .i64 g4, .int .i64 g5, s] 29) = W1 at *
    generalize w.heap.size = bv at *
    have c0 := HV.out.c0
    have c1 := HV.out.c1
    have c2 := HV.out.c2
    have c3 := HV.out.c3
    have c4 := HV.out.c4
    have c5 := HV.out.c5
    have c6 := HV.out.c6
    simp only at c0 c1 c2 c3 c4 c5 c6
    have hb := bareT_any HV.out
    rw [HQ.out] at hb
    have HB := Lib.hid hb
    clear hb
    go_wp2_with fail
    refine Calls.mono HB.out ?_
    rintro e w' ⟨rfl, rfl⟩
    go_wp2
    go_ret
    first | exact ⟨rfl, HX.out⟩ | exact ⟨by simp; omega, HX.out⟩
  · clear hs
    by_cases hk20 : k ≤ 20000
    · rw [show decide (k ≤ 20000) = true by simp [hk20]]
      have j1 : (k : Int) ≤ 20000 := by omega
      have HC2 := Lib.hid (HCT.out (by omega))
      clear HCT
      go_enter Tryz.func50, Tryz.ntmps50
      go_upto_region 1 with fail
      generalize w.alloc (.cells #[.int .i64 n, .int .i64 g1, .int .i64 g2, .int .i64 g3, .int .i64 g4, .int .i64 g5, .slice sa k sc] 29) = W1 at *
      generalize w.heap.size = bv at *
      have c6 := HV.out.c6
      have hb := bareT_any HV.out
      rw [HQ.out] at hb
      have HB := Lib.hid hb
      clear hb
      go_wp2_with fail
      refine Calls.mono HB.out ?_
      rintro e w' ⟨rfl, rfl⟩
      go_wp2_with fail
      refine Calls.mono HC2.out ?_
      rintro e w2 ⟨rfl, hx⟩
      have H2 := Lib.hid (HX.out.trans hx)
      clear hx c6
      go_wp2
      go_ret
      first | exact ⟨rfl, H2.out⟩ | exact ⟨by simp, H2.out⟩
    · rw [show decide (k ≤ 20000) = false by simp; omega]
      have j1 : ¬ (k : Int) ≤ 20000 := by omega
      clear HCT
      go_enter Tryz.func50, Tryz.ntmps50
      go_upto_region 1 with fail
      generalize w.alloc (.cells #[.int .i64 n, .int .i64 g1, .int .i64 g2, .int .i64 g3, .int .i64 g4, .int .i64 g5, .slice sa k sc] 29) = W1 at *
      generalize w.heap.size = bv at *
      have c6 := HV.out.c6
      have hb := bareT_any HV.out
      rw [HQ.out] at hb
      have HB := Lib.hid hb
      clear hb
      go_wp2_with fail
      refine Calls.mono HB.out ?_
      rintro e w' ⟨rfl, rfl⟩
      go_wp2
      go_ret
      first | exact ⟨rfl, HX.out⟩ | exact ⟨by simp; omega, HX.out⟩

theorem right_any {v : RegS} {s : Value} (w : World) (hr : RdT w s v.toks) (c : Int) :
    Calls Tryz.prog 50 #[valA v s, .int .i64 c] w fun e w' => e = .returned (.bool (rightM c v)) ∧ Ext w w' := by
  by_cases h1 : c = 1
  · rw [rightM, if_pos h1]; exact right_count w hr c _ (.inl ⟨h1, rfl⟩)
  · by_cases h2 : c = 2
    · rw [rightM, if_neg h1, if_pos h2]; exact right_count w hr c _ (.inr ⟨h2, rfl⟩)
    · by_cases h3 : c = 3
      · rw [rightM, if_neg h1, if_neg h2, if_pos h3, h3]; exact right_skip w hr
      · by_cases h4 : c = 4
        · rw [rightM, if_neg h1, if_neg h2, if_neg h3, if_pos h4, h4]; exact right_toks w hr
        · rw [rightM, if_neg h1, if_neg h2, if_neg h3, if_neg h4]; exact right_code w hr c h1 h2 h3 h4

end Go.Proofs.YtebggkgciocciaaGreat
