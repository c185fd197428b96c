/-
  A ligature program: open, far, there, begin. Conditions: those that each theorem names.
-/
import Derived.Test.YtigjfbbgbiajbaaFtG
namespace Go.Proofs.Ytigjfbbgbiajbaa
open Go.RowKit Go.Sp
variable {w : World} {x : FV} {F : Fnt}

abbrev Fnt.pval (F : Fnt) (x : FV) : Value := .agg #[.int .u32 F.check, .int .i64 F.design, .int .i64 F.first, x.cv, x.sv, x.kv, x.pv, x.rv, .int .i64 (edgeM F)]
abbrev Fnt.pbox (F : Fnt) (x : FV) : Obj := .cells #[.int .u32 F.check, .int .i64 F.design, .int .i64 F.first, x.cv, x.sv, x.kv, x.pv, x.rv, .int .i64 (edgeM F)] 47

/-- what a right font's numbers obey -/
structure FOk (F : Fnt) : Prop where
  h0 : 0 ≤ F.first
  h1 : F.first ≤ 255
  hc : (F.chars.length : Int) ≤ 256 - F.first
  hs : F.steps.length ≤ 32510
  ht : ∀ k, k < F.chars.length → (metM F k).tag = 1 → 0 ≤ (metM F k).rest ∧ (metM F k).rest < F.steps.length
  hk : ∀ k, k < F.steps.length → (stpM F k).skip.toNat ≤ 128 → 128 ≤ (stpM F k).op.toNat → 256 * ((stpM F k).op.toNat - 128) + (stpM F k).rest.toNat < F.kerns.length
theorem FOk.of (h : checkB F = true) : FOk F := by
  unfold checkB headB at h
  simp only [Bool.and_eq_true] at h
  obtain ⟨⟨⟨⟨⟨⟨h1, h2⟩, h3⟩, h4⟩, h5⟩, h6⟩, h7⟩ := h
  unfold h1B at h1
  unfold h2B at h2
  simp only [Bool.and_eq_true, decide_eq_true_eq] at h1 h2
  refine ⟨h1.2.2.1, h1.2.2.2.1, h1.2.2.2.2.1, h2.1, fun k hk ht => ?_, fun k hk hs ho => ?_⟩
  · have := List.all_eq_true.1 h5 _ (metM_mem hk)
    unfold charB at this
    rw [ht, if_neg (by decide)] at this
    split at this
    · cases this
    · rw [if_neg (by decide), if_pos rfl] at this
      simpa using this
  · have := (stepsB_all F F.steps 0).1 h6 k hk
    rw [Nat.zero_add, stpM_get hk] at this
    unfold stepB at this
    rw [if_neg (by omega)] at this
    split at this
    · cases this
    · split at this
      · cases this
      · first
          | rw [if_pos ho, decide_eq_true_eq] at this
          | rw [decide_eq_true_eq] at this
        omega
theorem checkE_zero (h : checkE F = 0) : checkB F = true := by
  unfold checkE at h
  by_cases hb : checkB F = true
  · exact hb
  · rw [if_neg hb] at h; omega

theorem far_any (s : Stp) (w : World) : Calls Try.prog 39 #[s.val] w fun e w' => e = .returned (.int .i64 (far s)) ∧ Ext w w' := by
  obtain ⟨a, b, c, d⟩ := s
  have HX := Lib.hid ((Ext.refl w).alloc (o := Stp.box ⟨a, b, c, d⟩))
  have h3 := u8i c
  have h4 := u8i d
  unfold far
  simp only
  go_enter Try.func39, Try.ntmps39
  go_wp2
  go_ret
  exact ⟨rfl, HX.out⟩

set_option maxRecDepth 100000 in
set_option maxHeartbeats 4000000 in
theorem open_any (h : RdF w x F) : Calls Try.prog 13 #[F.val x] w fun e w' => e = .returned (F.pval x) ∧ Ext w w' := by
  obtain ⟨ca, cc, sa, sc, ka, kc, pa, pc, ra, rc, rfl, -⟩ := h.vals
  have hle := h.ls
  by_cases hn : 0 < F.steps.length
  · obtain ⟨b, off, rfl, c0, c1, -, -, lb⟩ := h.stp rfl hn
    rw [Nat.zero_mul, Nat.add_zero] at c0 c1
    have he := edge_cons hn
    have hb := u8i (stpM F 0).next
    have hn2 : (0 : Int) < F.steps.length := by omega
    have HE := Lib.hid he
    have lb1 : b < w.heap.size + 1 := by omega
    have lb2 : b < w.heap.size + 1 + 1 := by omega
    clear he
    generalize (stpM F 0).skip.toNat = sk at *
    generalize (stpM F 0).next.toNat = nx at *
    clear h
    by_cases hs : sk = 255
    · have hs2 : (sk : Int) = 255 := by omega
      have HS := Lib.hid hs
      clear hs
      go_enter Try.func13, Try.ntmps13
      go_wp2
      refine bodyPost_ret (v := .agg #[.int .u32 F.check, .int .i64 F.design, .int .i64 F.first, .slice ca F.chars.length cc, .slice (some ⟨b, off, none⟩) F.steps.length sc, .slice ka F.kerns.length kc, .slice pa F.pieces.length pc, .slice ra F.params.length rc, .int .i64 nx]) (by unfold results; go_simp) rfl ⟨?_, (((Ext.refl w).alloc).alloc).alloc⟩
      rw [Fnt.pval, HE.out, if_pos HS.out]
    · have hs2 : ¬ (sk : Int) = 255 := by omega
      have HS := Lib.hid hs
      clear hs
      go_enter Try.func13, Try.ntmps13
      go_wp2
      refine bodyPost_ret (v := .agg #[.int .u32 F.check, .int .i64 F.design, .int .i64 F.first, .slice ca F.chars.length cc, .slice (some ⟨b, off, none⟩) F.steps.length sc, .slice ka F.kerns.length kc, .slice pa F.pieces.length pc, .slice ra F.params.length rc, .int .i64 (-1)]) (by unfold results; go_simp) rfl ⟨?_, (((Ext.refl w).alloc).alloc).alloc⟩
      rw [Fnt.pval, HE.out, if_neg HS.out]
  · have h0 : F.steps.length = 0 := by omega
    have HE := Lib.hid (edge_nil (List.eq_nil_of_length_eq_zero h0))
    clear h hn hle
    rw [h0]
    go_enter Try.func13, Try.ntmps13
    go_wp2
    refine bodyPost_ret (v := .agg #[.int .u32 F.check, .int .i64 F.design, .int .i64 F.first, .slice ca F.chars.length cc, .slice sa 0 sc, .slice ka F.kerns.length kc, .slice pa F.pieces.length pc, .slice ra F.params.length rc, .int .i64 (-1)]) (by unfold results; go_simp) rfl ⟨?_, (((Ext.refl w).alloc).alloc).alloc⟩
    rw [Fnt.pval, HE.out]

set_option maxRecDepth 100000 in
set_option maxHeartbeats 4000000 in
theorem lthere_any (h : RdF w x F) (c : Int) (h0 : 0 ≤ F.first) (h1 : F.first ≤ 255) :
    Calls Try.prog 18 #[F.val x, .int .i64 c] w fun e w' => e = .returned (.bool (decide (0 ≤ c) && (decide (c ≤ 255) && (thereM F c).isSome))) ∧ Ext w w' := by
  obtain ⟨W1, hW1⟩ : ∃ W1, w.alloc (F.box x) = W1 := ⟨_, rfl⟩
  have HX := (Ext.refl w).alloc (o := F.box x)
  have HB := BoxF.new w F x
  obtain ⟨bf, hbf⟩ : ∃ bf, w.heap.size = bf := ⟨_, rfl⟩
  rw [hW1] at HX HB
  rw [hbf] at HB
  have HF := Lib.hid (h.ext HX)
  replace HX := Lib.hid HX
  replace HB := Lib.hid HB
  obtain ⟨ca, cc, sa, sc, ka, kc, pa, pc, ra, rc, rfl, -⟩ := h.vals
  simp only [Fnt.box] at hW1
  have HW1 := Lib.hid hW1
  have HBF := Lib.hid hbf
  clear h hW1 hbf
  by_cases k0 : 0 ≤ c
  · by_cases k1 : c ≤ 255
    · obtain ⟨u, hu⟩ : ∃ u : UInt8, (u.toNat : Int) = c := ⟨UInt8.ofNat c.toNat, by rw [UInt8.toNat_ofNat']; omega⟩
      rw [decide_eq_true k0, decide_eq_true k1, Bool.true_and, Bool.true_and]
      have HT := Lib.hid (metric_any HF.out u h0 h1)
      rw [hu] at HT
      have hwr : IntKind.u8.wrap c = c := by show c % 256 = c; omega
      have hwr2 : c % 256 = c := by omega
      clear hu
      go_enter Try.func18, Try.ntmps18
      go_upto_region 3 with fail
      rw [HBF.out, HW1.out]
      clear HBF HW1
      have b0 := HB.out.c0
      have b1 := HB.out.c1
      have b2 := HB.out.c2
      have b3 := HB.out.c3
      have b4 := HB.out.c4
      have b5 := HB.out.c5
      have b6 := HB.out.c6
      have b7 := HB.out.c7
      have lq := HB.out.lt
      go_wp2_with fail
      with_reducible refine Calls.mono HT.out ?_
      rintro e w2 ⟨rfl, hx⟩
      have HX2 := Lib.hid ((HX.out.trans hx).alloc (o := (metR F c).box))
      obtain ⟨⟨m1, m2, m3, m4, m5, m6⟩, hm⟩ : ∃ m, metR F c = m := ⟨_, rfl⟩
      rw [hm] at HX2 ⊢
      clear HT hx hm b0 b1 b2 b3 b4 b5 b6 b7 lq
      go_wp2
      go_ret
      exact ⟨rfl, HX2.out⟩
    · rw [decide_eq_false k1, Bool.false_and, Bool.and_false]
      go_enter Try.func18, Try.ntmps18
      go_wp2
      go_ret
      exact ⟨rfl, by rw [HW1.out]; exact HX.out⟩
  · rw [decide_eq_false k0, Bool.false_and]
    go_enter Try.func18, Try.ntmps18
    go_wp2
    go_ret
    exact ⟨rfl, by rw [HW1.out]; exact HX.out⟩

structure BoxP (w : World) (b : Nat) (F : Fnt) (x : FV) : Prop where
  c0 : w.cell? ⟨b, 0, none⟩ = some (.int .u32 F.check)
  c1 : w.cell? ⟨b, 1, none⟩ = some (.int .i64 F.design)
  c2 : w.cell? ⟨b, 2, none⟩ = some (.int .i64 F.first)
  c3 : w.cell? ⟨b, 3, none⟩ = some x.cv
  c4 : w.cell? ⟨b, 4, none⟩ = some x.sv
  c5 : w.cell? ⟨b, 5, none⟩ = some x.kv
  c6 : w.cell? ⟨b, 6, none⟩ = some x.pv
  c7 : w.cell? ⟨b, 7, none⟩ = some x.rv
  c8 : w.cell? ⟨b, 8, none⟩ = some (.int .i64 (edgeM F))
  lt : b < w.heap.size
theorem BoxP.of {W : World} {b : Nat} {A : HProp} (h : Sat W (pts b (F.pbox x) * A) w) : BoxP w b F x :=
  ⟨h.cell rfl, h.cell rfl, h.cell rfl, h.cell rfl, h.cell rfl, h.cell rfl, h.cell rfl, h.cell rfl, h.cell rfl, h.lt⟩
theorem BoxP.new (w : World) (F : Fnt) (x : FV) : BoxP (w.alloc (F.pbox x)) w.heap.size F x := BoxP.of ((Sat.start w).alloc (F.pbox x))
theorem BoxP.ext {w' : World} {b : Nat} (h : BoxP w b F x) (k : Ext w w') : BoxP w' b F x :=
  ⟨k.cell h.c0, k.cell h.c1, k.cell h.c2, k.cell h.c3, k.cell h.c4, k.cell h.c5, k.cell h.c6, k.cell h.c7, k.cell h.c8, k.lt h.lt⟩

/-- where a mark's steps begin, but for places that there are not -/
def beginA (F : Fnt) (mark : Int) : Int :=
  if mark = -1 then (if 0 < F.steps.length ∧ (stpM F (F.steps.length - 1)).skip.toNat = 255 then far (stpM F (F.steps.length - 1)) else -1)
  else if mark = 256 then -1
  else match thereM F mark with
    | none => -1
    | some k => if (metM F k).tag = 1 then (if 128 < (stpM F (metM F k).rest.toNat).skip.toNat then far (stpM F (metM F k).rest.toNat) else (metM F k).rest) else -1
def beginM (F : Fnt) (mark : Int) : Int := if F.steps.length ≤ beginA F mark then -1 else beginA F mark
theorem far_in (s : Stp) : 0 ≤ far s ∧ far s < 65536 := by
  have h3 := u8i s.op
  have h4 := u8i s.rest
  unfold far
  omega
theorem beginA_in (h : FOk F) (mark : Int) : -1 ≤ beginA F mark ∧ beginA F mark < 65536 := by
  unfold beginA
  split
  · split
    · have := far_in (stpM F (F.steps.length - 1)); omega
    · omega
  · split
    · omega
    · split
      · omega
      · rename_i k hk
        obtain ⟨-, hk2, -, -⟩ := (thereM_eq F mark k).1 hk
        split
        · rename_i ht
          have h1 := h.ht k hk2 ht
          have h2 := h.hs
          split
          · have := far_in (stpM F (metM F k).rest.toNat); omega
          · omega
        · omega
theorem beginM_in (h : FOk F) (mark : Int) : -1 ≤ beginM F mark ∧ beginM F mark < F.steps.length := by
  have h1 := beginA_in h mark
  unfold beginM
  split <;> omega

set_option maxRecDepth 100000 in
set_option maxHeartbeats 8000000 in
theorem begin_any (h : RdF w x F) (hk : FOk F) (mark : Int) (hm : -1 ≤ mark ∧ mark ≤ 256) :
    Calls Try.prog 26 #[F.pval x, .int .i64 mark] w fun e w' => e = .returned (.int .i64 (beginM F mark)) ∧ Ext w w' := by
  obtain ⟨W1, hW1⟩ : ∃ W1, w.alloc (F.pbox x) = W1 := ⟨_, rfl⟩
  have HX := (Ext.refl w).alloc (o := F.pbox x)
  have HB := BoxP.new w F x
  obtain ⟨bf, hbf⟩ : ∃ bf, w.heap.size = bf := ⟨_, rfl⟩
  rw [hW1] at HX HB
  rw [hbf] at HB
  have HF := Lib.hid (h.ext HX)
  replace HX := Lib.hid HX
  replace HB := Lib.hid HB
  obtain ⟨ca, cc, sa, sc, ka, kc, pa, pc, ra, rc, rfl, -⟩ := h.vals
  have hls := hk.hs
  have h0 := hk.h0
  have h1 := hk.h1
  have HK := Lib.hid hk
  simp only [Fnt.pbox] at hW1
  have HW1 := Lib.hid hW1
  have HBF := Lib.hid hbf
  obtain ⟨r, hr⟩ : ∃ r, beginM F mark = r := ⟨_, rfl⟩
  rw [hr]
  obtain ⟨ba, hba⟩ : ∃ ba, beginA F mark = ba := ⟨_, rfl⟩
  have hb := beginA_in hk mark
  unfold beginM at hr
  rw [hba] at hr hb
  have HR := Lib.hid hr
  unfold beginA at hba
  clear h hW1 hbf hr hk
  go_enter Try.func26, Try.ntmps26
  go_upto_region 1 with fail
  rw [HBF.out, HW1.out]
  clear HBF HW1
  have b0 := HB.out.c0
  have b1 := HB.out.c1
  have b2 := HB.out.c2
  have b3 := HB.out.c3
  have b4 := HB.out.c4
  have b5 := HB.out.c5
  have b6 := HB.out.c6
  have b7 := HB.out.c7
  have b8 := HB.out.c8
  have lq := HB.out.lt
  by_cases m1 : mark = -1
  · subst m1
    rw [if_pos rfl] at hba
    by_cases hn : 0 < F.steps.length
    · obtain ⟨b, off, rfl, c0, c1, c2, c3, lb⟩ := HF.out.stp rfl (show F.steps.length - 1 < F.steps.length by omega)
      obtain ⟨n, hn2⟩ : ∃ n, F.steps.length - 1 = n := ⟨_, rfl⟩
      have hn3 : (F.steps.length : Int) - 1 = n := by omega
      have hn4 : (n : Int) < F.steps.length := by omega
      have hn5 : (0 : Int) < F.steps.length := by omega
      rw [hn2] at c0 c1 c2 c3 hba
      by_cases hs : (stpM F n).skip.toNat = 255
      · have hs2 : ((stpM F n).skip.toNat : Int) = 255 := by omega
        rw [if_pos ⟨hn, hs⟩] at hba
        subst hba
        have hfa := far_any (stpM F n) W1
        clear hs hn2
        obtain ⟨fv, hfv⟩ : ∃ fv, far (stpM F n) = fv := ⟨_, rfl⟩
        rw [hfv] at hfa hb HR
        obtain ⟨⟨s1, s2, s3, s4⟩, hs⟩ : ∃ s, stpM F n = s := ⟨_, rfl⟩
        rw [hs] at hfa c0 c1 c2 c3 hs2
        simp only at c0 c1 c2 c3 hs2
        simp only [Stp.val, hs2] at hfa
        have HFA := Lib.hid hfa
        clear hs hfv hfa
        go_wp2_with fail
        with_reducible refine Calls.mono HFA.out ?_
        rintro e w2 ⟨rfl, hx⟩
        have HX2 := Lib.hid (HX.out.trans hx)
        clear hx b0 b1 b2 b3 b4 b5 b6 b7 b8 lq c0 c1 c2 c3 lb HFA
        go_upto_region 12 with fail
        have hr := HR.out
        clear HR
        by_cases hge : (F.steps.length : Int) ≤ (fv)
        · rw [if_pos hge] at hr
          subst hr
          go_wp2
          go_ret
          exact ⟨rfl, HX2.out⟩
        · rw [if_neg hge] at hr
          subst hr
          go_wp2
          go_ret
          exact ⟨rfl, HX2.out⟩
      · have hs2 : ¬ ((stpM F n).skip.toNat : Int) = 255 := by omega
        rw [if_neg (fun h => hs h.2)] at hba
        subst hba
        clear hs hn2
        go_upto_region 12 with fail
        have hr := HR.out
        clear HR
        by_cases hge : (F.steps.length : Int) ≤ (-1)
        · rw [if_pos hge] at hr
          subst hr
          go_wp2
          go_ret
          exact ⟨rfl, HX.out⟩
        · rw [if_neg hge] at hr
          subst hr
          go_wp2
          go_ret
          exact ⟨rfl, HX.out⟩
    · rw [if_neg (fun h => hn h.1)] at hba
      subst hba
      have hn5 : decide ((0 : Int) < F.steps.length) = false := decide_eq_false (by omega)
      have hn6 : decide (0 < F.steps.length) = false := decide_eq_false (by omega)
      clear hn
      go_upto_region 12 with fail
      have hr := HR.out
      clear HR
      by_cases hge : (F.steps.length : Int) ≤ (-1)
      · rw [if_pos hge] at hr
        subst hr
        go_wp2
        go_ret
        exact ⟨rfl, HX.out⟩
      · rw [if_neg hge] at hr
        subst hr
        go_wp2
        go_ret
        exact ⟨rfl, HX.out⟩
  rw [if_neg m1] at hba
  by_cases m2 : mark = 256
  · subst m2
    rw [if_pos rfl] at hba
    subst hba
    go_upto_region 12 with fail
    have hr := HR.out
    clear HR
    by_cases hge : (F.steps.length : Int) ≤ (-1)
    · rw [if_pos hge] at hr
      subst hr
      go_wp2
      go_ret
      exact ⟨rfl, HX.out⟩
    · rw [if_neg hge] at hr
      subst hr
      go_wp2
      go_ret
      exact ⟨rfl, HX.out⟩
  rw [if_neg m2] at hba
  obtain ⟨u, hu⟩ : ∃ u : UInt8, (u.toNat : Int) = mark := ⟨UInt8.ofNat mark.toNat, by rw [UInt8.toNat_ofNat']; omega⟩
  have HT := Lib.hid (metric_any HF.out u h0 h1)
  rw [hu] at HT
  have hwr2 : mark % 256 = mark := by omega
  have m2b : (mark != 256) = true := bne_iff_ne.2 m2
  clear hu
  go_wp2_with fail
  with_reducible refine Calls.mono HT.out ?_
  rintro e w2 ⟨rfl, hx⟩
  have hX2 := hx.alloc (o := (metR F mark).box)
  have hM2 := (Sat.start w2).alloc (metR F mark).box
  obtain ⟨W3, hW3⟩ : ∃ W3, w2.alloc (metR F mark).box = W3 := ⟨_, rfl⟩
  obtain ⟨b9, hb9⟩ : ∃ b9, w2.heap.size = b9 := ⟨_, rfl⟩
  rw [hW3] at hX2 hM2
  rw [hb9] at hM2
  have HX2 := Lib.hid (HX.out.trans hX2)
  have HB2 := Lib.hid (HB.out.ext hX2)
  have HF2 := Lib.hid (HF.out.ext hX2)
  obtain ⟨⟨n1, n2, n3, n4, n5, n6⟩, hm⟩ : ∃ m, metR F mark = m := ⟨_, rfl⟩
  rw [hm] at hM2 hW3 ⊢
  unfold metR at hm
  obtain ⟨q, hq⟩ : ∃ q, thereM F mark = q := ⟨_, rfl⟩
  have HQ := Lib.hid hq
  rw [hq] at hba hm ⊢
  have HM2 := Lib.hid hM2
  have HW3 := Lib.hid hW3
  have HB9 := Lib.hid hb9
  clear HT hx b0 b1 b2 b3 b4 b5 b6 b7 b8 lq hX2 hM2 hW3 hb9 hwr2 HX HB HF hq
  cases q with
  | none =>
    simp only [Option.isSome_none]
    simp only at hba
    subst hba
    clear hm
    go_upto_region 8 with fail
    rw [HB9.out, show w2.alloc (.cells #[.int .i64 n1, .int .i64 n2, .int .i64 n3, .int .i64 n4, .int .i64 n5, .int .i64 n6] 51) = W3 from HW3.out]
    clear HB9 HW3 HM2
    go_upto_region 12 with fail
    have hr := HR.out
    clear HR
    by_cases hge : (F.steps.length : Int) ≤ (-1)
    · rw [if_pos hge] at hr
      subst hr
      go_wp2
      go_ret
      exact ⟨rfl, HX2.out⟩
    · rw [if_neg hge] at hr
      subst hr
      go_wp2
      go_ret
      exact ⟨rfl, HX2.out⟩
  | some k =>
    simp only [Option.isSome_some]
    simp only at hba hm
    obtain ⟨-, hk2, -, -⟩ := (thereM_eq F mark k).1 HQ.out
    rw [hm] at hba
    simp only at hba
    have htk := HK.out.ht k hk2
    rw [hm] at htk
    simp only at htk
    clear hm
    have HTK := Lib.hid htk
    clear htk
    go_upto_region 8 with fail
    rw [HB9.out, show w2.alloc (.cells #[.int .i64 n1, .int .i64 n2, .int .i64 n3, .int .i64 n4, .int .i64 n5, .int .i64 n6] 51) = W3 from HW3.out]
    clear HB9 HW3
    have d4 := HM2.out.cell (i := 4) rfl
    have d5 := HM2.out.cell (i := 5) rfl
    have ld := HM2.out.lt
    clear HM2
    have b0 := HB2.out.c0
    have b1 := HB2.out.c1
    have b2 := HB2.out.c2
    have b3 := HB2.out.c3
    have b4 := HB2.out.c4
    have b5 := HB2.out.c5
    have b6 := HB2.out.c6
    have b7 := HB2.out.c7
    have b8 := HB2.out.c8
    have lq := HB2.out.lt
    by_cases k1 : n5 = 1
    · subst k1
      rw [if_pos rfl] at hba
      obtain ⟨t0, t1⟩ := HTK.out rfl
      clear HTK
      obtain ⟨n, rfl⟩ : ∃ n : Nat, n6 = n := ⟨n6.toNat, by omega⟩
      rw [Int.toNat_natCast] at hba
      have hn : n < F.steps.length := by omega
      obtain ⟨b, off, rfl, c0, c1, c2, c3, lb⟩ := HF2.out.stp rfl hn
      by_cases hs : 128 < (stpM F n).skip.toNat
      · have hs2 : (128 : Int) < ((stpM F n).skip.toNat : Int) := by omega
        rw [if_pos hs] at hba
        subst hba
        have hfa := far_any (stpM F n) W3
        obtain ⟨fv, hfv⟩ : ∃ fv, far (stpM F n) = fv := ⟨_, rfl⟩
        rw [hfv] at hfa hb HR
        obtain ⟨⟨s1, s2, s3, s4⟩, hs3⟩ : ∃ s, stpM F n = s := ⟨_, rfl⟩
        rw [hs3] at hfa c0 c1 c2 c3 hs2
        simp only at c0 c1 c2 c3 hs2
        have HFA := Lib.hid hfa
        clear hs3 hfv hfa hs
        go_wp2_with fail
        with_reducible refine Calls.mono HFA.out ?_
        rintro e w5 ⟨rfl, hx⟩
        have HX5 := Lib.hid (HX2.out.trans hx)
        clear hx b0 b1 b2 b3 b4 b5 b6 b7 b8 lq c0 c1 c2 c3 lb HFA d4 d5 ld t0 t1 hn
        go_upto_region 12 with fail
        have hr := HR.out
        clear HR
        by_cases hge : (F.steps.length : Int) ≤ (fv)
        · rw [if_pos hge] at hr
          subst hr
          go_wp2
          go_ret
          exact ⟨rfl, HX5.out⟩
        · rw [if_neg hge] at hr
          subst hr
          go_wp2
          go_ret
          exact ⟨rfl, HX5.out⟩
      · have hs2 : ¬ (128 : Int) < ((stpM F n).skip.toNat : Int) := by omega
        rw [if_neg hs] at hba
        subst hba
        clear hs
        go_upto_region 12 with fail
        have hr := HR.out
        clear HR
        by_cases hge : (F.steps.length : Int) ≤ ((n : Int))
        · rw [if_pos hge] at hr
          subst hr
          go_wp2
          go_ret
          exact ⟨rfl, HX2.out⟩
        · rw [if_neg hge] at hr
          subst hr
          go_wp2
          go_ret
          exact ⟨rfl, HX2.out⟩
    · rw [if_neg k1] at hba
      subst hba
      go_upto_region 12 with fail
      have hr := HR.out
      clear HR
      by_cases hge : (F.steps.length : Int) ≤ (-1)
      · rw [if_pos hge] at hr
        subst hr
        go_wp2
        go_ret
        exact ⟨rfl, HX2.out⟩
      · rw [if_neg hge] at hr
        subst hr
        go_wp2
        go_ret
        exact ⟨rfl, HX2.out⟩
end Go.Proofs.Ytigjfbbgbiajbaa
