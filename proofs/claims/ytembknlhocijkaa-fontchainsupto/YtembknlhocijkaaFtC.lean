
/-
  A font's characters: may the one at a place be? Conditions: those that each theorem names.
-/
import Derived.Test.YtembknlhocijkaaFtB
import Derived.Deep.LoopGhost
import Derived.Deep.CutBlock
import Derived.Deep.DeepCutAuto
namespace Go.Proofs.Ytembknlhocijkaa
open Go.RowKit Go.Sp
variable {w : World} {x : FV} {F : Fnt}

theorem eqA_met (w : World) (a b : Met) : (Op.equalIn 10000 41 a.val b.val).run Try.prog w = .ok (decide (a = b)) w := by
  obtain ⟨a1, a2, a3, a4, a5, a6⟩ := a
  obtain ⟨b1, b2, b3, b4, b5, b6⟩ := b
  have e : decide (Met.mk a1 a2 a3 a4 a5 a6 = ⟨b1, b2, b3, b4, b5, b6⟩) = (a1 == b1 && (a2 == b2) && (a3 == b3) && (a4 == b4) && (a5 == b5) && (a6 == b6)) := by
    rw [Bool.eq_iff_iff]
    simp only [Met.mk.injEq, decide_eq_true_eq, Bool.and_eq_true, beq_iff_eq]
    constructor
    · rintro ⟨rfl, rfl, rfl, rfl, rfl, rfl⟩; simp
    · rintro ⟨⟨⟨⟨⟨rfl, rfl⟩, rfl⟩, rfl⟩, rfl⟩, rfl⟩; simp
  rw [e]
  go_simp
  by_cases h1 : a1 = b1 <;> by_cases h2 : a2 = b2 <;> by_cases h3 : a3 = b3 <;> by_cases h4 : a4 = b4 <;> by_cases h5 : a5 = b5 <;> by_cases h6 : a6 = b6 <;> simp [h1, h2, h3, h4, h5, h6]
theorem run_eql_met (w : World) (a b : Met) : (binOp .eql 41 a.val b.val).run Try.prog w = .ok (.bool (decide (a = b))) w := by
  simp only [binOp, Op.equal, Op.maxDepth, Sem.run_bind, eqA_met, Result.andThen_ok, Sem.run_pure]


set_option maxRecDepth 100000 in
set_option maxHeartbeats 2000000 in
theorem character_any (h : RdF w x F) (i : Nat) (hi : i < F.chars.length) (h0 : 0 ≤ F.first) (h1 : F.first ≤ 255) (hl : F.chars.length ≤ 256) :
    Calls Try.prog 31 #[F.val x, .int .i64 i] w fun e w' => e = .returned (.bool (charB F (metM F i))) ∧ Ext w w' := by
  have HX := Lib.hid (((Ext.refl w).alloc (o := F.box x)).alloc (o := (metM F i).box))
  have HB := Lib.hid ((BoxF.new w F x).ext ((Ext.refl _).alloc (o := (metM F i).box)))
  have HM := Lib.hid ((Sat.start (w.alloc (F.box x))).alloc (metM F i).box)
  have HF := Lib.hid (h.ext HX.out)
  obtain ⟨ca, cc, sa, sc, ka, kc, pa, pc, ra, rc, rfl, -⟩ := h.vals
  have hle := h.lc
  have hls := h.ls
  have hlp := h.lp
  obtain ⟨b, off, rfl, c0, c1, c2, c3, c4, c5, lb⟩ := h.chr rfl hi
  have hi2 : (i : Int) < F.chars.length := by omega
  have hin := h.ir _ (metM_mem hi)
  have HFB := Lib.hid (show ∀ q, charB F (metM F i) = q → charB F (metM F i) = q from fun _ h => h)
  obtain ⟨b3, hb3⟩ : ∃ b3, w.heap.size = b3 := ⟨_, rfl⟩
  obtain ⟨r, hr⟩ : ∃ r, charB F (metM F i) = r := ⟨_, rfl⟩
  rw [hr]
  obtain ⟨m, hm⟩ : ∃ m, metM F i = m := ⟨_, rfl⟩
  simp only [hm] at *
  obtain ⟨m1, m2, m3, m4, m5, m6⟩ := m
  simp only at c0 c1 c2 c3 c4 c5 hin
  have HR := Lib.hid hr
  have HIN := Lib.hid hin
  clear hr h hm hin hb3
  have heq := fun w => run_eql_met w ⟨m1, m2, m3, m4, m5, m6⟩ ⟨0, 0, 0, 0, -1, 0⟩
  simp only [Met.val] at heq
  by_cases ht : m5 = -1
  · subst ht
    have hr : decide ((⟨m1, m2, m3, m4, -1, m6⟩ : Met) = ⟨0, 0, 0, 0, -1, 0⟩) = r := by rw [← HR.out]; unfold charB; rw [if_pos rfl]
    rw [hr] at heq
    clear hr HR
    go_enter Try.func31, Try.ntmps31
    go_wp2
    go_ret
    exact ⟨rfl, HX.out⟩
  · clear heq
    have hr := HR.out
    unfold charB at hr
    rw [if_neg ht] at hr
    simp only at hr
    have HFX := Lib.hid (fun a w => fix_any a w)
    obtain ⟨z1, hz1⟩ : ∃ z, fixB m1 = z := ⟨_, rfl⟩
    obtain ⟨z2, hz2⟩ : ∃ z, fixB m2 = z := ⟨_, rfl⟩
    obtain ⟨z3, hz3⟩ : ∃ z, fixB m3 = z := ⟨_, rfl⟩
    obtain ⟨z4, hz4⟩ : ∃ z, fixB m4 = z := ⟨_, rfl⟩
    rw [hz1, hz2, hz3, hz4] at hr
    have H1 := Lib.hid (fun w => hz1 ▸ fix_any m1 w)
    have H2 := Lib.hid (fun w => hz2 ▸ fix_any m2 w)
    have H3 := Lib.hid (fun w => hz3 ▸ fix_any m3 w)
    have H4 := Lib.hid (fun w => hz4 ▸ fix_any m4 w)
    clear hz1 hz2 hz3 hz4 HR HFX
    cases z1 with
    | false =>
      obtain rfl : false = r := hr
      go_enter Try.func31, Try.ntmps31
      go_wp2_with fail
      with_reducible refine Calls.mono (H1.out _) ?_
      rintro e w9 ⟨rfl, rfl⟩
      go_wp2
      go_ret
      exact ⟨rfl, HX.out⟩
    | true =>
    cases z2 with
    | false =>
      obtain rfl : false = r := hr
      go_enter Try.func31, Try.ntmps31
      go_wp2_with fail
      with_reducible refine Calls.mono (H1.out _) ?_
      rintro e w9 ⟨rfl, rfl⟩
      go_wp2_with fail
      with_reducible refine Calls.mono (H2.out _) ?_
      rintro e w9 ⟨rfl, rfl⟩
      go_wp2
      go_ret
      exact ⟨rfl, HX.out⟩
    | true =>
    cases z3 with
    | false =>
      obtain rfl : false = r := hr
      go_enter Try.func31, Try.ntmps31
      go_wp2_with fail
      with_reducible refine Calls.mono (H1.out _) ?_
      rintro e w9 ⟨rfl, rfl⟩
      go_wp2_with fail
      with_reducible refine Calls.mono (H2.out _) ?_
      rintro e w9 ⟨rfl, rfl⟩
      go_wp2_with fail
      with_reducible refine Calls.mono (H3.out _) ?_
      rintro e w9 ⟨rfl, rfl⟩
      go_wp2
      go_ret
      exact ⟨rfl, HX.out⟩
    | true =>
    cases z4 with
    | false =>
      obtain rfl : false = r := hr
      go_enter Try.func31, Try.ntmps31
      go_wp2_with fail
      with_reducible refine Calls.mono (H1.out _) ?_
      rintro e w9 ⟨rfl, rfl⟩
      go_wp2_with fail
      with_reducible refine Calls.mono (H2.out _) ?_
      rintro e w9 ⟨rfl, rfl⟩
      go_wp2_with fail
      with_reducible refine Calls.mono (H3.out _) ?_
      rintro e w9 ⟨rfl, rfl⟩
      go_wp2_with fail
      with_reducible refine Calls.mono (H4.out _) ?_
      rintro e w9 ⟨rfl, rfl⟩
      go_wp2
      go_ret
      exact ⟨rfl, HX.out⟩
    | true =>
    simp only [Bool.and_self, Bool.not_true, Bool.false_eq_true, if_false] at hr
    have HR := Lib.hid hr
    clear hr
    go_enter Try.func31, Try.ntmps31
    go_wp2_with fail
    with_reducible refine Calls.mono (H1.out _) ?_
    rintro e w9 ⟨rfl, rfl⟩
    go_wp2_with fail
    with_reducible refine Calls.mono (H2.out _) ?_
    rintro e w9 ⟨rfl, rfl⟩
    go_wp2_with fail
    with_reducible refine Calls.mono (H3.out _) ?_
    rintro e w9 ⟨rfl, rfl⟩
    go_wp2_with fail
    with_reducible refine Calls.mono (H4.out _) ?_
    rintro e w9 ⟨rfl, rfl⟩
    clear H1 H2 H3 H4 c0 c1 c2 c3 c4 c5
    go_upto_region 6 with fail
    have d0 := HM.out.cell (i := 0) rfl
    have d4 := HM.out.cell (i := 4) rfl
    have d5 := HM.out.cell (i := 5) rfl
    have ld := HM.out.lt
    by_cases k0 : m5 = 0
    · subst k0
      have hr := HR.out
      rw [if_pos rfl] at hr
      clear HR
      by_cases q : m6 = 0
      · subst q
        obtain rfl : true = r := by rw [← hr]; simp
        go_wp2
        go_ret
        exact ⟨rfl, HX.out⟩
      · obtain rfl : false = r := by rw [← hr]; simp [q]
        clear hr
        go_wp2
        go_ret
        exact ⟨by show Ending.returned (Value.bool (m6 == 0)) = _; simp [q], HX.out⟩
    have hr := HR.out
    rw [if_neg k0] at hr
    by_cases k1 : m5 = 1
    · subst k1
      rw [if_pos rfl] at hr
      clear HR
      by_cases q1 : 0 ≤ m6
      · by_cases q2 : m6 < F.steps.length
        · obtain rfl : true = r := by rw [← hr]; simp [q1, q2]
          clear hr
          go_wp2
          go_ret
          exact ⟨rfl, HX.out⟩
        · obtain rfl : false = r := by rw [← hr]; simp [q1, q2]
          clear hr
          go_wp2
          go_ret
          exact ⟨rfl, HX.out⟩
      · obtain rfl : false = r := by rw [← hr]; simp [q1]
        clear hr
        go_wp2
        go_ret
        exact ⟨rfl, HX.out⟩
    rw [if_neg k1] at hr
    by_cases k2 : m5 = 2
    · subst k2
      rw [if_pos rfl] at hr
      clear HR
      have HR := Lib.hid hr
      clear hr
      obtain ⟨W1, hW1⟩ : ∃ W1, (w.alloc (F.box ⟨.slice (some ⟨b, off, none⟩) F.chars.length cc, .slice sa F.steps.length sc, .slice ka F.kerns.length kc, .slice pa F.pieces.length pc, .slice ra F.params.length rc⟩)).alloc (Met.box ⟨m1, m2, m3, m4, 2, m6⟩) = W1 := ⟨_, rfl⟩
      have HW := Lib.hid hW1
      clear hW1
      go_wp2_with fail
      have hm9 := HM.out.drew
      rw [HW.out] at hm9
      obtain ⟨W9, hW9'⟩ : ∃ W9, W1.drew = W9 := ⟨_, rfl⟩
      have HE9 := Lib.hid (show Ext W1 W9 by rw [← hW9']; exact (Ext.refl _).drew)
      rw [hW9'] at hm9
      have hW9 := hW9'
      rw [← HW.out] at hW9
      clear d0 d4 d5 ld hW9'
      have d5 := hm9.cell (i := 5) rfl
      rw [World.size_alloc] at d5
      clear hm9
      refine wp_region_tail (fun w' => w' = W9) 3 (by kernel_rfl) (by kernel_rfl) hW9 ?_
      clear hW9
      simp only [List.take_succ_cons, List.take_zero, List.drop_succ_cons, List.drop_zero]
      iterate 3
        with_reducible refine wpQuiet_step ?_
        intro K hK
        go_simp
        first
          | (with_reducible refine hK _ ?_
             clear hK K)
          | (rw [if_neg (by intro h; cases h)]
             with_reducible refine hK _ ?_
             clear hK K)
          | (refine Exists.intro _ ⟨fun w9 hw9 => ?_, ?_⟩
             rotate_left 1
             with_reducible refine hK _ ?_
             clear hK K
             rotate_left 1
             · subst hw9; go_simp; try with_reducible rfl)
      refine wpQuiet_nil ?_
      rintro w17 rfl
      go_wp2_with fail
      go_loopg [6, 7] (F.chars.length + 1) (fun gg s6 s7 wx => ∃ (g : Nat) (p c : Int), gg = g ∧ s6 = .int .i64 p ∧ p + g = F.chars.length + 1 ∧ 0 ≤ p ∧ s7 = .int .i64 c ∧ In64 c ∧ chainB F g c = r ∧ Ext W1 wx)
      case atStart => exact ⟨_, 0, m6, rfl, rfl, by omega, by omega, rfl, HIN.out, HR.out, HE9.out⟩
      case round =>
        obtain ⟨g, p, c, hg, rfl, hp, hp0, rfl, hc, hch, hx⟩ := hrel
        subst hg
        have HF2 := Lib.hid (HF.out.ext (by rw [HW.out]; exact hx))
        have HB2 := HB.out.ext (show Ext _ wr by rw [HW.out]; exact hx)
        have HX2 := Lib.hid (HX.out.trans (by rw [HW.out]; exact hx))
        have HX3 := Lib.hid hx
        have hpl : (p : Int) ≤ F.chars.length + 1 := by omega
        have HT := Lib.hid (there_any HF2.out c hc h0 h1)
        have HP := Lib.hid hp
        have HC := Lib.hid hch
        clear hx HX HB HF HM HR HIN hp hch hc
        have b0 := HB2.c0
        have b1 := HB2.c1
        have b2 := HB2.c2
        have b3 := HB2.c3
        have b4 := HB2.c4
        have b5 := HB2.c5
        have b6 := HB2.c6
        have b7 := HB2.c7
        have lq := HB2.lt
        clear HB2
        cases gk with
        | zero =>
          have hpe : (F.chars.length : Int) < p := by have := HP.out; omega
          have hr := HC.out
          simp only [chainB] at hr
          subst hr
          go_wp2
          go_ret
          exact ⟨rfl, HX2.out⟩
        | succ g =>
          have hpe : p ≤ (F.chars.length : Int) := by have := HP.out; omega
          have hr := HC.out
          simp only [chainB] at hr
          obtain ⟨q, hq⟩ : ∃ q, thereM F c = q := ⟨_, rfl⟩
          have HQ := Lib.hid hq
          rw [hq] at HT hr
          have HR := Lib.hid hr
          clear HC hq hr
          go_wp2_with fail
          with_reducible refine Calls.mono HT.out ?_
          rintro e w2 ⟨rfl, hx⟩
          have HX4 := Lib.hid (HX2.out.trans hx)
          have HX5 := Lib.hid (HX3.out.trans hx)
          have HF4 := Lib.hid (HF2.out.ext hx)
          have b3' := hx.cell b3
          have lq' := hx.lt lq
          clear HT b0 b1 b2 b3 b4 b5 b6 b7 lq
          cases q with
          | none =>
            have hr := HR.out
            simp only at hr
            subst hr
            simp only [Option.getD_none, Option.isSome_none]
            go_wp2
            go_ret
            exact ⟨rfl, HX4.out⟩
          | some k =>
            obtain ⟨-, hk, -, -⟩ := (thereM_eq F c k).1 HQ.out
            obtain ⟨b', off', e', c0, c1, c2, c3, c4, c5, lb'⟩ := HF4.out.chr rfl hk
            simp only [Option.some.injEq, Addr.mk.injEq, and_true] at e'
            obtain ⟨rfl, rfl⟩ := e'
            have hin := HF4.out.ir _ (metM_mem hk)
            have hk2 : (k : Int) < F.chars.length := by omega
            simp only [Option.getD_some, Option.isSome_some]
            have hr := HR.out
            simp only at hr
            obtain ⟨y, hy⟩ : ∃ y, metM F k = y := ⟨_, rfl⟩
            rw [hy] at hr hin c0 c1 c2 c3 c4 c5
            obtain ⟨y1, y2, y3, y4, y5, y6⟩ := y
            simp only at hr hin c0 c1 c2 c3 c4 c5
            have HIN := Lib.hid hin
            clear hin hy c0 c1 c2 c3 HQ HR
            by_cases ht : y5 = 2
            · subst ht
              rw [if_pos rfl] at hr
              have HR := Lib.hid hr
              have hpw : wrap64 (p + 1) = p + 1 := by have := HP.out; unfold wrap64; omega
              clear hr
              go_wp2
              go_roundg g
              case measure => omega
              case rel => exact ⟨g, p + 1, y6, rfl, by first | rfl | (simp only [hpw]), by have := HP.out; omega, by omega, rfl, HIN.out, HR.out, HX5.out⟩
            · rw [if_neg ht] at hr
              subst hr
              go_wp2
              go_ret
              exact ⟨rfl, HX4.out⟩
    rw [if_neg k2] at hr
    by_cases k3 : m5 = 3
    · subst k3
      rw [if_pos rfl] at hr
      clear HR
      by_cases q1 : 0 ≤ m6
      · by_cases q2 : m6 < F.pieces.length
        · obtain rfl : true = r := by rw [← hr]; simp [q1, q2]
          clear hr
          go_wp2
          go_ret
          exact ⟨rfl, HX.out⟩
        · obtain rfl : false = r := by rw [← hr]; simp [q1, q2]
          clear hr
          go_wp2
          go_ret
          exact ⟨rfl, HX.out⟩
      · obtain rfl : false = r := by rw [← hr]; simp [q1]
        clear hr
        go_wp2
        go_ret
        exact ⟨rfl, HX.out⟩
    rw [if_neg k3] at hr
    obtain rfl : false = r := hr
    clear HR
    go_wp2
    go_ret
    exact ⟨rfl, HX.out⟩
end Go.Proofs.Ytembknlhocijkaa
