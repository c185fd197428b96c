
/-
  Is it a font? Conditions: those that each theorem names.
-/
import Derived.Test.YtembknlhocijkaaFtE
namespace Go.Proofs.Ytembknlhocijkaa
open Go.RowKit Go.Sp
variable {w : World} {x : FV} {F : Fnt}

def checkE (F : Fnt) : Int := if checkB F then 0 else 40
theorem checkE_no (h : headB F = false ∨ paramsB F = false ∨ F.chars.all (charB F) = false ∨ stepsB F 0 F.steps = false ∨ F.pieces.all (pceB F) = false) : checkE F = 40 := by
  unfold checkE checkB
  rcases h with h | h | h | h | h <;> simp [h]
theorem checkE_yes (h1 : headB F = true) (h2 : paramsB F = true) (h3 : F.chars.all (charB F) = true) (h4 : stepsB F 0 F.steps = true) (h5 : F.pieces.all (pceB F) = true) : checkE F = 0 := by
  unfold checkE checkB
  simp [h1, h2, h3, h4, h5]
theorem stepsB_all (F : Fnt) : ∀ (l : List Stp) (i : Nat), stepsB F i l = true ↔ ∀ k (h : k < l.length), stepB F (i + k) l[k] = true
  | [], i => by simp [stepsB]
  | s :: l, i => by
    simp only [stepsB, Bool.and_eq_true, stepsB_all F l (i + 1), List.length_cons]
    constructor
    · rintro ⟨h1, h2⟩ k hk
      cases k with
      | zero => exact h1
      | succ k => have := h2 k (by omega); rw [show i + (k + 1) = i + 1 + k by omega]; simpa using this
    · intro h
      refine ⟨by have := h 0 (by omega); simpa using this, fun k hk => ?_⟩
      have := h (k + 1) (by omega)
      rw [show i + 1 + k = i + (k + 1) by omega]
      simpa using this
theorem RdL.tail {b off n cap : Nat} {y : Int} {l : List Int} (h : RdL intC 1 w (.slice (some ⟨b, off, none⟩) n cap) (y :: l)) (hc : l.length ≤ cap - 1) :
    RdL intC 1 w (.slice (some ⟨b, off + 1, none⟩) l.length (cap - 1)) l := by
  obtain ⟨⟨h1, h2, a', cap', h3, h4⟩, -⟩ := h
  simp only [Value.slice.injEq] at h3
  obtain ⟨rfl, rfl, rfl⟩ := h3
  refine ⟨⟨flatMap_len int_len l, by simp only [List.length_cons] at h2; omega, _, _, rfl, fun j u hu => ?_⟩, _, _, rfl, hc⟩
  have h5 := h4 (j + 1) u (by rw [List.flatMap_cons, List.getElem?_append_right (by rw [int_len]; omega), int_len]; exact hu)
  obtain ⟨b2, o2, e, hc2⟩ := h5
  simp only [Option.some.injEq, Addr.mk.injEq, and_true] at e
  obtain ⟨rfl, rfl⟩ := e
  exact ⟨b, off + 1, rfl, by rw [show off + 1 + j = off + (j + 1) by omega]; exact hc2⟩
theorem mbool (b : Bool) : b = true ∨ b = false := by cases b <;> simp
set_option maxRecDepth 100000 in
set_option maxHeartbeats 8000000 in
theorem check_any (h : RdF w x F) : Calls Try.prog 15 #[F.val x] w fun e w' => e = .returned (.int .i64 (checkE F)) ∧ Ext w w' := by
  obtain ⟨W1, hW1⟩ : ∃ W1, w.alloc (F.box x) = W1 := ⟨_, rfl⟩
  have HX := (Ext.refl w).alloc (o := F.box x)
  have HB := BoxF.new w F x
  obtain ⟨bf, hbf⟩ : ∃ bf, w.heap.size = bf := ⟨_, rfl⟩
  rw [hW1] at HX HB
  rw [hbf] at HB
  have HF := Lib.hid (h.ext HX)
  replace HX := Lib.hid HX
  replace HB := Lib.hid HB
  obtain ⟨ca, cc, sa, sc, ka, kc, pa, pc, ra, rc, rfl, hrc⟩ := h.vals
  simp only [Fnt.box] at hW1
  have HW1 := Lib.hid hW1
  have HBF := Lib.hid hbf
  have HRC := Lib.hid hrc
  have hlc := h.lc
  have hls := h.ls
  have hlk := h.lk
  have hlp := h.lp
  have hlr := h.lr
  obtain ⟨r, hr⟩ : ∃ r, checkE F = r := ⟨_, rfl⟩
  have HR := Lib.hid hr
  rw [hr]
  clear h hW1 hbf hr hrc
  go_enter Try.func15, Try.ntmps15
  go_upto_region 2 with fail
  rw [HBF.out, HW1.out]
  clear HBF HW1
  have b0 := HB.out.c0
  have b1 := HB.out.c1
  have b2 := HB.out.c2
  have b3 := HB.out.c3
  have b4 := HB.out.c4
  have b5 := HB.out.c5
  have b6 := HB.out.c6
  have b7 := HB.out.c7
  have lq := HB.out.lt
  obtain ⟨r1, hr1⟩ : ∃ r1, h1B F = r1 := ⟨_, rfl⟩
  have HR1 := Lib.hid hr1
  go_cut [4] from 12 to 45 (fun s4 wx => s4 = .bool r1 ∧ wx = W1)
  case first =>
    unfold h1B at hr1
    clear HR1
    by_cases k1 : 1048576 ≤ F.design
    · by_cases k2 : F.design ≤ 2147483647
      · by_cases k3 : 0 ≤ F.first
        · by_cases k4 : F.first ≤ 255
          · by_cases k5 : (F.chars.length : Int) ≤ 256 - F.first
            · by_cases k6 : 0 < F.chars.length
              · have k6i : (0 : Int) < F.chars.length := by omega
                obtain rfl : true = r1 := by rw [← hr1]; simp [k1, k2, k3, k4, k5, k6]
                clear hr1
                go_wp2
                go_meet
                exact ⟨rfl, rfl⟩
              · have k6i : decide ((0 : Int) < F.chars.length) = false := decide_eq_false (by omega)
                have k6j : decide (0 < F.chars.length) = false := decide_eq_false k6
                by_cases k7 : F.first = 0
                · obtain rfl : true = r1 := by rw [← hr1, decide_eq_true k1, decide_eq_true k2, decide_eq_true k3, decide_eq_true k4, decide_eq_true k5, decide_eq_false k6, decide_eq_true k7]; rfl
                  clear hr1 k6
                  go_wp2
                  go_meet
                  exact ⟨rfl, rfl⟩
                · obtain rfl : false = r1 := by rw [← hr1]; simp only [k6, k7, decide_false, Bool.or_false, Bool.and_false]
                  clear hr1 k6
                  go_wp2
                  go_meet
                  exact ⟨by rw [beq_eq_false_iff_ne.2 k7], rfl⟩
            · obtain rfl : false = r1 := by rw [← hr1]; simp only [k5, decide_false, Bool.false_and, Bool.and_false]
              clear hr1
              go_wp2
              go_meet
              exact ⟨rfl, rfl⟩
          · obtain rfl : false = r1 := by rw [← hr1]; simp only [k4, decide_false, Bool.false_and, Bool.and_false]
            clear hr1
            go_wp2
            go_meet
            exact ⟨rfl, rfl⟩
        · obtain rfl : false = r1 := by rw [← hr1]; simp only [k3, decide_false, Bool.false_and, Bool.and_false]
          clear hr1
          go_wp2
          go_meet
          exact ⟨rfl, rfl⟩
      · obtain rfl : false = r1 := by rw [← hr1]; simp only [k2, decide_false, Bool.false_and, Bool.and_false]
        clear hr1
        go_wp2
        go_meet
        exact ⟨rfl, rfl⟩
    · obtain rfl : false = r1 := by rw [← hr1]; simp only [k1, decide_false, Bool.false_and]
      clear hr1
      go_wp2
      go_meet
      exact ⟨rfl, rfl⟩
  case rest =>
    clear hr1
    obtain ⟨rfl, rfl⟩ := hcut
    go_upto_region 3 with fail
    obtain ⟨r2, hr2⟩ : ∃ r2, (r1 && h2B F) = r2 := ⟨_, rfl⟩
    have HR2 := Lib.hid hr2
    go_cut [4] from 46 to 70 (fun s4 wx => s4 = .bool r2 ∧ wx = wc)
    case first =>
      clear HR2
      cases r1 with
      | false =>
        obtain rfl : false = r2 := hr2
        go_wp2
        go_meet
        exact ⟨rfl, rfl⟩
      | true =>
        unfold h2B at hr2
        rw [Bool.true_and] at hr2
        by_cases k1 : F.steps.length ≤ 32510
        · have k1i : (F.steps.length : Int) ≤ 32510 := by omega
          by_cases k2 : F.kerns.length ≤ 32768
          · have k2i : (F.kerns.length : Int) ≤ 32768 := by omega
            by_cases k3 : F.pieces.length ≤ 256
            · have k3i : (F.pieces.length : Int) ≤ 256 := by omega
              by_cases k4 : F.params.length ≤ 255
              · have k4i : (F.params.length : Int) ≤ 255 := by omega
                obtain rfl : true = r2 := by rw [← hr2, decide_eq_true k1, decide_eq_true k2, decide_eq_true k3, decide_eq_true k4]; rfl
                clear hr2
                go_wp2
                go_meet
                exact ⟨rfl, rfl⟩
              · have k4i : ¬ (F.params.length : Int) ≤ 255 := by omega
                obtain rfl : false = r2 := by rw [← hr2, decide_eq_false k4, Bool.and_false, Bool.and_false, Bool.and_false]
                clear hr2
                go_wp2
                go_meet
                exact ⟨rfl, rfl⟩
            · have k3i : ¬ (F.pieces.length : Int) ≤ 256 := by omega
              obtain rfl : false = r2 := by rw [← hr2, decide_eq_false k3, Bool.false_and, Bool.and_false, Bool.and_false]
              clear hr2
              go_wp2
              go_meet
              exact ⟨rfl, rfl⟩
          · have k2i : ¬ (F.kerns.length : Int) ≤ 32768 := by omega
            obtain rfl : false = r2 := by rw [← hr2, decide_eq_false k2, Bool.false_and, Bool.and_false]
            clear hr2
            go_wp2
            go_meet
            exact ⟨rfl, rfl⟩
        · have k1i : ¬ (F.steps.length : Int) ≤ 32510 := by omega
          obtain rfl : false = r2 := by rw [← hr2, decide_eq_false k1, Bool.false_and]
          clear hr2
          go_wp2
          go_meet
          exact ⟨rfl, rfl⟩
    case rest =>
      clear hr2
      obtain ⟨rfl, rfl⟩ := hcut
      go_upto_region 4 with fail
      obtain ⟨r3, hr3⟩ : ∃ r3, (r2 && h3B F) = r3 := ⟨_, rfl⟩
      have HR3 := Lib.hid hr3
      go_cut [4] from 71 to 98 (fun s4 wx => s4 = .bool r3 ∧ wx = wc)
      case first =>
        clear HR3
        cases r2 with
        | false =>
          obtain rfl : false = r3 := hr3
          go_wp2
          go_meet
          exact ⟨rfl, rfl⟩
        | true =>
          rw [Bool.true_and] at hr3
          unfold h3B at hr3
          have HFX := Lib.hid (fixes_any HF.out.rk)
          obtain ⟨z, hz⟩ : ∃ z, fixesB F.kerns = z := ⟨_, rfl⟩
          rw [hz] at hr3 HFX
          clear hz
          by_cases k0 : F.chars.length = 0
          · rw [decide_eq_true k0, Bool.true_or, Bool.true_and] at hr3
            subst hr3
            have k0i : ((F.chars.length : Int) == 0) = true := by rw [k0]; rfl
            clear k0
            go_wp2_with fail
            with_reducible refine Calls.mono HFX.out ?_
            rintro e w9 ⟨rfl, rfl⟩
            go_wp2
            go_meet
            exact ⟨rfl, rfl⟩
          · rw [decide_eq_false k0, Bool.false_or] at hr3
            obtain ⟨b, off, rfl, -, -, -, -, c4, -, lb⟩ := HF.out.chr rfl (show 0 < F.chars.length by omega)
            obtain ⟨b', off', e', -, -, -, -, d4, -, -⟩ := HF.out.chr rfl (show F.chars.length - 1 < F.chars.length by omega)
            simp only [Option.some.injEq, Addr.mk.injEq, and_true] at e'
            obtain ⟨rfl, rfl⟩ := e'
            rw [Nat.zero_mul, Nat.add_zero] at c4
            have k0i : ((F.chars.length : Int) == 0) = false := by rw [beq_eq_false_iff_ne]; omega
            have k0j : (0 : Int) < F.chars.length := by omega
            have kn : ((F.chars.length : Int) - 1).toNat = F.chars.length - 1 := by omega
            generalize (metM F 0).tag = t0 at *
            generalize (metM F (F.chars.length - 1)).tag = t1 at *
            obtain ⟨m, hm⟩ : ∃ m, F.chars.length - 1 = m := ⟨_, rfl⟩
            rw [hm] at d4 kn
            have hm2 : (F.chars.length : Int) - 1 = m := by omega
            clear k0 hm kn
            by_cases j0 : 0 ≤ t0
            · by_cases j1 : 0 ≤ t1
              · rw [decide_eq_true j0, decide_eq_true j1, Bool.true_and, Bool.true_and] at hr3
                subst hr3
                go_wp2_with fail
                with_reducible refine Calls.mono HFX.out ?_
                rintro e w9 ⟨rfl, rfl⟩
                go_wp2
                go_meet
                exact ⟨rfl, rfl⟩
              · rw [decide_eq_false j1, Bool.and_false, Bool.false_and] at hr3
                subst hr3
                go_wp2
                go_meet
                exact ⟨rfl, rfl⟩
            · rw [decide_eq_false j0, Bool.false_and, Bool.false_and] at hr3
              subst hr3
              go_wp2
              go_meet
              exact ⟨rfl, rfl⟩
      case rest =>
        clear hr3
        obtain ⟨rfl, rfl⟩ := hcut
        have hhead : headB F = r3 := by unfold headB; rw [HR1.out, HR2.out, HR3.out]
        have HH := Lib.hid hhead
        clear hhead HR3 HR2
        cases r3 with
        | false =>
          have hr := HR.out
          rw [checkE_no (.inl HH.out)] at hr
          subst hr
          go_wp2
          go_ret
          exact ⟨rfl, HX.out⟩
        | true =>
          have hf1 : h1B F = true := by have := HH.out; unfold headB at this; simp only [Bool.and_eq_true] at this; exact this.1.1
          unfold h1B at hf1
          simp only [Bool.and_eq_true, decide_eq_true_eq] at hf1
          obtain ⟨-, -, h0, h1, h2, -⟩ := hf1
          have hcl : F.chars.length ≤ 256 := by omega
          clear h2 HR1
          go_upto_region 7 with fail
          obtain ⟨r4, hr4⟩ : ∃ r4, paramsB F = r4 := ⟨_, rfl⟩
          have HR4 := Lib.hid hr4
          go_cut [125] from 101 to 124 (fun s wx => s = .bool (!r4) ∧ wx = wc)
          case first =>
            clear HR4
            have hrd := HF.out.rr
            simp only at hrd
            have hle := HRC.out
            unfold paramsB at hr4
            obtain ⟨L, hL⟩ : ∃ L, F.params = L := ⟨_, rfl⟩
            rw [hL] at hr4 hrd hle
            cases L with
            | nil =>
              simp only at hr4
              subst hr4
              have hn : ((F.params.length : Int) > 0) = False := by rw [hL]; simp
              have hn2 : decide ((0 : Int) < (F.params.length : Int)) = false := by rw [hL]; simp
              have hn3 : decide ((0 : Nat) < F.params.length) = false := by rw [hL]; simp
              clear hL hrd hle
              go_wp2
              go_meet
              exact ⟨rfl, rfl⟩
            | cons y l =>
              simp only at hr4
              have hn : (0 : Int) < (F.params.length : Int) := by rw [hL, List.length_cons]; omega
              obtain ⟨b, off, rfl, c0, lb⟩ := hrd.int (k := 0) rfl (by simp)
              simp only [List.getElem_cons_zero, Nat.add_zero] at c0
              have hn1 : F.params.length = l.length + 1 := by rw [hL]; rfl
              by_cases j0 : -2147483648 ≤ y
              · by_cases j1 : y ≤ 2147483647
                · rw [decide_eq_true j0, decide_eq_true j1, Bool.true_and, Bool.true_and] at hr4
                  by_cases hrc1 : rc = 1
                  · subst hrc1
                    obtain rfl : l = [] := List.eq_nil_of_length_eq_zero (by simp only [List.length_cons] at hle; omega)
                    have hz : F.params.length - 1 = 0 := by rw [hn1]; rfl
                    have HFX := Lib.hid (show Calls Try.prog 30 #[.slice (some ⟨b, off, none⟩) (F.params.length - 1) 0] wc _ by rw [hz]; exact fixes_any (RdL.empty wc _ _))
                    subst hr4
                    clear hL hrd hle hn1 hz
                    go_wp2_with fail
                    with_reducible refine Calls.mono HFX.out ?_
                    rintro e w9 ⟨rfl, rfl⟩
                    go_wp2
                    go_meet
                    exact ⟨by rw [decide_eq_false (show ¬ y < -2147483648 by omega), decide_eq_false (show ¬ 2147483647 < y by omega)]; rfl, rfl⟩
                  · have hrc2 : (rc = 1) = False := by simp [hrc1]
                    have hrc3 : ((rc : Int) = 1) = False := by simp; omega
                    have HFX := Lib.hid (show Calls Try.prog 30 #[.slice (some ⟨b, off + 1, none⟩) (F.params.length - 1) (rc - 1)] wc _ by
                      rw [show F.params.length - 1 = l.length by rw [hn1]; rfl]
                      exact fixes_any (RdL.tail hrd (by simp only [List.length_cons] at hle; omega)))
                    rw [hr4] at HFX
                    clear hL hrd hle hn1 hr4
                    go_wp2_with fail
                    with_reducible refine Calls.mono HFX.out ?_
                    rintro e w9 ⟨rfl, rfl⟩
                    go_wp2
                    go_meet
                    exact ⟨by rw [decide_eq_false (show ¬ y < -2147483648 by omega), decide_eq_false (show ¬ 2147483647 < y by omega)]; rfl, rfl⟩
                · rw [decide_eq_false j1, Bool.and_false, Bool.false_and] at hr4
                  subst hr4
                  clear hL hrd hle hn1
                  go_wp2
                  go_meet
                  exact ⟨rfl, rfl⟩
              · rw [decide_eq_false j0, Bool.false_and, Bool.false_and] at hr4
                subst hr4
                clear hL hrd hle hn1
                go_wp2
                go_meet
                exact ⟨rfl, rfl⟩
          case rest =>
            clear hr4
            obtain ⟨rfl, rfl⟩ := hcut
            cases r4 with
            | false =>
              have hr := HR.out
              rw [checkE_no (.inr (.inl HR4.out))] at hr
              subst hr
              go_wp2
              go_ret
              exact ⟨rfl, HX.out⟩
            | true =>
            go_wp2_with fail
            go_loopg [129] F.chars.length (fun gg s wx => ∃ k : Nat, k ≤ F.chars.length ∧ gg = F.chars.length - k ∧ s = .int .i64 k ∧ (∀ j, j < k → charB F (metM F j) = true) ∧ Ext wc wx)
            case atStart => exact ⟨0, by omega, by omega, rfl, fun j hj => (by omega), Ext.refl _⟩
            case round =>
              obtain ⟨k, hk, hg, rfl, ht, hx⟩ := hrel
              have HT := Lib.hid ht
              have HG := Lib.hid hg
              have HX2 := Lib.hid (HX.out.trans hx)
              have HX3 := Lib.hid hx
              have HB2 := Lib.hid (HB.out.ext hx)
              have HF2 := Lib.hid (HF.out.ext hx)
              clear hx ht hg HX HB HF b0 b1 b2 b3 b4 b5 b6 b7 lq
              have b0 := HB2.out.c0
              have b1 := HB2.out.c1
              have b2 := HB2.out.c2
              have b3 := HB2.out.c3
              have b4 := HB2.out.c4
              have b5 := HB2.out.c5
              have b6 := HB2.out.c6
              have b7 := HB2.out.c7
              have lq := HB2.out.lt
              by_cases hkl : k < F.chars.length
              · have hki : (k : Int) < F.chars.length := by omega
                have HC := Lib.hid (character_any HF2.out k hkl h0 h1 hcl)
                obtain ⟨z, hz⟩ : ∃ z, charB F (metM F k) = z := ⟨_, rfl⟩
                rw [hz] at HC
                have HZ := Lib.hid hz
                clear hz
                go_wp2_with fail
                with_reducible refine Calls.mono HC.out ?_
                rintro e w2 ⟨rfl, hx⟩
                have HX4 := Lib.hid (HX2.out.trans hx)
                have HX5 := Lib.hid (HX3.out.trans hx)
                have HB4 := Lib.hid (HB2.out.ext hx)
                have HF4 := Lib.hid (HF2.out.ext hx)
                clear hx HC HX2 HX3 HB2 HF2 b0 b1 b2 b3 b4 b5 b6 b7 lq
                cases z with
                | false =>
                  have hr := HR.out
                  rw [checkE_no (.inr (.inr (.inl (by rw [List.all_eq_false]; exact ⟨metM F k, metM_mem hkl, by rw [HZ.out]; simp⟩))))] at hr
                  subst hr
                  go_wp2
                  go_ret
                  exact ⟨rfl, HX4.out⟩
                | true =>
                  go_wp2
                  go_roundg (F.chars.length - (k + 1))
                  case measure => have := HG.out; omega
                  case rel => exact ⟨k + 1, by omega, rfl, by go_num, fun j hj => by rcases Nat.lt_succ_iff_lt_or_eq.1 hj with h | h; exact HT.out j h; rw [h]; exact HZ.out, HX5.out⟩
              · obtain rfl : k = F.chars.length := by omega
                have HC1 := Lib.hid (show F.chars.all (charB F) = true by
                  rw [List.all_eq_true]
                  intro m hm
                  obtain ⟨j, hj, rfl⟩ := List.getElem_of_mem hm
                  rw [metM_get hj]
                  exact HT.out j hj)
                clear hkl HT HG hk
                have HX := HX2
                have HB := HB2
                have HF := HF2
                clear HX2 HB2 HF2 HX3
                go_wp2_with fail
                go_loopg [140] F.steps.length (fun gg s wx => ∃ k : Nat, k ≤ F.steps.length ∧ gg = F.steps.length - k ∧ s = .int .i64 k ∧ (∀ j, j < k → stepB F j (stpM F j) = true) ∧ Ext wr wx)
                case atStart => exact ⟨0, by omega, by omega, rfl, fun j hj => (by omega), Ext.refl _⟩
                case round =>
                  obtain ⟨k, hk, hg, rfl, ht, hx⟩ := hrel
                  have HT := Lib.hid ht
                  have HG := Lib.hid hg
                  have HX2 := Lib.hid (HX.out.trans hx)
                  have HX3 := Lib.hid hx
                  have HB2 := Lib.hid (HB.out.ext hx)
                  have HF2 := Lib.hid (HF.out.ext hx)
                  clear hx ht hg HX HB HF b0 b1 b2 b3 b4 b5 b6 b7 lq
                  have b0 := HB2.out.c0
                  have b1 := HB2.out.c1
                  have b2 := HB2.out.c2
                  have b3 := HB2.out.c3
                  have b4 := HB2.out.c4
                  have b5 := HB2.out.c5
                  have b6 := HB2.out.c6
                  have b7 := HB2.out.c7
                  have lq := HB2.out.lt
                  by_cases hkl : k < F.steps.length
                  · have hki : (k : Int) < F.steps.length := by omega
                    have HC := Lib.hid (step_any HF2.out k hkl h0 h1)
                    obtain ⟨z, hz⟩ : ∃ z, stepB F k (stpM F k) = z := ⟨_, rfl⟩
                    rw [hz] at HC
                    have HZ := Lib.hid hz
                    clear hz
                    go_wp2_with fail
                    with_reducible refine Calls.mono HC.out ?_
                    rintro e w2 ⟨rfl, hx⟩
                    have HX4 := Lib.hid (HX2.out.trans hx)
                    have HX5 := Lib.hid (HX3.out.trans hx)
                    have HB4 := Lib.hid (HB2.out.ext hx)
                    have HF4 := Lib.hid (HF2.out.ext hx)
                    clear hx HC HX2 HX3 HB2 HF2 b0 b1 b2 b3 b4 b5 b6 b7 lq
                    cases z with
                    | false =>
                      have hr := HR.out
                      rw [checkE_no (.inr (.inr (.inr (.inl (by
                        rw [Bool.eq_false_iff, ne_eq, stepsB_all]
                        intro h
                        have := h k hkl
                        rw [Nat.zero_add, stpM_get hkl, HZ.out] at this
                        cases this)))))] at hr
                      subst hr
                      go_wp2
                      go_ret
                      exact ⟨rfl, HX4.out⟩
                    | true =>
                      go_wp2
                      go_roundg (F.steps.length - (k + 1))
                      case measure => have := HG.out; omega
                      case rel => exact ⟨k + 1, by omega, rfl, by go_num, fun j hj => by rcases Nat.lt_succ_iff_lt_or_eq.1 hj with h | h; exact HT.out j h; rw [h]; exact HZ.out, HX5.out⟩
                  · obtain rfl : k = F.steps.length := by omega
                    have HC2 := Lib.hid (show stepsB F 0 F.steps = true by
                      rw [stepsB_all]
                      intro j hj
                      rw [Nat.zero_add, stpM_get hj]
                      exact HT.out j hj)
                    clear hkl HT HG hk
                    have HX := HX2
                    have HB := HB2
                    have HF := HF2
                    clear HX2 HB2 HF2 HX3
                    go_wp2_with fail
                    go_loopg [151] F.pieces.length (fun gg s wx => ∃ k : Nat, k ≤ F.pieces.length ∧ gg = F.pieces.length - k ∧ s = .int .i64 k ∧ (∀ j, j < k → pceB F (pceM F j) = true) ∧ Ext w wx ∧ RdF wx ⟨.slice ca F.chars.length cc, .slice sa F.steps.length sc, .slice ka F.kerns.length kc, .slice pa F.pieces.length pc, .slice ra F.params.length rc⟩ F ∧ BoxF wx bf F ⟨.slice ca F.chars.length cc, .slice sa F.steps.length sc, .slice ka F.kerns.length kc, .slice pa F.pieces.length pc, .slice ra F.params.length rc⟩)
                    case atStart => exact ⟨0, by omega, by omega, rfl, fun j hj => (by omega), HX.out, HF.out, HB.out⟩
                    case round =>
                      obtain ⟨k, hk, hg, rfl, ht, hx, hf, hb⟩ := hrel
                      have HT := Lib.hid ht
                      have HG := Lib.hid hg
                      have HX2 := Lib.hid hx
                      have HB2 := Lib.hid hb
                      have HF2 := Lib.hid hf
                      clear hx ht hg HX HB HF b0 b1 b2 b3 b4 b5 b6 b7 lq hb hf
                      by_cases hkl : k < F.pieces.length
                      · have hki : (k : Int) < F.pieces.length := by omega
                        obtain ⟨b, off, rfl, c0, c1, c2, c3, lb⟩ := HF2.out.pce rfl hkl
                        obtain ⟨z, hz⟩ : ∃ z, pceB F (pceM F k) = z := ⟨_, rfl⟩
                        have HZ := Lib.hid hz
                        have hm : pceM F k ∈ F.pieces := by rw [← pceM_get hkl]; exact List.getElem_mem hkl
                        have HMM := Lib.hid hm
                        obtain ⟨p, hp⟩ : ∃ p, pceM F k = p := ⟨_, rfl⟩
                        rw [hp] at c0 c1 c2 c3 hz
                        have hE := (Ext.refl wr).alloc (o := .cells #[.int .u8 p.a.toNat, .int .u8 p.b.toNat, .int .u8 p.c.toNat, .int .u8 p.d.toNat] 65)
                        have hM := (Sat.start wr).alloc (.cells #[.int .u8 p.a.toNat, .int .u8 p.b.toNat, .int .u8 p.c.toNat, .int .u8 p.d.toNat] 65)
                        obtain ⟨W3, hW3⟩ : ∃ W3, wr.alloc (.cells #[.int .u8 p.a.toNat, .int .u8 p.b.toNat, .int .u8 p.c.toNat, .int .u8 p.d.toNat] 65) = W3 := ⟨_, rfl⟩
                        obtain ⟨b8, hb8⟩ : ∃ b8, wr.heap.size = b8 := ⟨_, rfl⟩
                        rw [hW3] at hE hM
                        rw [hb8] at hM
                        have HX3 := Lib.hid (HX2.out.trans hE)
                        have HB3 := Lib.hid (HB2.out.ext hE)
                        have HF3 := Lib.hid (HF2.out.ext hE)
                        have HC := Lib.hid (pieces_any HF3.out p h0 h1)
                        rw [hz] at HC
                        have HM := Lib.hid hM
                        have HW3 := Lib.hid hW3
                        have HB8 := Lib.hid hb8
                        clear hz hm hp hE hM hW3 hb8
                        have b0 := HB2.out.c6
                        have lq := HB2.out.lt
                        go_upto_region 24 with fail
                        rw [HB8.out, HW3.out]
                        clear b0 lq c0 c1 c2 c3 lb HB8 HW3 HB2 HF2 HX2
                        have b0 := HB3.out.c0
                        have b1 := HB3.out.c1
                        have b2 := HB3.out.c2
                        have b3 := HB3.out.c3
                        have b4 := HB3.out.c4
                        have b5 := HB3.out.c5
                        have b6 := HB3.out.c6
                        have b7 := HB3.out.c7
                        have lq := HB3.out.lt
                        have d0 := HM.out.cell (i := 0) rfl
                        have d1 := HM.out.cell (i := 1) rfl
                        have d2 := HM.out.cell (i := 2) rfl
                        have d3 := HM.out.cell (i := 3) rfl
                        have ld := HM.out.lt
                        clear HM
                        obtain ⟨p1, p2, p3, p4⟩ := p
                        go_wp2_with fail
                        with_reducible refine Calls.mono HC.out ?_
                        rintro e w2 ⟨rfl, hx⟩
                        have HX4 := Lib.hid (HX3.out.trans hx)
                        have HB4 := Lib.hid (HB3.out.ext hx)
                        have HF4 := Lib.hid (HF3.out.ext hx)
                        clear hx HC HX3 HB3 HF3 b0 b1 b2 b3 b4 b5 b6 b7 lq d0 d1 d2 d3 ld
                        cases z with
                        | false =>
                          have hr := HR.out
                          rw [checkE_no (.inr (.inr (.inr (.inr (by rw [List.all_eq_false]; exact ⟨pceM F k, HMM.out, by rw [HZ.out]; simp⟩)))))] at hr
                          subst hr
                          go_wp2
                          go_ret
                          exact ⟨rfl, HX4.out⟩
                        | true =>
                          go_wp2
                          go_roundg (F.pieces.length - (k + 1))
                          case measure => have := HG.out; omega
                          case rel => exact ⟨k + 1, by omega, rfl, by go_num, fun j hj => by rcases Nat.lt_succ_iff_lt_or_eq.1 hj with h | h; exact HT.out j h; rw [h]; exact HZ.out, HX4.out, HF4.out, HB4.out⟩
                      · obtain rfl : k = F.pieces.length := by omega
                        have hr := HR.out
                        rw [checkE_yes HH.out HR4.out HC1.out HC2.out (by
                          rw [List.all_eq_true]
                          intro m hm
                          obtain ⟨j, hj, rfl⟩ := List.getElem_of_mem hm
                          rw [pceM_get hj]
                          exact HT.out j hj)] at hr
                        subst hr
                        clear hkl
                        go_wp2
                        go_ret
                        exact ⟨rfl, HX2.out⟩
end Go.Proofs.Ytembknlhocijkaa
