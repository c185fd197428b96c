
/-
  Check of the reference; Count and Same, both. Conditions: those that each theorem names.
-/
import Derived.Test.YtlfekbmcegbhoaaDoorMacD
namespace Go.Proofs.YtlfekbmcegbhoaaDoor
open Go.RowKit Go.Sp
variable {W w : World} {F : HProp}

theorem placeN_no {t : Tok} (h : placeB t = false) : placeN t = 0 := by simp [placeN, h]
theorem placeN_yes {t : Tok} (h : placeB t = true) : placeN t = t.chr.toNat ∧ 1 ≤ t.chr.toNat ∧ t.cat = 17 ∧ rightB t = false := by
  simp only [placeB, Bool.and_eq_true, beq_iff_eq, decide_eq_true_eq] at h
  obtain ⟨⟨⟨h1, h2⟩, h3⟩, h4⟩ := h
  exact ⟨by simp [placeN, placeB, h1, h2, h3, h4], by omega, h1, by simp [rightB, h1]⟩

theorem chkP_right {P : List Tok} : ∀ {n m : Nat} {t : Tok}, chkP n P = some m → t ∈ P → t.cat = 1 → rightB t = true := by
  induction P with
  | nil => intro n m t _ h; cases h
  | cons x P ih =>
    intro n m t h ht hc
    rw [chkP] at h
    rcases List.mem_cons.1 ht with rfl | ht
    · cases hp : placeB t
      · rw [hp] at h
        cases hr : rightB t
        · rw [hr] at h; simp at h
        · rfl
      · have := (placeN_yes hp).2.2.1; omega
    · split at h
      · split at h
        · cases h
        · exact ih h ht hc
      · split at h
        · cases h
        · split at h
          · cases h
          · split at h
            · cases h
            · exact ih h ht hc

/-- the tail of the reference's Check -/
def tailR (n : Nat) (C : List Tok) : Bool := C.all (bodyB n) && bal C

theorem check_plain {P B : List Tok} {n : Nat} (hP : P.length ≤ 20000) (hB : B.length ≤ 20000) (h : chkP 0 P = some n) (hl : ∀ t, P.getLast? = some t → t.cat ≠ 1) : check P B = tailR n B := by
  have : tailB P B = bal B := by
    unfold tailB
    cases h2 : P.getLast? with
    | none => rfl
    | some t => simp [hl t h2]
  simp [check, hP, hB, h, this, tailR]

theorem check_brace {P B : List Tok} {n : Nat} {t u : Tok} (hP : P.length ≤ 20000) (hB : B.length ≤ 20000) (h : chkP 0 P = some n) (hl : P.getLast? = some t) (ht : t.cat = 1) (hu : B.getLast? = some u) :
    check P B = (decide (u = t) && tailR n B.dropLast) := by
  have hr := chkP_right h (List.mem_of_getLast? hl) ht
  have hb : B = B.dropLast ++ [u] := by
    obtain ⟨ys, rfl⟩ := List.getLast?_eq_some_iff.1 hu
    simp
  have hall : B.all (bodyB n) = (B.dropLast.all (bodyB n) && bodyB n u) := by
    conv => lhs; rw [hb]
    simp
  by_cases hut : u = t
  · subst hut
    simp [check, hP, hB, h, hall, tailR, tailB, hl, ht, hu, bodyB, hr]
  · simp [check, hP, hB, h, tailB, hl, ht, hu, hut]

theorem bodyB_def (n : Nat) (t : Tok) : bodyB n t = !(!rightB t && (((placeN t : Nat) : Int) == 0 || decide (((placeN t : Nat) : Int) > n))) := by
  cases hr : rightB t
  · cases hp : placeB t
    · simp [bodyB, hr, hp, placeN]
    · obtain ⟨h1, h2, _, _⟩ := placeN_yes hp
      have h3 : ¬ t.chr.toNat = 0 := by omega
      simp [bodyB, hr, hp, h1]
      rw [Bool.eq_iff_iff]; simp; omega
  · simp [bodyB, hr]


set_option maxRecDepth 100000 in
set_option maxHeartbeats 4000000 in
theorem checkR_any (P B : List Tok) (vp vb : Value) (long : Bool) (w : World) (hp : RdT w vp P) (hb : RdT w vb B) (hnP : P.length ≤ 4000000000) (hnB : B.length ≤ 4000000000) :
    Calls Tryd.prog 32 #[.agg #[vp, vb, .bool long]] w fun e w' => e = .returned (.int .i64 (checkE P B)) ∧ Ext w w' := by
  obtain ⟨np, hnp⟩ : ∃ np, P.length = np := ⟨_, rfl⟩
  obtain ⟨nb, hnb⟩ : ∃ nb, B.length = nb := ⟨_, rfl⟩
  have HP := Lib.hid hp
  have HB := Lib.hid hb
  obtain ⟨ap, cp, hvp, hcp⟩ := hp.capd
  obtain ⟨ab, cb, hvb, hcb⟩ := hb.capd
  rw [hnp] at hvp hnP hcp
  rw [hnb] at hvb hnB hcb
  subst hvp hvb
  have NP := Lib.hid hnp
  have NB := Lib.hid hnb
  clear hp hb hnp hnb
  by_cases hbig : np ≤ 20000 ∧ nb ≤ 20000
  · obtain ⟨hb1, hb2⟩ := hbig
    have hb1' : ((np : Int) ≤ 20000) := by omega
    have hb2' : ((nb : Int) ≤ 20000) := by omega
    have h1 := (Sat.start w).alloc (.cells #[.slice ap np cp, .slice ab nb cb, .bool long] 45)
    go_enter Tryd.func32, Tryd.ntmps32
    go_wp2
    generalize hbm : w.heap.size = bm at *
    clear hbm
    go_loopw [3, 4, 5] (fun pl i tk wr => ∃ k n : Nat, k ≤ np ∧ n ≤ k ∧ pl = .int .i64 n ∧ i = .int .i64 k ∧ chkP n (P.drop k) = chkP 0 P ∧ Sat w (pts bm (.cells #[.slice ap np cp, .slice ab nb cb, .bool long] 45 (0, 0)) * own w) wr) (fun _ i _ _ => np - (intOf i).toNat)
    case atStart => exact ⟨0, 0, by omega, by omega, rfl, rfl, rfl, h1⟩
    case round =>
      obtain ⟨k, n, hk, hn, rfl, rfl, ha, hx⟩ := hrel
      have HA := Lib.hid ha
      have HX := Lib.hid hx
      clear ha hx
      have m0 := HX.out.cell (i := 0) rfl
      have m1 := HX.out.cell (i := 1) rfl
      have hbm := HX.out.lt
      by_cases hlt : k < np
      · obtain ⟨b, off, rfl, ⟨c0, c1, c2⟩, hb⟩ := (HP.out.ext HX.out.extR).at (i := k) (by rw [NP.out]; exact hlt)
        have HR := Lib.hid (chkP_drop P n k np NP.out (by rw [NP.out]; exact hlt))
        generalize P[k]'(by rw [NP.out]; exact hlt) = t at *
        have lt1 : (k : Int) < (np : Int) := by omega
        have hby : (t.chr.toNat : Int) < 256 := by have := t.chr.toNat_lt; omega
        by_cases hA : placeB t = true ∧ t.chr.toNat = n + 1
        · obtain ⟨hpl, hn1⟩ := hA
          have HR2 := Lib.hid (show chkP n (P.drop k) = chkP (n + 1) (P.drop (k + 1)) by rw [HR.out, if_pos hpl, if_neg (by simp; omega)])
          have e1 : (((placeN t : Nat) : Int) == (n : Int) + 1) = true := by rw [(placeN_yes hpl).1]; simp; omega
          clear hpl hn1
          go_wp2_with first | (go_at_call 43; refine (placeR_any _ _).mono ?_; rintro e w' ⟨rfl, rfl⟩)
          go_roundw
          case rel => exact ⟨k + 1, n + 1, by omega, by omega, by go_num, by go_num, by rw [← HA.out, HR2.out], HX.out.allocD.allocD⟩
          case measure => simp [intOf]; omega
        · have e1 : (((placeN t : Nat) : Int) == (n : Int) + 1) = false := by
            cases hpl : placeB t
            · rw [placeN_no hpl]; simp; omega
            · rw [(placeN_yes hpl).1]; simp; intro h; exact hA ⟨hpl, by omega⟩
          have HR2 := Lib.hid (show chkP n (P.drop k) = if !rightB t || t.cat == 2 || (t.cat == 1 && decide ((k : Int) < (np : Int) - 1)) then none else chkP n (P.drop (k + 1)) by
            rw [HR.out]
            have e2 : decide ((k : Int) < (np : Int) - 1) = ((k : Int) != (np : Int) - 1) := by rw [Bool.eq_iff_iff]; simp; omega
            cases hpl : placeB t
            · rw [e2]
              cases rightB t <;> cases t.cat == 2 <;> cases t.cat == 1 <;> cases (k : Int) != (np : Int) - 1 <;> simp
            · have := (placeN_yes hpl).2.2.2
              rw [this, if_pos rfl, if_pos]
              · rfl
              · simp; intro h; exact hA ⟨hpl, by omega⟩)
          clear hA
          cases hr : rightB t
          · rw [hr] at HR2
            go_wp2_with first | (go_at_call 43; refine (placeR_any _ _).mono ?_; rintro e w' ⟨rfl, rfl⟩) | (go_at_call 44; refine (rightR_any _ _).mono ?_; rintro e w' ⟨rfl, rfl⟩)
            go_ret
            exact ⟨by rw [checkE_no (check_none (by rw [← HA.out, HR2.out]; rfl))]; rfl, HX.out.extR.alloc.alloc.alloc⟩
          · rw [hr] at HR2
            cases h2 : t.cat == 2
            · rw [h2] at HR2
              cases h1 : t.cat == 1
              · rw [h1] at HR2
                go_wp2_with first | (go_at_call 43; refine (placeR_any _ _).mono ?_; rintro e w' ⟨rfl, rfl⟩) | (go_at_call 44; refine (rightR_any _ _).mono ?_; rintro e w' ⟨rfl, rfl⟩) | (go_at_call 46; refine (open_any _ _).mono ?_; rintro e w' ⟨rfl, rfl⟩) | (go_at_call 45; refine (shut_any _ _).mono ?_; rintro e w' ⟨rfl, rfl⟩)
                go_roundw
                case rel => exact ⟨k + 1, n, by omega, by omega, rfl, by go_num, by rw [← HA.out, HR2.out]; rfl, HX.out.allocD.allocD.allocD.allocD.allocD⟩
                case measure => simp [intOf]; omega
              · rw [h1] at HR2
                have m5 := HX.out.allocD (o := t.box) |>.allocD (o := t.box) |>.allocD (o := t.box) |>.allocD (o := t.box) |>.allocD (o := t.box) |>.cell (i := 0) rfl
                by_cases h4 : (k : Int) < (np : Int) - 1
                · go_wp2_with first | (go_at_call 43; refine (placeR_any _ _).mono ?_; rintro e w' ⟨rfl, rfl⟩) | (go_at_call 44; refine (rightR_any _ _).mono ?_; rintro e w' ⟨rfl, rfl⟩) | (go_at_call 46; refine (open_any _ _).mono ?_; rintro e w' ⟨rfl, rfl⟩) | (go_at_call 45; refine (shut_any _ _).mono ?_; rintro e w' ⟨rfl, rfl⟩)
                  have e4 : decide ((k : Int) < (np : Int) - 1) = true := by simpa using h4
                  rw [e4] at HR2
                  go_ret
                  exact ⟨by rw [checkE_no (check_none (by rw [← HA.out, HR2.out]; rfl))]; rfl, HX.out.extR.alloc.alloc.alloc.alloc.alloc⟩
                · go_wp2_with first | (go_at_call 43; refine (placeR_any _ _).mono ?_; rintro e w' ⟨rfl, rfl⟩) | (go_at_call 44; refine (rightR_any _ _).mono ?_; rintro e w' ⟨rfl, rfl⟩) | (go_at_call 46; refine (open_any _ _).mono ?_; rintro e w' ⟨rfl, rfl⟩) | (go_at_call 45; refine (shut_any _ _).mono ?_; rintro e w' ⟨rfl, rfl⟩)
                  have e4 : decide ((k : Int) < (np : Int) - 1) = false := by simpa using h4
                  rw [e4] at HR2
                  go_roundw
                  case rel => exact ⟨k + 1, n, by omega, by omega, rfl, by go_num, by rw [← HA.out, HR2.out]; rfl, HX.out.allocD.allocD.allocD.allocD.allocD⟩
                  case measure => simp [intOf]; omega
            · rw [h2] at HR2
              go_wp2_with first | (go_at_call 43; refine (placeR_any _ _).mono ?_; rintro e w' ⟨rfl, rfl⟩) | (go_at_call 44; refine (rightR_any _ _).mono ?_; rintro e w' ⟨rfl, rfl⟩) | (go_at_call 45; refine (shut_any _ _).mono ?_; rintro e w' ⟨rfl, rfl⟩)
              go_ret
              exact ⟨by rw [checkE_no (check_none (by rw [← HA.out, HR2.out]; rfl))]; rfl, HX.out.extR.alloc.alloc.alloc.alloc⟩
      · obtain rfl : k = np := by omega
        have HC := Lib.hid (show chkP 0 P = some n by rw [← HA.out, List.drop_of_length_le (by rw [NP.out]; omega)]; rfl)
        obtain ⟨wo, rfl⟩ : ∃ wo : World, wo = wr := ⟨_, rfl⟩
        have hx := HX.out.extR
        by_cases hk0 : k = 0
        · have hl0 : ∀ t, P.getLast? = some t → t.cat ≠ 1 := by
            have : P = [] := List.eq_nil_of_length_eq_zero (by rw [NP.out]; exact hk0)
            simp [this]
          have HCT := Lib.hid (check_plain (by rw [NP.out]; omega) (by rw [NB.out]; omega) HC.out hl0)
          have NC := NB
          have hk1 : ¬ (0 < (k : Int)) := by omega
          clear hk0 hl0
          go_wp2
          go_loopw [8, 9] (fun i p wr => ∃ j : Nat, j ≤ nb ∧ i = .int .i64 j ∧ (B.drop j).all (bodyB n) = B.all (bodyB n) ∧ Ext w wr) (fun i _ _ => nb - (intOf i).toNat)
          case atStart => exact ⟨0, by omega, rfl, rfl, hx⟩
          case round =>
            obtain ⟨j, hj, rfl, ha, hx⟩ := hrel
            have HA2 := Lib.hid ha
            have HX2 := Lib.hid hx
            clear ha hx
            by_cases hlt2 : j < nb
            · obtain ⟨b, off, hab, ⟨c0, c1, c2⟩, hb⟩ := (HB.out.ext HX2.out).at (i := j) (by rw [NC.out]; exact hlt2)
              cases hab
              have HR := Lib.hid (show (B.drop j).all (bodyB n) = (bodyB n (B[j]'(by rw [NC.out]; exact hlt2)) && (B.drop (j + 1)).all (bodyB n)) by rw [List.drop_eq_getElem_cons (by rw [NC.out]; exact hlt2), List.all_cons])
              generalize B[j]'(by rw [NC.out]; exact hlt2) = t at *
              have HT := Lib.hid (bodyB_def n t)
              have lt1 : (j : Int) < (nb : Int) := by omega
              go_wp2_with first | (go_at_call 43; refine (placeR_any _ _).mono ?_; rintro e w' ⟨rfl, rfl⟩) | (go_at_call 44; refine (rightR_any _ _).mono ?_; rintro e w' ⟨rfl, rfl⟩)
              all_goals first
                | (go_roundw
                   case rel =>
                     have hbt : bodyB n t = true := by rw [HT.out]; first | (simp [*]; done) | (simp_all; done) | (simp_all; omega) | (go_ways; fail)
                     exact ⟨j + 1, by omega, by go_num, by rw [← HA2.out, HR.out, hbt, Bool.true_and], HX2.out.alloc.alloc⟩
                   case measure => simp [intOf]; omega)
                | (have hbt : bodyB n t = false := by rw [HT.out]; first | (simp [*]; done) | (simp_all; done) | (simp_all; omega) | (go_ways; fail)
                   go_ret
                   exact ⟨by rw [checkE_no (by rw [HCT.out, tailR, ← HA2.out, HR.out, hbt]; simp)]; rfl, HX2.out.alloc.alloc⟩)
            · obtain rfl : j = nb := by omega
              have HD := Lib.hid (show B.all (bodyB n) = true by rw [← HA2.out, List.drop_of_length_le (by rw [NC.out]; omega)]; rfl)
              have HE := Lib.hid (show check P B = bal B by rw [HCT.out, tailR, HD.out]; simp)
              have HBB := Lib.hid (HB.out.ext HX2.out)
              go_wp2_with (go_at_call 47; refine (balR_any B _ _ HBB.out).mono ?_; rintro e w' ⟨rfl, hx2⟩)
              all_goals
                go_ret
                exact ⟨by simp only [checkE, HE.out]; simp_all, HX2.out.trans hx2⟩
        · have hk1 : 0 < (k : Int) := by omega
          have hk2 : (k : Int) - 1 < k := by omega
          have hk4 : 0 ≤ (k : Int) - 1 := by omega
          have hk3 : ((k : Int) - 1).toNat = k - 1 := by omega
          obtain ⟨b, off, rfl, ⟨p0, p1, p2⟩, hbp⟩ := (HP.out.ext hx).at (i := k - 1) (by rw [NP.out]; omega)
          have hlast : P.getLast? = some (P[k - 1]'(by rw [NP.out]; omega)) := by
            have e := NP.out
            rw [List.getLast?_eq_getElem?, List.getElem?_eq_some_iff]
            exact ⟨by omega, by congr 1; omega⟩
          generalize P[k - 1]'(by rw [NP.out]; omega) = t at *
          have HL := Lib.hid hlast
          clear hlast
          by_cases hto : t.cat = 1
          · have hto' : (t.cat == 1) = true := by simp [hto]
            by_cases hn0 : nb = 0
            · have HE := Lib.hid (show check P B = false by
                have : B = [] := List.eq_nil_of_length_eq_zero (by rw [NB.out]; exact hn0)
                simp [check, HC.out, tailB, HL.out, hto, this])
              have hn1 : decide ((nb : Int) - 1 < 0) = true := by simp; omega
              clear hto hn0
              go_wp2_with (go_at_call 46; refine (open_any _ _).mono ?_; rintro e w' ⟨rfl, rfl⟩)
              go_quiet (fail)
              go_wp2
              go_ret
              exact ⟨by rw [checkE_no HE.out]; rfl, hx.alloc.drewN⟩
            · have hj1 : 0 ≤ (nb : Int) - 1 := by omega
              have hj2 : (nb : Int) - 1 < nb := by omega
              have hj3 : ((nb : Int) - 1).toNat = nb - 1 := by omega
              have hn1 : decide ((nb : Int) - 1 < 0) = false := by simp; omega
              have hbe := (HB.out.ext hx).at (i := nb - 1) (by rw [NB.out]; omega)
              obtain ⟨b', off', rfl, ⟨q0, q1, q2⟩, hbq⟩ := hbe
              have hlast : B.getLast? = some (B[nb - 1]'(by rw [NB.out]; omega)) := by
                have e := NB.out
                rw [List.getLast?_eq_getElem?, List.getElem?_eq_some_iff]
                exact ⟨by omega, by congr 1; omega⟩
              generalize B[nb - 1]'(by rw [NB.out]; omega) = u at *
              have hrun := fun w => run_neq w u t
              have HE := Lib.hid (check_brace (by rw [NP.out]; omega) (by rw [NB.out]; omega) HC.out HL.out hto hlast)
              obtain ⟨C, hC⟩ : ∃ C, B.dropLast = C := ⟨_, rfl⟩
              have NC := Lib.hid (show C.length = nb - 1 by rw [← hC, List.length_dropLast, NB.out])
              have HBC := Lib.hid (show RdT w (.slice (some ⟨b', off', none⟩) (nb - 1 : Nat) cb) C by
                rw [← hC, List.dropLast_eq_take, NB.out]; exact HB.out.take (by rw [NB.out]; omega))
              rw [hC] at HE
              have hsl : (1 ≤ (nb : Int) ∧ (nb : Int) - 1 ≤ (cb : Int)) := by omega
              clear hto hn0 hlast hC
              obtain ⟨nc, hnc⟩ : ∃ nc, nb - 1 = nc := ⟨_, rfl⟩
              have hnl : nc < nb := by omega
              rw [hnc] at NC HBC q0 q1 q2 hj3
              clear hnc
              go_wp2_with (go_at_call 46; refine (open_any _ _).mono ?_; rintro e w' ⟨rfl, hw⟩)
              have hx1 : Ext wo w' := hw ▸ (Ext.refl wo).alloc
              replace m0 := hx1.cell m0
              replace m1 := hx1.cell m1
              replace p0 := hx1.cell p0
              replace p1 := hx1.cell p1
              replace p2 := hx1.cell p2
              replace q0 := hx1.cell q0
              replace q1 := hx1.cell q1
              replace q2 := hx1.cell q2
              replace hbm := hx1.lt hbm
              replace hbp := hx1.lt hbp
              replace hbq := hx1.lt hbq
              clear hw
              go_quiet (fail)
              go_wp2
              · have hq : (!decide (u = t)) = true := by assumption
                go_ret
                exact ⟨by rw [checkE_no (by rw [HE.out]; simp_all)]; rfl, (hx.trans hx1).drewN⟩
              · rename (!decide (u = t)) = false => hz
                have HCT := Lib.hid (show check P B = tailR n C by
                  have hq : decide (u = t) = true := by simpa using hz
                  rw [HE.out, hq, Bool.true_and])
                clear hz
                go_loopw [8, 9] (fun i p wr => ∃ j : Nat, j ≤ nc ∧ i = .int .i64 j ∧ (C.drop j).all (bodyB n) = C.all (bodyB n) ∧ Ext w wr) (fun i _ _ => nc - (intOf i).toNat)
                case atStart => exact ⟨0, by omega, rfl, rfl, (hx.trans hx1).drewN⟩
                case round =>
                  obtain ⟨j, hj, rfl, ha, hx⟩ := hrel
                  have HA2 := Lib.hid ha
                  have HX2 := Lib.hid hx
                  clear ha hx
                  by_cases hlt2 : j < nc
                  · obtain ⟨b, off, hab, ⟨c0, c1, c2⟩, hb⟩ := (HBC.out.ext HX2.out).at (i := j) (by rw [NC.out]; exact hlt2)
                    cases hab
                    have HR := Lib.hid (show (C.drop j).all (bodyB n) = (bodyB n (C[j]'(by rw [NC.out]; exact hlt2)) && (C.drop (j + 1)).all (bodyB n)) by rw [List.drop_eq_getElem_cons (by rw [NC.out]; exact hlt2), List.all_cons])
                    generalize C[j]'(by rw [NC.out]; exact hlt2) = t at *
                    have HT := Lib.hid (bodyB_def n t)
                    have lt1 : (j : Int) < (nc : Int) := by omega
                    go_wp2_with first | (go_at_call 43; refine (placeR_any _ _).mono ?_; rintro e w' ⟨rfl, rfl⟩) | (go_at_call 44; refine (rightR_any _ _).mono ?_; rintro e w' ⟨rfl, rfl⟩)
                    all_goals first
                      | (go_roundw
                         case rel =>
                           have hbt : bodyB n t = true := by rw [HT.out]; first | (simp [*]; done) | (simp_all; done) | (simp_all; omega) | (go_ways; fail)
                           exact ⟨j + 1, by omega, by go_num, by rw [← HA2.out, HR.out, hbt, Bool.true_and], HX2.out.alloc.alloc⟩
                         case measure => simp [intOf]; omega)
                      | (have hbt : bodyB n t = false := by rw [HT.out]; first | (simp [*]; done) | (simp_all; done) | (simp_all; omega) | (go_ways; fail)
                         go_ret
                         exact ⟨by rw [checkE_no (by rw [HCT.out, tailR, ← HA2.out, HR.out, hbt]; simp)]; rfl, HX2.out.alloc.alloc⟩)
                  · obtain rfl : j = nc := by omega
                    have HD := Lib.hid (show C.all (bodyB n) = true by rw [← HA2.out, List.drop_of_length_le (by rw [NC.out]; omega)]; rfl)
                    have HE := Lib.hid (show check P B = bal C by rw [HCT.out, tailR, HD.out]; simp)
                    have HBB := Lib.hid (HBC.out.ext HX2.out)
                    go_wp2_with (go_at_call 47; refine (balR_any C _ _ HBB.out).mono ?_; rintro e w' ⟨rfl, hx2⟩)
                    all_goals
                      go_ret
                      exact ⟨by simp only [checkE, HE.out]; simp_all, HX2.out.trans hx2⟩
          · have hto' : (t.cat == 1) = false := by simp [hto]
            have HCT := Lib.hid (check_plain (by rw [NP.out]; omega) (by rw [NB.out]; omega) HC.out (fun t' h => by rw [HL.out] at h; cases h; exact hto))
            have NC := NB
            clear hto
            go_wp2_with (go_at_call 46; refine (open_any _ _).mono ?_; rintro e w' ⟨rfl, rfl⟩)
            go_loopw [8, 9] (fun i p wr => ∃ j : Nat, j ≤ nb ∧ i = .int .i64 j ∧ (B.drop j).all (bodyB n) = B.all (bodyB n) ∧ Ext w wr) (fun i _ _ => nb - (intOf i).toNat)
            case atStart => exact ⟨0, by omega, rfl, rfl, hx.alloc⟩
            case round =>
              obtain ⟨j, hj, rfl, ha, hx⟩ := hrel
              have HA2 := Lib.hid ha
              have HX2 := Lib.hid hx
              clear ha hx
              by_cases hlt2 : j < nb
              · obtain ⟨b, off, hab, ⟨c0, c1, c2⟩, hb⟩ := (HB.out.ext HX2.out).at (i := j) (by rw [NC.out]; exact hlt2)
                cases hab
                have HR := Lib.hid (show (B.drop j).all (bodyB n) = (bodyB n (B[j]'(by rw [NC.out]; exact hlt2)) && (B.drop (j + 1)).all (bodyB n)) by rw [List.drop_eq_getElem_cons (by rw [NC.out]; exact hlt2), List.all_cons])
                generalize B[j]'(by rw [NC.out]; exact hlt2) = t at *
                have HT := Lib.hid (bodyB_def n t)
                have lt1 : (j : Int) < (nb : Int) := by omega
                go_wp2_with first | (go_at_call 43; refine (placeR_any _ _).mono ?_; rintro e w' ⟨rfl, rfl⟩) | (go_at_call 44; refine (rightR_any _ _).mono ?_; rintro e w' ⟨rfl, rfl⟩)
                all_goals first
                  | (go_roundw
                     case rel =>
                       have hbt : bodyB n t = true := by rw [HT.out]; first | (simp [*]; done) | (simp_all; done) | (simp_all; omega) | (go_ways; fail)
                       exact ⟨j + 1, by omega, by go_num, by rw [← HA2.out, HR.out, hbt, Bool.true_and], HX2.out.alloc.alloc⟩
                     case measure => simp [intOf]; omega)
                  | (have hbt : bodyB n t = false := by rw [HT.out]; first | (simp [*]; done) | (simp_all; done) | (simp_all; omega) | (go_ways; fail)
                     go_ret
                     exact ⟨by rw [checkE_no (by rw [HCT.out, tailR, ← HA2.out, HR.out, hbt]; simp)]; rfl, HX2.out.alloc.alloc⟩)
              · obtain rfl : j = nb := by omega
                have HD := Lib.hid (show B.all (bodyB n) = true by rw [← HA2.out, List.drop_of_length_le (by rw [NC.out]; omega)]; rfl)
                have HE := Lib.hid (show check P B = bal B by rw [HCT.out, tailR, HD.out]; simp)
                have HBB := Lib.hid (HB.out.ext HX2.out)
                go_wp2_with (go_at_call 47; refine (balR_any B _ _ HBB.out).mono ?_; rintro e w' ⟨rfl, hx2⟩)
                all_goals
                  go_ret
                  exact ⟨by simp only [checkE, HE.out]; simp_all, HX2.out.trans hx2⟩
  · have HE := Lib.hid (show check P B = false by
      have e1 := NP.out
      have e2 := NB.out
      rw [check, e1, e2]
      by_cases h3 : np ≤ 20000
      · have h4 : ¬ nb ≤ 20000 := fun h4 => hbig ⟨h3, h4⟩
        simp [h4]
      · simp [h3])
    by_cases h3 : (np : Int) ≤ 20000
    · have h4 : ¬ (nb : Int) ≤ 20000 := by omega
      clear hbig
      go_enter Tryd.func32, Tryd.ntmps32
      go_wp2
      go_ret
      exact ⟨by rw [checkE_no HE.out]; rfl, (Ext.refl _).alloc⟩
    · clear hbig
      go_enter Tryd.func32, Tryd.ntmps32
      go_wp2
      go_ret
      exact ⟨by rw [checkE_no HE.out]; rfl, (Ext.refl _).alloc⟩

end Go.Proofs.YtlfekbmcegbhoaaDoor
