
/-
  Package macros: Check. Conditions: those that each theorem names.
-/
import Derived.Test.YtlfekbmcegbhoaaDoorMacC
namespace Go.Proofs.YtlfekbmcegbhoaaDoor
open Go.RowKit Go.Sp
variable {W w : World} {F : HProp}

/-- the pattern: how many places it has; none: it is not right -/
def chkP (n : Nat) : List Tok → Option Nat
  | [] => some n
  | t :: r => if placeB t then (if ((t.chr.toNat : Int) != (n : Int) + 1) then none else chkP (n + 1) r)
      else if !rightB t then none else if t.cat == 2 then none else if t.cat == 1 && !r.isEmpty then none else chkP n r

def bodyB (n : Nat) (t : Tok) : Bool := rightB t || (placeB t && decide ((t.chr.toNat : Int) ≤ n))

def tailB (P B : List Tok) : Bool :=
  match P.getLast? with
  | none => bal B
  | some t => if t.cat = 1 then (match B.getLast? with | none => false | some u => decide (u = t) && bal B.dropLast) else bal B

def check (P B : List Tok) : Bool :=
  decide (P.length ≤ 20000) && decide (B.length ≤ 20000) && match chkP 0 P with
    | none => false
    | some n => B.all (bodyB n) && tailB P B

theorem chkP_drop (L : List Tok) (n k m : Nat) (hm : L.length = m) (h : k < L.length) : chkP n (L.drop k) = if placeB L[k] then (if ((L[k].chr.toNat : Int) != (n : Int) + 1) then none else chkP (n + 1) (L.drop (k + 1)))
      else if !rightB L[k] then none else if L[k].cat == 2 then none else if L[k].cat == 1 && ((k : Int) != (m : Int) - 1) then none else chkP n (L.drop (k + 1)) := by
  have e : (!(L.drop (k + 1)).isEmpty) = ((k : Int) != (m : Int) - 1) := by
    rw [Bool.eq_iff_iff, Bool.not_eq_true', ← Bool.not_eq_true, List.isEmpty_iff, List.drop_eq_nil_iff, bne_iff_ne]; omega
  rw [List.drop_eq_getElem_cons h, chkP, e]

theorem check_none {P B : List Tok} (h : chkP 0 P = none) : check P B = false := by simp [check, h]

/-- what Check answers -/
def checkE (P B : List Tok) : Int := if check P B then 0 else 170

theorem checkE_no {P B : List Tok} (h : check P B = false) : checkE P B = 170 := by simp [checkE, h]
theorem checkE_yes {P B : List Tok} (h : check P B = true) : checkE P B = 0 := by simp [checkE, h]

set_option maxRecDepth 100000 in
set_option maxHeartbeats 4000000 in
theorem check_any (P B : List Tok) (vp vb : Value) (long : Bool) (w : World) (hp : RdT w vp P) (hb : RdT w vb B) (hnP : P.length ≤ 4000000000) (hnB : B.length ≤ 4000000000) :
    Calls Tryd.prog 31 #[.agg #[vp, vb, .bool long]] w fun e w' => e = .returned (.int .i64 (checkE P B)) ∧ Ext w w' := by
  obtain ⟨np, hnp⟩ : ∃ np, P.length = np := ⟨_, rfl⟩
  obtain ⟨nb, hnb⟩ : ∃ nb, B.length = nb := ⟨_, rfl⟩
  have HP := Lib.hid hp
  have HB := Lib.hid hb
  obtain ⟨ap, cp, hvp, hcp⟩ := hp.capd
  obtain ⟨ab, cb, hvb, hcb⟩ := hb.capd
  rw [hnp] at hvp hnP hcp
  rw [hnb] at hvb hnB hcb
  subst hvp hvb
  have NP := Lib.hid hnp
  have NB := Lib.hid hnb
  clear hp hb hnp hnb
  have h1 := (Sat.start w).alloc (.cells #[.slice ap np cp, .slice ab nb cb, .bool long] 49)
  by_cases hbig : np ≤ 20000 ∧ nb ≤ 20000
  · obtain ⟨hb1, hb2⟩ := hbig
    have hb1' : ((np : Int) ≤ 20000) := by omega
    have hb2' : ((nb : Int) ≤ 20000) := by omega
    go_enter Tryd.func31, Tryd.ntmps31
    go_wp2
    go_quiet (fail)
    go_wp2
    generalize hbm : w.heap.size = bm at *
    clear hbm
    go_loopw [3, 28] (fun pl i wr => ∃ k n : Nat, k ≤ np ∧ n ≤ k ∧ pl = .int .i64 n ∧ i = .int .i64 k ∧ chkP n (P.drop k) = chkP 0 P ∧ Sat w (pts bm (.cells #[.slice ap np cp, .slice ab nb cb, .bool long] 49 (0, 0)) * own w) wr) (fun _ i _ => np - (intOf i).toNat)
    case atStart => exact ⟨0, 0, by omega, by omega, rfl, rfl, rfl, h1.drewN⟩
    case round =>
      obtain ⟨k, n, hk, hn, rfl, rfl, ha, hx⟩ := hrel
      have HA := Lib.hid ha
      have HX := Lib.hid hx
      clear ha hx
      have m0 := HX.out.cell (i := 0) rfl
      have m1 := HX.out.cell (i := 1) rfl
      have hbm := HX.out.lt
      by_cases hlt : k < np
      · obtain ⟨b, off, rfl, ⟨c0, c1, c2⟩, hb⟩ := (HP.out.ext HX.out.extR).at (i := k) (by rw [NP.out]; exact hlt)
        have HR := Lib.hid (chkP_drop P n k np NP.out (by rw [NP.out]; exact hlt))
        generalize P[k]'(by rw [NP.out]; exact hlt) = t at *
        have lt1 : (k : Int) < (np : Int) := by omega
        have hby : (t.chr.toNat : Int) < 256 := by have := t.chr.toNat_lt; omega
        go_wp2_with first | (go_at_call 40; refine (place_any _ _).mono ?_; rintro e w' ⟨rfl, rfl⟩) | (go_at_call 41; refine (right_any _ _).mono ?_; rintro e w' ⟨rfl, rfl⟩)
        all_goals first
          | (exfalso; have q1 : (!rightB t) = true := by assumption
             have q2 : (!rightB t) = false := by assumption
             rw [q1] at q2; cases q2)
          | (go_ret
             exact ⟨by rw [checkE_no (check_none (by rw [← HA.out, HR.out]; simp [*]))]; rfl, by first | exact HX.out.extR.alloc.alloc | exact HX.out.extR.alloc.alloc.alloc⟩)
          | (go_roundw
             case rel => first
               | exact ⟨k + 1, n + 1, by omega, by omega, by go_num, by go_num, by rw [← HA.out, HR.out]; simp [*], by first | exact HX.out.allocD.allocD | exact HX.out.allocD.allocD.allocD⟩
               | exact ⟨k + 1, n, by omega, by omega, rfl, by go_num, by rw [← HA.out, HR.out]; simp [*], by first | exact HX.out.allocD.allocD | exact HX.out.allocD.allocD.allocD⟩
             case measure => simp [intOf]; omega)
          | (go_ways; fail)
      · obtain rfl : k = np := by omega
        have HC := Lib.hid (show chkP 0 P = some n by rw [← HA.out, List.drop_of_length_le (by rw [NP.out]; omega)]; rfl)
        obtain ⟨wo, rfl⟩ : ∃ wo : World, wo = wr := ⟨_, rfl⟩
        go_wp2
        go_loopw [62] (fun i wr => ∃ j : Nat, j ≤ nb ∧ i = .int .i64 j ∧ (B.drop j).all (bodyB n) = B.all (bodyB n) ∧ Sat w (pts bm (.cells #[.slice ap k cp, .slice ab nb cb, .bool long] 49 (0, 0)) * own w) wr) (fun i _ => nb - (intOf i).toNat)
        case atStart => exact ⟨0, by omega, rfl, rfl, HX.out⟩
        case round =>
          obtain ⟨j, hj, rfl, ha, hx⟩ := hrel
          have HA2 := Lib.hid ha
          have HX2 := Lib.hid hx
          clear ha hx
          clear m0 m1 hbm
          have m0 := HX2.out.cell (i := 0) rfl
          have m1 := HX2.out.cell (i := 1) rfl
          have hbm := HX2.out.lt
          by_cases hlt2 : j < nb
          · obtain ⟨b, off, rfl, ⟨c0, c1, c2⟩, hb⟩ := (HB.out.ext HX2.out.extR).at (i := j) (by rw [NB.out]; exact hlt2)
            have HR := Lib.hid (show (B.drop j).all (bodyB n) = (bodyB n (B[j]'(by rw [NB.out]; exact hlt2)) && (B.drop (j + 1)).all (bodyB n)) by rw [List.drop_eq_getElem_cons (by rw [NB.out]; exact hlt2), List.all_cons])
            generalize B[j]'(by rw [NB.out]; exact hlt2) = t at *
            have lt1 : (j : Int) < (nb : Int) := by omega
            have hby : (t.chr.toNat : Int) < 256 := by have := t.chr.toNat_lt; omega
            go_wp2_with first | (go_at_call 40; refine (place_any _ _).mono ?_; rintro e w' ⟨rfl, rfl⟩) | (go_at_call 41; refine (right_any _ _).mono ?_; rintro e w' ⟨rfl, rfl⟩)
            all_goals first
              | (go_roundw
                 case rel =>
                   have hbt : bodyB n t = true := by first | (simp [bodyB, *]; done) | (simp [bodyB, *]; omega)
                   exact ⟨j + 1, by omega, by go_num, by rw [← HA2.out, HR.out, hbt, Bool.true_and], by first | exact HX2.out.allocD.allocD | exact HX2.out.allocD.allocD.allocD⟩
                 case measure => simp [intOf]; omega)
              | (have hbt : bodyB n t = false := by first | (simp [bodyB, *]; done) | (simp [bodyB, *]; omega)
                 go_ret
                 exact ⟨by rw [checkE_no (by simp only [check, HC.out, ← HA2.out, HR.out, hbt, Bool.false_and, Bool.and_false])]; rfl, by first | exact HX2.out.extR.alloc.alloc | exact HX2.out.extR.alloc.alloc.alloc⟩)
              | (go_ways; fail)
          · obtain rfl : j = nb := by omega
            have HD := Lib.hid (show B.all (bodyB n) = true by rw [← HA2.out, List.drop_of_length_le (by rw [NB.out]; omega)]; rfl)
            have HT := Lib.hid (show check P B = tailB P B by simp only [check, HC.out, HD.out, NP.out, NB.out, Bool.true_and]; simp [hb1, hb2])
            have hx := HX2.out.extR
            by_cases hk0 : k = 0
            · have ht : tailB P B = bal B := by
                have : P = [] := List.eq_nil_of_length_eq_zero (by rw [NP.out]; exact hk0)
                simp [tailB, this]
              have HE := Lib.hid (HT.out.trans ht)
              clear ht
              have hk1 : ¬ (0 ≤ (k : Int) - 1) := by omega
              have hbB := HB.out.ext hx
              have HBB := Lib.hid hbB
              have hjB : B.length ≤ 4000000000 := by rw [NB.out]; omega
              have HJ := Lib.hid hjB
              clear hbB hjB hk0
              go_wp2_with (go_at_call 42; refine (bal_any B _ _ HJ.out HBB.out).mono ?_; rintro e w' ⟨rfl, hx2⟩)
              all_goals
                go_ret
                exact ⟨by simp only [checkE, HE.out]; simp_all, hx.trans hx2⟩
            · have hk1 : 0 ≤ (k : Int) - 1 := by omega
              have hk2 : (k : Int) - 1 < k := by omega
              have hk3 : ((k : Int) - 1).toNat = k - 1 := by omega
              obtain ⟨b, off, rfl, ⟨p0, p1, p2⟩, hbp⟩ := (HP.out.ext hx).at (i := k - 1) (by rw [NP.out]; omega)
              have hlast : P.getLast? = some (P[k - 1]'(by rw [NP.out]; omega)) := by
                have e := NP.out
                rw [List.getLast?_eq_getElem?, List.getElem?_eq_some_iff]
                exact ⟨by omega, by congr 1; omega⟩
              generalize P[k - 1]'(by rw [NP.out]; omega) = t at *
              have HL := Lib.hid hlast
              clear hlast
              have HJ := Lib.hid (show B.length ≤ 4000000000 by rw [NB.out]; omega)
              have HBB := Lib.hid (HB.out.ext hx)
              by_cases hto : t.cat = 1
              · by_cases hn0 : j = 0
                · have HE := Lib.hid (show check P B = false by
                    have : B = [] := List.eq_nil_of_length_eq_zero (by rw [NB.out]; exact hn0)
                    rw [HT.out]; simp [tailB, HL.out, hto, this])
                  have hto' : (t.cat == 1) = true := by simp [hto]
                  have hn1 : decide ((j : Int) - 1 < 0) = true := by simp; omega
                  clear hto hn0
                  go_wp2
                  go_quiet (fail)
                  go_wp2
                  go_ret
                  exact ⟨by rw [checkE_no HE.out]; rfl, hx.drewN⟩
                · have hj1 : 0 ≤ (j : Int) - 1 := by omega
                  have hj2 : (j : Int) - 1 < j := by omega
                  have hj3 : ((j : Int) - 1).toNat = j - 1 := by omega
                  have hn1 : decide ((j : Int) - 1 < 0) = false := by simp; omega
                  obtain ⟨b', off', rfl, ⟨q0, q1, q2⟩, hbq⟩ := (HB.out.ext hx).at (i := j - 1) (by rw [NB.out]; omega)
                  have hlast : B.getLast? = some (B[j - 1]'(by rw [NB.out]; omega)) := by
                    have e := NB.out
                    rw [List.getLast?_eq_getElem?, List.getElem?_eq_some_iff]
                    exact ⟨by omega, by congr 1; omega⟩
                  generalize B[j - 1]'(by rw [NB.out]; omega) = u at *
                  have hrun := fun w => run_neq w u t
                  have HE := Lib.hid (show check P B = (decide (u = t) && bal B.dropLast) by rw [HT.out]; simp [tailB, HL.out, hto, hlast])
                  have HTK := Lib.hid (show RdT _ _ _ from HBB.out.take (m := j - 1) (by rw [NB.out]; omega))
                  have HDL := Lib.hid (show B.dropLast = B.take (j - 1) by rw [List.dropLast_eq_take, NB.out])
                  have hto' : (t.cat == 1) = true := by simp [hto]
                  have hsl : (1 ≤ (j : Int) ∧ (j : Int) - 1 ≤ (cb : Int)) := by omega
                  clear hto hn0 hlast
                  go_wp2
                  go_quiet (fail)
                  go_wp2_with (go_at_call 42; refine (bal_any (B.take (j - 1)) _ _ (by rw [List.length_take]; have := HJ.out; omega) (HTK.out.drewN _)).mono ?_; rintro e w' ⟨rfl, hx2⟩)
                  · have hq : (!decide (u = t)) = true := by assumption
                    go_ret
                    exact ⟨by rw [checkE_no (by rw [HE.out]; simp_all)]; rfl, hx.drewN⟩
                  all_goals
                    have hq : (!decide (u = t)) = false := by assumption
                    go_ret
                    exact ⟨by simp only [checkE, HE.out, HDL.out]; simp_all, hx.drewN.trans hx2⟩
              · have HE := Lib.hid (show check P B = bal B by rw [HT.out]; simp [tailB, HL.out, hto])
                have hto' : (t.cat == 1) = false := by simp [hto]
                clear hto
                go_wp2_with (go_at_call 42; refine (bal_any B _ _ HJ.out HBB.out).mono ?_; rintro e w' ⟨rfl, hx2⟩)
                all_goals
                  go_ret
                  exact ⟨by simp only [checkE, HE.out]; simp_all, hx.trans hx2⟩
  · have HE := Lib.hid (show check P B = false by
      have e1 := NP.out
      have e2 := NB.out
      rw [check, e1, e2]
      by_cases h3 : np ≤ 20000
      · have h4 : ¬ nb ≤ 20000 := fun h4 => hbig ⟨h3, h4⟩
        simp [h4]
      · simp [h3])
    by_cases h3 : (np : Int) ≤ 20000
    · have h4 : ¬ (nb : Int) ≤ 20000 := by omega
      clear hbig
      go_enter Tryd.func31, Tryd.ntmps31
      go_wp2
      go_ret
      exact ⟨by rw [checkE_no HE.out]; rfl, (Ext.refl _).alloc⟩
    · clear hbig
      go_enter Tryd.func31, Tryd.ntmps31
      go_wp2
      go_ret
      exact ⟨by rw [checkE_no HE.out]; rfl, (Ext.refl _).alloc⟩

end Go.Proofs.YtlfekbmcegbhoaaDoor
