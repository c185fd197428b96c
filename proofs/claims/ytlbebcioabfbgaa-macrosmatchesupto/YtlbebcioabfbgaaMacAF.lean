/-
  The law MacrosBalanced, walked. Conditions: those that the theorem names.
-/
import Derived.Test.YtlbebcioabfbgaaMacAB
import Derived.Test.YtlbebcioabfbgaaMacAE
namespace Go.Proofs.Ytlbebcioabfbgaa
open Go.RowKit Go.Sp
variable {W w w' : World} {F : HProp}

/-- Apply, with what it makes as something that can be read -/
theorem apply_ext (P B : List Tok) (A : List (List Tok)) (vp vb va : Value) (long : Bool) (w : World) (hp : RdT w vp P) (hb : RdT w vb B) (ha : RdTT w va A) (hnP : P.length ≤ 4000000000) (hnB : B.length ≤ 4000000000) (hnA : A.length ≤ 4000000000) (hnI : ∀ a ∈ A, a.length ≤ 4000000000) :
    Calls Try.prog 24 #[.agg #[vp, vb, .bool long], va] w fun e w' =>
      (∃ k, applyM P B A = .error k ∧ e = .returned (.tuple #[.slice none 0 0, .int .i64 k]) ∧ Ext w w') ∨
      ∃ o a c, applyM P B A = .ok o ∧ e = .returned (.tuple #[.slice a o.length c, .int .i64 0]) ∧ Ext w w' ∧ RdT w' (.slice a o.length c) o := by
  refine Calls.mono (apply_any P B A vp vb va long w hp hb ha hnP hnB hnA hnI) ?_
  intro e w' h
  unfold ListPost at h
  cases hm : applyM P B A with
  | error k => rw [hm] at h; obtain ⟨rfl, hs⟩ := h; exact .inl ⟨k, rfl, rfl, hs.toExt⟩
  | ok o =>
    rw [hm] at h
    obtain ⟨v, rfl, hs⟩ := h
    have hr := rowT_rd hs
    have hr' := hr
    obtain ⟨a, c, rfl, -⟩ := hr'.capd
    exact .inr ⟨o, a, c, rfl, rfl, hs.extR, hr⟩

theorem balR_is {L : List Tok} (hb : bal L = true) (v : Value) (w : World) (hv : RdT w v L) : Calls Try.prog 28 #[v] w fun e w' => e = .returned (.bool true) ∧ Ext w w' := hb ▸ balR_any L v w hv

set_option maxRecDepth 100000 in
set_option maxHeartbeats 8000000 in
theorem balanced_law (P B L : List Tok) (vp vb vl : Value) (long : Bool) (w : World) (hp : RdT w vp P) (hb : RdT w vb B) (hl : RdT w vl L)
    (hnP : P.length ≤ 1048576) (hnB : B.length ≤ 1048576) (hnL : L.length ≤ 1048576) :
    Calls Try.prog 6 #[.agg #[vp, vb, .bool long], vl] w fun e w' => e = .returned (.bool true) ∧ Ext w w' := by
  obtain ⟨np, hnp⟩ : ∃ np, P.length = np := ⟨_, rfl⟩
  obtain ⟨ap, cp, hvp, hcp⟩ := hp.capd
  rw [hnp] at hvp hcp
  subst hvp
  have h1 := (Sat.start w).alloc (.cells #[.slice ap np cp, vb, .bool long] 29)
  have B2 := Lib.hid h1.blk
  have HX1 := Lib.hid h1.r.toExt
  have HP := Lib.hid hp
  have HB := Lib.hid hb
  have HL := Lib.hid hl
  have NPL := Lib.hid hnp
  have NP := Lib.hid (show P.length ≤ 4000000000 by omega)
  have NB := Lib.hid (show B.length ≤ 4000000000 by omega)
  have NL := Lib.hid (show L.length ≤ 4000000000 by omega)
  have hnp9 : np ≤ 4000000000 := by omega
  clear h1 hp hb hl hnP hnB hnL hnp
  go_enter Try.func6, Try.ntmps6
  go_wp2_with fail
  refine Calls.mono (given_at P B _ vb long _ (HP.out.ext HX1.out) (HB.out.ext HX1.out) NP.out NB.out) ?_
  rintro e w1 ⟨ux, vx, rfl, hx, hux, hvx⟩
  have HX2 := Lib.hid hx
  have HUX := Lib.hid hux
  have HVX := Lib.hid hvx
  clear hx hux hvx
  go_wp2_with fail
  refine Calls.mono (tokens_at L vl _ NL.out ((HL.out.ext HX1.out).ext HX2.out)) ?_
  rintro e w2 ⟨ul, rfl, hx, hul⟩
  have HX3 := Lib.hid (HX2.out.trans hx)
  have HMT := Lib.hid (match_ext P B L ux vx ul long w2 (HUX.out.ext hx) (HVX.out.ext hx) hul NP.out NB.out NL.out)
  clear hx hul
  go_wp2_with fail
  refine Calls.mono HMT.out ?_
  rintro e w3 (⟨k, hk, rfl, hx⟩ | ⟨x, a, c, hx, rfl, hx3, hra⟩)
  · have q1 : (k != 0) = true := by simpa using matchM_err hk
    have HX4 := Lib.hid (HX1.out.trans (HX3.out.trans hx))
    clear hx hk
    go_wp2_with (first
      | (go_at_call 14; with_reducible refine Calls.mono (num_any _ _) ?_; rintro e w' ⟨rfl, rfl⟩)
      | (go_at_call 18; with_reducible refine Calls.mono (live_any _) ?_; rintro e w' ⟨rfl, hx⟩; have HX5 := Lib.hid (HX4.out.trans hx); clear hx))
    first | go_ret | go_ret2
    exact ⟨rfl, HX5.out⟩
  · have HX4 := Lib.hid (HX3.out.trans hx3)
    have HR1 := Lib.hid hra
    have HMX := Lib.hid hx
    obtain ⟨A, n⟩ := x
    simp only at *
    obtain ⟨na, hna⟩ : ∃ na, A.length = na := ⟨_, rfl⟩
    have NA := Lib.hid hna
    have HXN := Lib.hid (show A.length ≤ 4000000000 by have := (matchM_le hx).1; have := NP.out; simp only at *; omega)
    have HXI := Lib.hid (show ∀ a ∈ A, a.length ≤ 4000000000 by intro a ha; have := (matchM_le hx).2.2.1 a ha; have := NL.out; omega)
    have hna9 : na ≤ 4000000000 := by have := HXN.out; omega
    rw [hna] at HR1 ⊢
    have HBL := Lib.hid (matchM_bal hx)
    have HAP := Lib.hid (match_apply hx)
    have HCK := Lib.hid (match_check hx)
    clear hx hx3 hra HMT HUX HVX hna
    go_wp2_with ((go_at_call 14; with_reducible refine Calls.mono (num_any _ _) ?_; rintro e w' ⟨rfl, rfl⟩))
    go_loopw [8] (fun i wr => ∃ k : Nat, k ≤ na ∧ i = .int .i64 k ∧ Ext w3 wr) (fun i _ => na - (intOf i).toNat)
    case atStart => exact ⟨0, by omega, rfl, Ext.refl _⟩
    case round =>
      obtain ⟨k, hk, rfl, hx⟩ := hrel
      have HXr := Lib.hid hx
      clear hx
      by_cases hlt : k < na
      · have hlt' : k < A.length := by rw [NA.out]; exact hlt
        obtain ⟨b', off, a', c', rfl, hc, hrd, hb'⟩ := (HR1.out.ext HXr.out).at hlt'
        have HBK := Lib.hid (balR_is (HBL.out A[k] (List.getElem_mem hlt')) _ _ hrd)
        generalize A[k] = X at *
        generalize X.length = nx at *
        have lt1 : (k : Int) < (na : Int) := by omega
        clear hrd
        go_wp2_with fail
        refine Calls.mono HBK.out ?_
        rintro e w4 ⟨rfl, hx⟩
        go_wp2
        go_roundw
        case rel => exact ⟨k + 1, by omega, by go_num, HXr.out.trans hx⟩
        case measure => simp [intOf]; omega
      · have hkn : na = k := by omega
        subst hkn
        have HX5 := Lib.hid (HX4.out.trans HXr.out)
        obtain ⟨a0, a1, a2⟩ := Ext.three B2.out HX5.out
        have l2 : w.heap.size < wr.heap.size := World.block_lt_of_cell? wr _ a0
        go_wp2_with fail
        refine Calls.mono (given_at P B _ vb long _ ((HP.out.ext HX1.out).ext HX5.out) ((HB.out.ext HX1.out).ext HX5.out) NP.out NB.out) ?_
        rintro e w4 ⟨uy, vy, rfl, hx, huy, hvy⟩
        have HX6 := Lib.hid (HX5.out.trans hx)
        have HAX := Lib.hid (apply_ext P B A uy vy _ long w4 huy hvy ((HR1.out.ext HXr.out).ext hx) NP.out NB.out HXN.out HXI.out)
        clear a0 a1 a2 l2 hx huy hvy
        go_wp2_with fail
        refine Calls.mono HAX.out ?_
        rintro e w5 (⟨k, hk, rfl, hx⟩ | ⟨o, ao, co, ho, rfl, hx5, hro⟩)
        · have q6 : k = 6 := by
            have h := HAP.out
            rw [hk] at h
            split at h
            · cases h; rfl
            · cases h
          subst q6
          have HX7 := Lib.hid (HX1.out.trans (HX6.out.trans hx))
          clear hx hk
          go_wp2_with (first
            | (go_at_call 14; with_reducible refine Calls.mono (num_any _ _) ?_; rintro e w' ⟨rfl, rfl⟩)
            | (go_at_call 18; with_reducible refine Calls.mono (live_any _) ?_; rintro e w' ⟨rfl, hx⟩; have HX8 := Lib.hid (HX7.out.trans hx); clear hx))
          first | go_ret | go_ret2
          exact ⟨rfl, HX8.out⟩
        · have hoe : o = subst A B := by
            have h := HAP.out
            rw [ho] at h
            split at h
            · cases h
            · cases h; rfl
          have htl := apply_tail HCK.out HBL.out
          rw [← hoe] at htl
          have HX7 := Lib.hid (HX6.out.trans hx5)
          obtain ⟨a0, a1, a2⟩ := Ext.three B2.out HX7.out
          have l2 : w.heap.size < w5.heap.size := World.block_lt_of_cell? w5 _ a0
          have HP7 := Lib.hid ((HP.out.ext HX1.out).ext HX7.out)
          have HRO := Lib.hid hro
          clear ho hoe hx5 hro
          rcases htl with ⟨t, ht, htc, O, rfl, hbo⟩ | ⟨hno, hbo⟩
          · obtain ⟨m, hm⟩ : ∃ m, np = m + 1 := by
              rcases Nat.eq_zero_or_pos np with h0 | h0
              · have : P = [] := List.eq_nil_of_length_eq_zero (by rw [NPL.out]; exact h0)
                rw [this] at ht; cases ht
              · exact ⟨np - 1, by omega⟩
            obtain ⟨b, off, rfl, ⟨p0, p1, p2⟩, hbp⟩ := HP7.out.at (i := m) (by rw [NPL.out]; omega)
            have hlast : P[m]'(by rw [NPL.out]; omega) = t := by
              have e := NPL.out
              rw [List.getLast?_eq_getElem?, List.getElem?_eq_some_iff] at ht
              obtain ⟨h1, h2⟩ := ht
              rw [← h2]; congr 1; omega
            rw [hlast] at p0 p1 p2
            obtain ⟨q, hq⟩ : ∃ q, O.length = q := ⟨_, rfl⟩
            obtain ⟨qn, hqn⟩ : ∃ qn, q + 1 = qn := ⟨_, rfl⟩
            have hlo : (O ++ [t]).length = qn := by simp [hq, hqn]
            rw [hlo] at HRO ⊢
            obtain ⟨b2, off2, rfl, ⟨o0, o1, o2⟩, hbo2⟩ := HRO.out.at (i := q) (by rw [hlo]; omega)
            have hlast2 : (O ++ [t])[q]'(by rw [hlo]; omega) = t := by simp [← hq]
            rw [hlast2] at o0 o1 o2
            have htk := HRO.out.take (m := q) (by rw [hlo]; omega)
            rw [show (O ++ [t]).take q = O by rw [← hq]; simp] at htk
            have HTK := Lib.hid (balR_is hbo _ _ htk)
            have r1 : (0 : Int) < (np : Int) := by omega
            have r2 : 0 ≤ (np : Int) - 1 := by omega
            have r3 : (np : Int) - 1 < (np : Int) := by omega
            have r3' : ((np : Int) - 1).toNat = m := by omega
            have r4 : ((qn : Int) == 0) = false := by rw [beq_eq_false_iff_ne]; omega
            have r5 : 0 ≤ (qn : Int) - 1 := by omega
            have r6 : (qn : Int) - 1 < (qn : Int) := by omega
            have r6' : ((qn : Int) - 1).toNat = q := by omega
            have hcq := (RdT.cap HRO.out).2
            have hqn9 : qn ≤ 9223372036854775807 := by have := HRO.out.le; omega
            have r7 : 1 ≤ (qn : Int) ∧ (qn : Int) - 1 ≤ (co : Int) := by omega
            have tc1 : (t.cat == 1) = true := by simp [htc]
            have tc2 : (t.cat != 1) = false := by simp [htc]
            clear htk ht hlast hlast2 hlo hm hqn hq
            go_wp2_with (first
              | (go_at_call 14; with_reducible refine Calls.mono (num_any _ _) ?_; rintro e w' ⟨rfl, rfl⟩)
              | (go_at_call 28; with_reducible refine Calls.mono HTK.out ?_; rintro e w' ⟨rfl, hx⟩; have HX8 := Lib.hid (HX7.out.trans hx); clear hx)
              | (go_at_call 18; with_reducible refine Calls.mono (live_any _) ?_; rintro e w' ⟨rfl, hx⟩; have HX9 := Lib.hid (HX1.out.trans (HX8.out.trans hx)); clear hx))
            first | go_ret | go_ret2
            exact ⟨rfl, HX9.out⟩
          · have HTK := Lib.hid (balR_is hbo _ _ HRO.out)
            rcases Nat.eq_zero_or_pos np with h0 | h0
            · have r1 : ¬ (0 : Int) < (np : Int) := by omega
              go_wp2_with (first
                | (go_at_call 14; with_reducible refine Calls.mono (num_any _ _) ?_; rintro e w' ⟨rfl, rfl⟩)
                | (go_at_call 28; with_reducible refine Calls.mono HTK.out ?_; rintro e w' ⟨rfl, hx⟩; have HX8 := Lib.hid (HX7.out.trans hx); clear hx)
                | (go_at_call 18; with_reducible refine Calls.mono (live_any _) ?_; rintro e w' ⟨rfl, hx⟩; have HX9 := Lib.hid (HX1.out.trans (HX8.out.trans hx)); clear hx))
              first | go_ret | go_ret2
              exact ⟨rfl, HX9.out⟩
            · obtain ⟨m, hm⟩ : ∃ m, np = m + 1 := ⟨np - 1, by omega⟩
              obtain ⟨b, off, rfl, ⟨p0, p1, p2⟩, hbp⟩ := HP7.out.at (i := m) (by rw [NPL.out]; omega)
              have hlast : P.getLast? = some (P[m]'(by rw [NPL.out]; omega)) := by
                have e := NPL.out
                rw [List.getLast?_eq_getElem?, List.getElem?_eq_some_iff]
                exact ⟨by omega, by congr 1; omega⟩
              have tc0 := hno _ hlast
              have tc1 : ((P[m]'(by rw [NPL.out]; omega)).cat == 1) = false := by simpa using tc0
              generalize P[m]'(by rw [NPL.out]; omega) = t at *
              have r1 : (0 : Int) < (np : Int) := by omega
              have r2 : 0 ≤ (np : Int) - 1 := by omega
              have r3 : (np : Int) - 1 < (np : Int) := by omega
              have r3' : ((np : Int) - 1).toNat = m := by omega
              clear hlast hm hno tc0
              go_wp2_with (first
                | (go_at_call 14; with_reducible refine Calls.mono (num_any _ _) ?_; rintro e w' ⟨rfl, rfl⟩)
                | (go_at_call 28; with_reducible refine Calls.mono HTK.out ?_; rintro e w' ⟨rfl, hx⟩; have HX8 := Lib.hid (HX7.out.trans hx); clear hx)
                | (go_at_call 18; with_reducible refine Calls.mono (live_any _) ?_; rintro e w' ⟨rfl, hx⟩; have HX9 := Lib.hid (HX1.out.trans (HX8.out.trans hx)); clear hx))
              first | go_ret | go_ret2
              exact ⟨rfl, HX9.out⟩

end Go.Proofs.Ytlbebcioabfbgaa
