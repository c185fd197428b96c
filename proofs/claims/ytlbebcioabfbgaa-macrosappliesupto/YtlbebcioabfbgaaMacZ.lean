/-
  The law MacrosMade, walked. Conditions: those that the theorem names.
-/
import Derived.Test.YtlbebcioabfbgaaMacAF
import Derived.Test.YtlbebcioabfbgaaMacY
namespace Go.Proofs.Ytlbebcioabfbgaa
open Go.RowKit Go.Sp
variable {W w w' : World} {F : HProp}

def isHash (t : Tok) : Bool := t.cat == 6

theorem anyQ (L : List Tok) (f : Tok → Bool) (k : Nat) (h : k < L.length) : (L.drop k).any f = (f L[k] || (L.drop (k + 1)).any f) := by
  rw [List.drop_eq_getElem_cons h, List.any_cons]

theorem no_hash {L : List Tok} (h : L.any isHash = false) : ∀ t ∈ L, t.cat ≠ 6 := by
  intro t ht hc
  have := (List.any_eq_false.1 h) t ht
  exact this (by simp [isHash, hc])

theorem check_is {P B : List Tok} (h : check P B = true) (vp vb : Value) (long : Bool) (w : World) (hp : RdT w vp P) (hb : RdT w vb B) (hnP : P.length ≤ 4000000000) (hnB : B.length ≤ 4000000000) :
    Calls Try.prog 32 #[.agg #[vp, vb, .bool long]] w fun e w' => e = .returned (.int .i64 0) ∧ Ext w w' := by
  have := check_any P B vp vb long w hp hb hnP hnB
  rwa [checkE_yes h] at this
theorem sameT_self {P : List Tok} (v u : Value) (w : World) (hv : RdT w v P) (hu : RdT w u P) : Calls Try.prog 16 #[v, u] w fun e w' => e = .returned (.bool true) ∧ Ext w w' := by
  refine Calls.mono (sameT_any P P v u w hv hu) ?_
  rintro e w' ⟨rfl, q, rfl⟩
  exact ⟨by simp, (Ext.refl _).drewN⟩
theorem rdTT_nil (w : World) : RdTT w (.slice none 0 0) [] := ⟨[], rfl, ⟨rfl, by simp, none, 0, rfl, by simp⟩, ⟨none, 0, rfl, by simp⟩, by simp⟩


set_option maxRecDepth 100000 in
set_option maxHeartbeats 8000000 in
theorem made_law (P B : List Tok) (vp vb : Value) (long : Bool) (w : World) (hp : RdT w vp P) (hb : RdT w vb B) (hnP : P.length ≤ 4000000000) (hnB : B.length ≤ 4000000000) :
    Calls Try.prog 10 #[vp, vb, .bool long] w fun e w' => e = .returned (.bool true) ∧ Ext w w' := by
  obtain ⟨np, hnp⟩ : ∃ np, P.length = np := ⟨_, rfl⟩
  obtain ⟨nb, hnb⟩ : ∃ nb, B.length = nb := ⟨_, rfl⟩
  obtain ⟨ap, cp, hvp, -⟩ := hp.capd
  obtain ⟨ab, cb, hvb, -⟩ := hb.capd
  have NP0 := Lib.hid hnP
  have NB0 := Lib.hid hnB
  have NP := Lib.hid hnp
  have NB := Lib.hid hnb
  rw [hnp] at hvp hnP
  rw [hnb] at hvb hnB
  have HP := Lib.hid hp
  have HB := Lib.hid hb
  clear hp hb hnp hnb
  subst hvp hvb
  go_enter Try.func10, Try.ntmps10
  go_wp2_with fail
  refine Calls.mono (tokens_at P _ _ NP0.out HP.out) ?_
  rintro e w1 ⟨u1, rfl, hx1, hr1⟩
  have HX1 := Lib.hid hx1
  have HR1 := Lib.hid hr1
  clear hx1 hr1
  go_wp2_with fail
  refine Calls.mono (tokens_at B _ _ NB0.out (HB.out.ext HX1.out)) ?_
  rintro e w2 ⟨u2, rfl, hx2, hr2⟩
  have HX2 := Lib.hid (HX1.out.trans hx2)
  have HR2 := Lib.hid hr2
  have HR1 := Lib.hid (HR1.out.ext hx2)
  clear hx2 hr2
  go_wp2_with fail
  refine Calls.mono (define_any P B u1 u2 long w2 HR1.out HR2.out NP0.out NB0.out) ?_
  rintro e w3 ⟨uP, uB, rfl, hs⟩
  obtain ⟨xa, xc, rfl, -⟩ := (rowT_rd hs).capd
  obtain ⟨ya, yc, rfl, -⟩ := (rowT_rd hs.r).capd
  have HX3 := Lib.hid (HX2.out.trans hs.r.r.toExt)
  have HU := Lib.hid (rowT_rd hs)
  have HV := Lib.hid (rowT_rd hs.r)
  obtain ⟨D, hD⟩ : ∃ D, define P B long = D := ⟨_, rfl⟩
  rw [hD] at HU HV ⊢
  obtain ⟨DP, DB, Dl, De⟩ := D
  simp only at HU HV ⊢
  have HD := Lib.hid hD
  clear hs hD
  by_cases he : De = 0
  · subst he
    obtain ⟨k1, k2, k3, k4⟩ := define_check (P := P) (B := B) (long := long) (by rw [HD.out])
    rw [HD.out] at k1 k2 k3 k4
    simp only at k1 k2 k3 k4
    subst k2
    have NDP := Lib.hid (show DP.length ≤ 4000000000 by omega)
    have NDB := Lib.hid (show DB.length ≤ 4000000000 by omega)
    have HCK := Lib.hid k1
    generalize hdp : DP.length = ndp at *
    generalize hdb : DB.length = ndb at *
    have HDP := Lib.hid hdp
    have HDB := Lib.hid hdb
    clear k1 k3 k4 hdp hdb
    have HXA := Lib.hid ((Ext.refl w3).alloc (o := .cells #[.slice xa ndp xc, .slice ya ndb yc, .bool Dl] 25))
    have HBK := Lib.hid (Go.heap_alloc_new w3 (.cells #[.slice xa ndp xc, .slice ya ndb yc, .bool Dl] 25))
    go_wp2_with ((go_at_call 14; with_reducible refine Calls.mono (num_any _ _) ?_; rintro e w' ⟨rfl, rfl⟩))
    refine Calls.mono (check_is HCK.out _ _ _ _ (HU.out.ext HXA.out) (HV.out.ext HXA.out) (by rw [HDP.out]; exact NDP.out) (by rw [HDB.out]; exact NDB.out)) ?_
    rintro e w4 ⟨rfl, hx⟩
    have HX4 := Lib.hid hx
    obtain ⟨a0, a1, a2⟩ := Ext.three HBK.out hx
    have l2 : w3.heap.size < w4.heap.size := World.block_lt_of_cell? w4 _ a0
    clear hx
    go_wp2_with ((go_at_call 14; with_reducible refine Calls.mono (num_any _ _) ?_; rintro e w' ⟨rfl, rfl⟩))
    refine Calls.mono (same_self DP DB _ _ _ _ Dl _ (HU.out.ext (HXA.out.trans HX4.out)) (HV.out.ext (HXA.out.trans HX4.out)) (HU.out.ext (HXA.out.trans HX4.out)) (HV.out.ext (HXA.out.trans HX4.out))) ?_
    rintro e W4 ⟨rfl, hx⟩
    have HX5 := Lib.hid (HX4.out.trans hx)
    have HB4 := Lib.hid ((HB.out.ext HX3.out).ext (HXA.out.trans HX5.out))
    have HP4 := Lib.hid ((HP.out.ext HX3.out).ext (HXA.out.trans HX5.out))
    clear a0 a1 a2 l2 hx
    go_wp2
    go_loopw [9, 10] (fun h i wr => ∃ (k : Nat) (b : Bool), k ≤ nb ∧ i = .int .i64 k ∧ h = .bool b ∧ (b || (B.drop k).any isHash) = (false || B.any isHash) ∧ Ext W4 wr) (fun _ i _ => nb - (intOf i).toNat)
    case atStart => exact ⟨0, _, by omega, rfl, rfl, rfl, Ext.refl _⟩
    case round =>
      obtain ⟨k, b, hk, rfl, rfl, ha, hx⟩ := hrel
      have HA := Lib.hid ha
      have HX := Lib.hid hx
      clear ha hx
      by_cases hlt : k < nb
      · have hlt' : k < B.length := by rw [NB.out]; exact hlt
        obtain ⟨b', off, hab, ⟨c0, c1, c2⟩, hb'⟩ := (HB4.out.ext HX.out).at hlt'
        cases hab
        have HT := Lib.hid (anyQ B isHash k hlt')
        generalize B[k] = t at *
        have lt1 : (k : Int) < (nb : Int) := by omega
        cases b
        · go_wp2
          go_roundw
          case rel => exact ⟨k + 1, t.cat == 6, by omega, by go_num, rfl, by rw [← HA.out, HT.out]; rfl, HX.out⟩
          case measure => simp [intOf]; omega
        · go_wp2
          go_roundw
          case rel => exact ⟨k + 1, true, by omega, by go_num, rfl, by rw [← HA.out]; rfl, HX.out⟩
          case measure => simp [intOf]; omega
      · have hkn : nb = k := by omega
        subst hkn
        have HE := Lib.hid (show b = (false || B.any isHash) by
          have e := HA.out
          rw [List.drop_of_length_le (by rw [NB.out]; exact Nat.le_refl _)] at e
          simpa using e)
        have HE1 := HE
        clear HE
        go_wp2
        go_loopw [9, 11] (fun h i wr => ∃ (k : Nat) (d : Bool), k ≤ np ∧ i = .int .i64 k ∧ h = .bool d ∧ (d || (P.drop k).any isHash) = (b || P.any isHash) ∧ Ext W4 wr) (fun _ i _ => np - (intOf i).toNat)
        case atStart => exact ⟨0, _, by omega, rfl, rfl, rfl, HX.out⟩
        case round =>
          obtain ⟨k, d, hk, rfl, rfl, ha, hx⟩ := hrel
          have HA := Lib.hid ha
          have HX := Lib.hid hx
          clear ha hx
          by_cases hlt : k < np
          · have hlt' : k < P.length := by rw [NP.out]; exact hlt
            obtain ⟨b', off, hab, ⟨c0, c1, c2⟩, hb'⟩ := (HP4.out.ext HX.out).at hlt'
            cases hab
            have HT := Lib.hid (anyQ P isHash k hlt')
            generalize P[k] = t at *
            have lt1 : (k : Int) < (np : Int) := by omega
            cases d
            · go_wp2
              go_roundw
              case rel => exact ⟨k + 1, t.cat == 6, by omega, by go_num, rfl, by rw [← HA.out, HT.out]; rfl, HX.out⟩
              case measure => simp [intOf]; omega
            · go_wp2
              go_roundw
              case rel => exact ⟨k + 1, true, by omega, by go_num, rfl, by rw [← HA.out]; rfl, HX.out⟩
              case measure => simp [intOf]; omega
          · have hkn : np = k := by omega
            subst hkn
            have HE := Lib.hid (show d = (b || P.any isHash) by
              have e := HA.out
              rw [List.drop_of_length_le (by rw [NP.out]; exact Nat.le_refl _)] at e
              simpa using e)
            have HXL := Lib.hid (HX3.out.trans (HXA.out.trans (HX5.out.trans HX.out)))
            cases d
            · have hh : B.any isHash = false ∧ P.any isHash = false := by
                have e1 := HE1.out
                have e2 := HE.out
                rw [Bool.false_or] at e1
                subst e1
                have e3 := e2.symm
                rw [Bool.or_eq_false_iff] at e3
                exact e3
              obtain ⟨g1, g2, g3⟩ := define_plain (P := P) (B := B) (long := Dl) (by rw [HD.out]) (no_hash hh.2) (no_hash hh.1)
              rw [HD.out] at g1
              simp only [Def.mk.injEq, and_true] at g1
              obtain ⟨rfl, rfl⟩ := g1
              have hnp2 : ndp = np := by rw [← HDP.out, NP.out]
              have hnb2 : ndb = nb := by rw [← HDB.out, NB.out]
              subst hnp2 hnb2
              obtain ⟨a0, a1, a2⟩ := Ext.three HBK.out (HX5.out.trans HX.out)
              have l2 : w3.heap.size < wr.heap.size := World.block_lt_of_cell? wr _ a0
              have HU5 := Lib.hid (HU.out.ext (HXA.out.trans (HX5.out.trans HX.out)))
              have HV5 := Lib.hid (HV.out.ext (HXA.out.trans (HX5.out.trans HX.out)))
              have HB5 := Lib.hid (HB4.out.ext HX.out)
              have HP5 := Lib.hid (HP4.out.ext HX.out)
              have HC := Lib.hid g2
              have HG := Lib.hid g3
              clear g2 g3 hh HE HE1 HB4 HP4
              go_wp2_with fail
              refine Calls.mono (apply_ext DP DB [] _ _ _ Dl _ HU5.out HV5.out (rdTT_nil _) NP0.out NB0.out (by simp) (by simp)) ?_
              rintro e w6 (⟨k, hk, rfl, hx⟩ | ⟨o, ao, co, ho, rfl, hx6, hro⟩)
              · rw [HG.out] at hk; cases hk
              rw [HG.out] at ho
              simp only [Except.ok.injEq] at ho
              subst ho
              have HX6 := Lib.hid hx6
              have HRO := Lib.hid hro
              obtain ⟨a0, a1, a2⟩ := Ext.three HBK.out ((HX5.out.trans HX.out).trans hx6)
              have l2 : w3.heap.size < w6.heap.size := World.block_lt_of_cell? w6 _ a0
              clear hx6 hro
              go_wp2_with fail
              refine Calls.mono (sameT_self _ _ _ (HV5.out.ext HX6.out) (HB5.out.ext HX6.out)) ?_
              rintro e w7 ⟨rfl, hx⟩
              obtain ⟨a0, a1, a2⟩ := Ext.three HBK.out (((HX5.out.trans HX.out).trans HX6.out).trans hx)
              have l2 : w3.heap.size < w7.heap.size := World.block_lt_of_cell? w7 _ a0
              have HX7 := Lib.hid (HX6.out.trans hx)
              have HR7 := Lib.hid (HRO.out.ext hx)
              clear hx
              go_wp2_with fail
              refine Calls.mono (sameT_self _ _ _ (HU5.out.ext HX7.out) (HP5.out.ext HX7.out)) ?_
              rintro e w8 ⟨rfl, hx⟩
              obtain ⟨a0, a1, a2⟩ := Ext.three HBK.out (((HX5.out.trans HX.out).trans HX7.out).trans hx)
              have l2 : w3.heap.size < w8.heap.size := World.block_lt_of_cell? w8 _ a0
              have HX8 := Lib.hid (HX7.out.trans hx)
              have HR8 := Lib.hid (HR7.out.ext hx)
              clear hx
              go_wp2_with fail
              refine Calls.mono (count_at DP 0 _ _ Dl _ HC.out (HU5.out.ext HX8.out) NP0.out) ?_
              rintro e w9 ⟨rfl, hx⟩
              have HX9 := Lib.hid (HX8.out.trans hx)
              have HR9 := Lib.hid (HR8.out.ext hx)
              clear hx
              go_wp2_with ((go_at_call 14; with_reducible refine Calls.mono (num_any _ _) ?_; rintro e w' ⟨rfl, rfl⟩))
              refine Calls.mono (sameT_self _ _ _ HR9.out (HB5.out.ext HX9.out)) ?_
              rintro e w10 ⟨rfl, hx⟩
              have HX10 := Lib.hid (HXL.out.trans (HX9.out.trans hx))
              clear hx
              go_wp2_with fail
              refine Calls.mono (live_any _) ?_
              rintro e w11 ⟨rfl, hx⟩
              have HX11 := Lib.hid (HX10.out.trans hx)
              clear hx
              go_wp2
              go_ret
              exact ⟨rfl, HX11.out⟩
            · go_wp2_with fail
              refine Calls.mono (live_any _) ?_
              rintro e w11 ⟨rfl, hx⟩
              have HX11 := Lib.hid (HXL.out.trans hx)
              clear hx
              go_wp2
              go_ret
              exact ⟨rfl, HX11.out⟩
  · have q1 : (De != 0) = true := by simpa using he
    obtain ⟨rfl, rfl, rfl⟩ : DP = [] ∧ DB = [] ∧ Dl = false := by
      have := define_err (P := P) (B := B) (long := long) (by rw [HD.out]; exact he)
      rw [HD.out] at this; exact this
    simp only [List.length_nil]
    have HXA := Lib.hid ((Ext.refl w3).alloc (o := .cells #[.slice xa 0 xc, .slice ya 0 yc, .bool false] 25))
    clear he
    go_wp2_with (first
      | (go_at_call 14; with_reducible refine Calls.mono (num_any _ _) ?_; rintro e w' ⟨rfl, rfl⟩)
      | (go_at_call 18; with_reducible refine Calls.mono (live_any _) ?_; rintro e w' ⟨rfl, hx⟩; have HX5 := Lib.hid (HX3.out.trans (HXA.out.trans hx)); clear hx))
    go_ret
    exact ⟨rfl, HX5.out⟩

end Go.Proofs.Ytlbebcioabfbgaa
