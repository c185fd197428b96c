/-
  The law MacrosTogether, walked. Conditions: those that the theorem names.
-/
import Derived.Test.YtlbebcioabfbgaaMacAG
import Derived.Test.YtlbebcioabfbgaaMacAH
namespace Go.Proofs.Ytlbebcioabfbgaa
open Go.RowKit Go.Sp
variable {W w w' : World} {F : HProp}

theorem RdTT.at_is {a : Option Addr} {cap n i m : Nat} {LL : List (List Tok)} {X : List Tok} (h : RdTT w (.slice a n cap) LL) (hX : LL[i]? = some X) (hm : X.length = m) :
    ∃ b off a' c', a = some ⟨b, off, none⟩ ∧ w.cell? ⟨b, off + i, none⟩ = some (.slice a' m c') ∧ RdT w (.slice a' m c') X ∧ b < w.heap.size := by
  obtain ⟨hi, rfl⟩ := List.getElem?_eq_some_iff.1 hX
  subst hm
  exact h.at hi

/-- what is read of all that stands still -/
structure TogRd (w : World) (al aa ap : Option Addr) (nl cl na ca pn cp : Nat) (L : List Tok) (A PL : List (List Tok)) : Prop where
  l : RdT w (.slice al nl cl) L
  a : RdTT w (.slice aa na ca) A
  p : RdTT w (.slice ap pn cp) PL

theorem TogRd.ext {al aa ap : Option Addr} {nl cl na ca pn cp : Nat} {L : List Tok} {A PL : List (List Tok)} (h : TogRd w al aa ap nl cl na ca pn cp L A PL) (k : Ext w w') : TogRd w' al aa ap nl cl na ca pn cp L A PL :=
  ⟨h.l.ext k, h.a.ext k, h.p.ext k⟩

theorem eq_tf (p : Prop) : p = True ∨ p = False := by
  by_cases h : p
  · exact .inl (eq_true h)
  · exact .inr (eq_false h)

set_option maxRecDepth 100000 in
set_option maxHeartbeats 16000000 in
theorem together_law (P B L : List Tok) (vp vb vl : Value) (long : Bool) (w : World) (hp : RdT w vp P) (hb : RdT w vb B) (hl : RdT w vl L)
    (hnP : P.length ≤ 1048576) (hnB : B.length ≤ 1048576) (hnL : L.length ≤ 1048576) :
    Calls Try.prog 7 #[.agg #[vp, vb, .bool long], vl] w fun e w' => e = .returned (.bool true) ∧ Ext w w' := by
  obtain ⟨nl, hnl⟩ : ∃ nl, L.length = nl := ⟨_, rfl⟩
  obtain ⟨al, cl, hvl, hcl⟩ := hl.capd
  rw [hnl] at hvl hcl
  subst hvl
  have h1 := (Sat.start w).alloc (.cells #[vp, vb, .bool long] 29)
  have B2 := Lib.hid h1.blk
  have HX1 := Lib.hid h1.r.toExt
  have HP := Lib.hid hp
  have HB := Lib.hid hb
  have HL := Lib.hid hl
  have NLL := Lib.hid hnl
  have NP1 := Lib.hid hnP
  have NP := Lib.hid (show P.length ≤ 4000000000 by omega)
  have NB := Lib.hid (show B.length ≤ 4000000000 by omega)
  have NL := Lib.hid (show L.length ≤ 4000000000 by omega)
  have hnl9 : nl ≤ 1048576 := by omega
  clear h1 hp hb hl hnP hnB hnL hnl
  go_enter Try.func7, Try.ntmps7
  go_wp2_with fail
  refine Calls.mono (given_at P B _ vb long _ (HP.out.ext HX1.out) (HB.out.ext HX1.out) NP.out NB.out) ?_
  rintro e w1 ⟨ux, vx, rfl, hx, hux, hvx⟩
  have HX2 := Lib.hid hx
  have HUX := Lib.hid hux
  have HVX := Lib.hid hvx
  clear hx hux hvx
  go_wp2_with fail
  refine Calls.mono (tokens_at L _ _ NL.out ((HL.out.ext HX1.out).ext HX2.out)) ?_
  rintro e w2 ⟨ul, rfl, hx, hul⟩
  have HX3 := Lib.hid (HX2.out.trans hx)
  have HMT := Lib.hid (match_ext P B L ux vx ul long w2 (HUX.out.ext hx) (HVX.out.ext hx) hul NP.out NB.out NL.out)
  clear hx hul
  go_wp2_with fail
  refine Calls.mono HMT.out ?_
  rintro e w3 (⟨k, hk, rfl, hx⟩ | ⟨x, a, c, hx, rfl, hx3, hra⟩)
  · have q1 : (k != 0) = true := by simpa using matchM_err hk
    have HX4 := Lib.hid (HX1.out.trans (HX3.out.trans hx))
    clear hx hk
    go_wp2_with (first
      | (go_at_call 14; with_reducible refine Calls.mono (num_any _ _) ?_; rintro e w' ⟨rfl, rfl⟩)
      | (go_at_call 18; with_reducible refine Calls.mono (live_any _) ?_; rintro e w' ⟨rfl, hx⟩; have HX5 := Lib.hid (HX4.out.trans hx); clear hx))
    go_ret
    exact ⟨rfl, HX5.out⟩
  · have HX4 := Lib.hid (HX3.out.trans hx3)
    have HR1 := Lib.hid hra
    obtain ⟨A, n⟩ := x
    simp only at *
    obtain ⟨t1, t2, t3, t4, t5⟩ := tog_init hx
    obtain ⟨na, hna⟩ : ∃ na, A.length = na := ⟨_, rfl⟩
    obtain ⟨d0, hd0⟩ : ∃ d0, (parts P).1.length = d0 := ⟨_, rfl⟩
    obtain ⟨Ds, hDs⟩ : ∃ Ds, (parts P).2 = Ds := ⟨_, rfl⟩
    obtain ⟨D0, hD0⟩ : ∃ D0, (parts P).1 = D0 := ⟨_, rfl⟩
    have HPL := Lib.hid (show partsL P = D0 :: Ds by rw [partsL, hDs, hD0])
    rw [hD0] at t1 t2 t3 hd0
    rw [hDs] at t3 t4
    rw [hd0] at t2 t3
    rw [NLL.out] at t5
    have NA := Lib.hid hna
    have ND := Lib.hid (show Ds.length = na by rw [← t4, hna])
    have HD0 := Lib.hid hd0
    have HFR := Lib.hid t1
    have HAR := Lib.hid t3
    have HBL := Lib.hid (matchM_bal hx)
    have hna9 : na ≤ 1048576 := by have := (matchM_le hx).1; have := NP1.out; simp only at *; omega
    obtain ⟨a0, a1, a2⟩ := Ext.three B2.out HX4.out
    have l2 : w.heap.size < w3.heap.size := World.block_lt_of_cell? w3 _ a0
    rw [hna] at HR1 ⊢
    clear hx hx3 hra HMT HUX HVX hna hd0 hDs hD0 t1 t3 t4
    go_wp2_with ((go_at_call 14; with_reducible refine Calls.mono (num_any _ _) ?_; rintro e w' ⟨rfl, rfl⟩))
    refine Calls.mono (parts_any P _ vb long _ ((HP.out.ext HX1.out).ext HX4.out) NP1.out) ?_
    rintro e w5 ⟨vpl, us, rfl, hus, hs⟩
    have hr := rowUU_rd hus hs
    rw [HPL.out] at hr
    obtain ⟨pn, hpn⟩ : ∃ pn, (D0 :: Ds).length = pn := ⟨_, rfl⟩
    have hr' := hr
    obtain ⟨-, -, -, ⟨ax, cx, rfl, -⟩, -⟩ := hr'
    rw [hpn] at hr ⊢
    have hpna : pn = na + 1 := by rw [← hpn, List.length_cons, ND.out]
    have HX5 := Lib.hid (HX4.out.trans hs.extR)
    have HT := Lib.hid (TogRd.mk ((HL.out.ext HX1.out).ext HX5.out) (HR1.out.ext hs.extR) hr)
    have HX6 := Lib.hid (HX1.out.trans HX5.out)
    clear hs hus hpn hr a0 a1 a2 l2
    obtain ⟨bp, op, a', c', rfl, hc0, hr0, hbp⟩ := HT.out.p.at_is (i := 0) (X := D0) rfl HD0.out
    have q1 : ((na : Int) != (pn : Int) - 1) = false := by rw [bne_eq_false_iff_eq]; omega
    have q2 : decide ((n : Int) < 0) = false := by simp
    have q3 : decide ((nl : Int) < (n : Int)) = false := by simp; omega
    have q3' : decide (nl < n) = false := by simp; omega
    have q4 : (0 : Int) < (pn : Int) := by omega
    have hpn9 : pn ≤ 4000000000 := by omega
    have HF0 := Lib.hid (from_is HFR.out _ _ w5 HT.out.l hr0)
    have HPN := Lib.hid hpna
    rw [Nat.add_zero] at hc0
    clear hr0 hpna
    go_wp2_with fail
    refine Calls.mono HF0.out ?_
    rintro e w6 ⟨rfl, hx⟩
    have hc0 := hx.cell hc0
    have hbp := hx.lt hbp
    have HX7 := Lib.hid hx
    clear hx HF0
    go_wp2_with fail
    go_loopg [9, 10] na (fun g s9 s10 wx => ∃ i q : Nat, i ≤ na ∧ g = na - i ∧ s9 = .int .i64 q ∧ s10 = .int .i64 i ∧ q ≤ n ∧ argsM long (Ds.drop i) (L.drop q) = .ok (A.drop i, n - q) ∧ Ext w5 wx)
    case atStart => exact ⟨0, d0, by omega, rfl, rfl, rfl, t2, HAR.out, HX7.out⟩
    case round =>
      obtain ⟨i, q, hi, rfl, rfl, rfl, hq, ha, hx⟩ := hrel
      have HA := Lib.hid ha
      have HX8 := Lib.hid hx
      clear ha hx hc0 hbp
      by_cases hlt : i < na
      · obtain ⟨m, hm, hrest, hqm⟩ := tog_step (by rw [ND.out]; exact hlt) (by rw [NA.out]; exact hlt) hq HA.out
        obtain ⟨D, hD⟩ : ∃ D, Ds[i]'(by rw [ND.out]; exact hlt) = D := ⟨_, rfl⟩
        obtain ⟨X, hX⟩ : ∃ X, A[i]'(by rw [NA.out]; exact hlt) = X := ⟨_, rfl⟩
        rw [hD, hX] at hm
        have hPi : (D0 :: Ds)[i + 1]? = some D := by rw [List.getElem?_cons_succ, ← hD]; exact List.getElem?_eq_getElem _
        have hAi : A[i]? = some X := by rw [← hX]; exact List.getElem?_eq_getElem _
        have hXb : bal X = true := HBL.out X (by rw [← hX]; exact List.getElem_mem _)
        obtain ⟨g1, g2, g3⟩ := arg_together hm
        rw [List.length_drop, NLL.out] at g1 g2
        obtain ⟨a1, ha1⟩ : ∃ a1, q + gap D (L.drop q) = a1 := ⟨_, rfl⟩
        obtain ⟨nd, hnd⟩ : ∃ nd, D.length = nd := ⟨_, rfl⟩
        obtain ⟨k, hk⟩ : ∃ k, X.length = k := ⟨_, rfl⟩
        rw [List.drop_drop, ha1, hk, hnd] at g3
        obtain ⟨bd, od, ad, cd, had, hcd, hrd, hbd⟩ := HT.out.p.at_is hPi hnd
        cases had
        obtain ⟨bx, ox, ax, cx', rfl, hcx, hrx, hbx⟩ := HT.out.a.at_is hAi hk
        have ha1l : a1 < nl := by omega
        obtain ⟨bl, ol, rfl, hat1, hbl⟩ := HT.out.l.at (i := a1) (by rw [NLL.out]; exact ha1l)
        have hnd9 : nd ≤ 1048576 := by rcases g3 with ⟨-, -, g, -⟩ | ⟨-, -, g, -⟩ <;> omega
        have hk9 : k ≤ 1048576 := by rcases g3 with ⟨-, -, g, -⟩ | ⟨-, -, g, -⟩ <;> omega
        have hka : a1 + k ≤ nl := by rcases g3 with ⟨-, -, g, -⟩ | ⟨-, -, g, -⟩ <;> omega
        have HG := Lib.hid g3
        have HA1 := Lib.hid ha1
        have HND := Lib.hid hnd
        have HK := Lib.hid hk
        have HRD := Lib.hid hrd
        have HRX := Lib.hid hrx
        have HCD := Lib.hid hcd
        have HCX := Lib.hid hcx
        have HAT := Lib.hid hat1
        have HRest := Lib.hid hrest
        have HQM := Lib.hid hqm
        have hcl' : a1 < cl := by omega
        have cd0 := HX8.out.cell hcd
        have ld0 := HX8.out.lt hbd
        have lt1 : (i : Int) < (na : Int) := by omega
        have i1 : 0 ≤ (i : Int) + 1 := by omega
        have i2 : (i : Int) + 1 < (pn : Int) := by have := HPN.out; omega
        have i3 : ((i : Int) + 1).toNat = i + 1 := by omega
        have hq1 : q ≤ a1 := by omega
        have hqml : q + m ≤ nl := by omega
        clear g1 g2 g3 hm hrest hqm hD hX hPi hAi ha1 hnd hk hrd hrx hcd hcx hat1
        go_upto_block 2 with fail
        go_cut [9] from 69 to 87 (fun s9 wx => s9 = .int .i64 a1 ∧ Ext w5 wx)
        case first => as_aux_lemma =>
          clear cd0 ld0 i1 i2 i3
          by_cases hD0 : D = []
          · have hnd0 : nd = 0 := by rw [← HND.out, hD0]; rfl
            subst hnd0
            have HSP := Lib.hid (show spaces (L.drop q) = a1 - q by have := HA1.out; rw [gap, if_pos hD0] at this; omega)
            clear hD0
            go_wp2_with fail
            go_loopg [9] (a1 - q) (fun g s9 wx => ∃ z : Nat, q ≤ z ∧ z ≤ a1 ∧ g = a1 - z ∧ s9 = .int .i64 z ∧ spaces (L.drop z) = a1 - z ∧ Ext w5 wx)
            case atStart => exact ⟨q, Nat.le_refl _, hq1, rfl, rfl, HSP.out, HX8.out⟩
            case round =>
              obtain ⟨z, hz1, hz2, rfl, rfl, hs, hx⟩ := hrel
              have HX9 := Lib.hid hx
              have HS := Lib.hid hs
              clear hs hx
              have hzl : z < L.length := by rw [NLL.out]; omega
              obtain ⟨b', o', e', ⟨p0, p1, p2⟩, hb'⟩ := (HT.out.l.ext HX9.out).at hzl
              cases e'
              have lt2 : (z : Int) < (nl : Int) := by omega
              by_cases hza : z < a1
              · obtain ⟨h1, h2, h3⟩ := spaces_more1 (L := L) (q := z) (s := a1 - (z + 1)) (by rw [HS.out]; omega)
                have q5 : (L[z].cat == 10) = true := by simp [h2]
                have HS3 := Lib.hid h3
                generalize L[z] = t at *
                clear h1 h2 h3 hzl
                go_wp2
                go_roundg (a1 - (z + 1))
                case measure => omega
                case rel => exact ⟨z + 1, by omega, by omega, rfl, by go_num, HS3.out, HX9.out⟩
              · have hz3 : a1 = z := by omega
                have q5 : (L[z].cat == 10) = false := by
                  have := spaces_none hzl (by rw [HS.out]; omega)
                  simpa using this
                generalize L[z] = t at *
                clear hzl
                subst hz3
                go_wp2
                go_meet
                exact ⟨rfl, HX9.out⟩
          · have hnd0 : 0 < nd := by rw [← HND.out]; exact List.length_pos_iff.2 hD0
            have hqa : a1 = q := by have := HA1.out; rw [gap, if_neg hD0] at this; omega
            have q5 : ((nd : Int) == 0) = false := by rw [beq_eq_false_iff_ne]; omega
            clear hD0
            subst hqa
            go_wp2_with fail
            go_loopg [9] 0 (fun g s9 wx => g = 0 ∧ s9 = .int .i64 a1 ∧ Ext w5 wx)
            case atStart => exact ⟨rfl, rfl, HX8.out⟩
            case round =>
              obtain ⟨rfl, rfl, hx⟩ := hrel
              have HX9 := Lib.hid hx
              clear hx
              go_wp2
              go_meet
              exact ⟨rfl, HX9.out⟩
        case rest =>
          obtain ⟨rfl, hx⟩ := hcut
          have HX9 := Lib.hid hx
          clear hx cd0 ld0 i1 i2 i3
          have cx0 := HX9.out.cell HCX.out
          have lx0 := HX9.out.lt hbx
          obtain ⟨bb, hbb⟩ : ∃ bb, brB (L.drop a1) X D = bb := ⟨_, rfl⟩
          obtain ⟨pp, hpp⟩ : ∃ pp, plB (L.drop a1) X D = pp := ⟨_, rfl⟩
          have HBB := Lib.hid hbb
          have HPP := Lib.hid hpp
          clear hbb hpp
          go_upto_region 15 with fail
          go_cut [13] from 93 to 145 (fun s13 wx => s13 = .bool bb ∧ Ext w5 wx)
          case first => as_aux_lemma =>
            have hqL : a1 < L.length := by rw [NLL.out]; exact ha1l
            obtain ⟨t, ht⟩ : ∃ t, L[a1] = t := ⟨_, rfl⟩
            obtain ⟨b1, hb1⟩ : ∃ b1, X.isPrefixOf (L.drop (a1 + 1)) = b1 := ⟨_, rfl⟩
            obtain ⟨b3, hb3⟩ : ∃ b3, D.isPrefixOf (L.drop (a1 + 2 + k)) = b3 := ⟨_, rfl⟩
            have E1 := Lib.hid (show t.cat ≠ 1 → bb = false from fun h => by rw [← HBB.out]; exact brB_no1 hqL (by rw [ht]; exact h))
            have E2 := Lib.hid (show b1 = false → bb = false from fun h => by rw [← HBB.out]; exact brB_no2 hqL (by rw [hb1]; exact h))
            have E3 := Lib.hid (show ¬ a1 + 1 + k < nl → bb = false from fun h => by rw [← HBB.out]; exact brB_no3 hqL (by rw [HK.out, NLL.out]; exact h))
            have E4 := Lib.hid (show ∀ h : a1 + 1 + k < L.length, t.cat = 1 → b1 = true → bb = (L[a1 + 1 + k].cat == 2 && b3) from fun h h1 h2 => by
              rw [← HBB.out]
              have := brB_yes (X := X) (D := D) hqL (by rw [ht]; exact h1) (by rw [hb1]; exact h2) (by rw [HK.out]; exact h)
              simp only [HK.out] at this
              rw [this, hb3])
            rw [ht] at HAT
            obtain ⟨p0, p1, p2⟩ := HAT.out.ext HX9.out
            have hbl9 := HX9.out.lt hbl
            have HRX9 := Lib.hid (HRX.out.ext HX9.out)
            have HRD9 := Lib.hid (HRD.out.ext HX9.out)
            have HB1 := Lib.hid hb1
            have HB3 := Lib.hid hb3
            have HD1 := Lib.hid ((HT.out.l.ext HX9.out).dropI (m := a1 + 1) (by rw [NLL.out]; omega))
            have HPX := Lib.hid (show b1 = true → a1 + 1 + k ≤ nl from fun h => by
              rw [h, List.isPrefixOf_iff_prefix] at hb1
              have := hb1.length_le
              rw [HK.out, List.length_drop, NLL.out] at this
              omega)
            have lt2 : (a1 : Int) < (nl : Int) := by omega
            have n1 : 0 ≤ (a1 : Int) + 1 := by omega
            have n2 : (a1 : Int) + 1 ≤ (nl : Int) := by omega
            have n3 : ((a1 : Int) + 1).toNat = a1 + 1 := by omega
            have w1' : IntKind.i64.wrap ((a1 : Int) + 1) = (a1 : Int) + 1 := IntWalk.i64_in _ (by omega)
            have w2' : IntKind.i64.wrap ((a1 : Int) + 1 + (k : Int)) = (a1 : Int) + 1 + (k : Int) := IntWalk.i64_in _ (by omega)
            have w3' : IntKind.i64.wrap ((a1 : Int) + 2) = (a1 : Int) + 2 := IntWalk.i64_in _ (by omega)
            have w4' : IntKind.i64.wrap ((a1 : Int) + 2 + (k : Int)) = (a1 : Int) + 2 + (k : Int) := IntWalk.i64_in _ (by omega)
            clear ht hb1 hb3 hqL
            by_cases h1 : t.cat = 1
            · have c1 : (t.cat == 1) = true := by simp [h1]
              have H1 := Lib.hid h1
              clear h1
              cases b1
              · have EB := Lib.hid (E2.out rfl)
                rcases eq_tf (cl = a1 + 1) with hc1 | hc1
                all_goals
                  go_quiet (first
                    | (go_at_call 30; refine Sp.quiet_of (from_qis HB1.out _ _ _ ?_ ?_); (refine RdT.drewN ?_ _; simpa [sliced, Addr.add_lit, hc1] using HD1.out); exact HRX9.out.drewN _)
                    | (go_at_call 30; refine Sp.quiet_of (from_qis HB3.out _ _ _ ?_ ?_); (refine RdT.drewN ?_ _; simpa [sliced, Addr.add_lit, hc2] using HD3.out); exact HRD9.out.drewN _))
                  go_wp2
                  go_meet
                  exact ⟨by rw [EB.out], HX9.out.drewN⟩
              · have hax := HPX.out rfl
                by_cases h3 : a1 + 1 + k < nl
                · have h3' : a1 + 1 + k < L.length := by rw [NLL.out]; exact h3
                  obtain ⟨b', o', e', ⟨r0, r1, r2⟩, hb'⟩ := (HT.out.l.ext HX9.out).at h3'
                  cases e'
                  have EB := Lib.hid (E4.out h3' H1.out rfl)
                  generalize L[a1 + 1 + k] = u at *
                  have HD3 := Lib.hid ((HT.out.l.ext HX9.out).dropI (m := a1 + 2 + k) (by rw [NLL.out]; omega))
                  have lt3 : (a1 : Int) + 1 + (k : Int) < (nl : Int) := by omega
                  have n4 : 0 ≤ (a1 : Int) + 1 + (k : Int) := by omega
                  have n5 : ((a1 : Int) + 1 + (k : Int)).toNat = a1 + 1 + k := by omega
                  have n6 : 0 ≤ (a1 : Int) + 2 + (k : Int) := by omega
                  have n7 : (a1 : Int) + 2 + (k : Int) ≤ (nl : Int) := by omega
                  have n8 : ((a1 : Int) + 2 + (k : Int)).toNat = a1 + 2 + k := by omega
                  clear h3 h3'
                  have hc1 : (cl = a1 + 1) = False := eq_false (by omega)
                  by_cases h5 : u.cat = 2
                  · have c2 : (u.cat == 2) = true := by simp [h5]
                    clear h5
                    have EB2 := Lib.hid (show bb = b3 by rw [EB.out, c2]; rfl)
                    rcases eq_tf (cl = a1 + 2 + k) with hc2 | hc2
                    all_goals
                      go_quiet (first
                        | (go_at_call 30; refine Sp.quiet_of (from_qis HB1.out _ _ _ ?_ ?_); (refine RdT.drewN ?_ _; simpa [sliced, Addr.add_lit, hc1] using HD1.out); exact HRX9.out.drewN _)
                        | (go_at_call 30; refine Sp.quiet_of (from_qis HB3.out _ _ _ ?_ ?_); (refine RdT.drewN ?_ _; simpa [sliced, Addr.add_lit, hc2] using HD3.out); exact HRD9.out.drewN _))
                      go_wp2
                      go_meet
                      exact ⟨by rw [EB2.out], HX9.out.drewN⟩
                  · have c2 : (u.cat == 2) = false := by simp [h5]
                    clear h5
                    have EB2 := Lib.hid (show bb = false by rw [EB.out, c2]; rfl)
                    go_quiet (first
                      | (go_at_call 30; refine Sp.quiet_of (from_qis HB1.out _ _ _ ?_ ?_); (refine RdT.drewN ?_ _; simpa [sliced, Addr.add_lit, hc1] using HD1.out); exact HRX9.out.drewN _)
                      | (go_at_call 30; refine Sp.quiet_of (from_qis HB3.out _ _ _ ?_ ?_); (refine RdT.drewN ?_ _; simpa [sliced, Addr.add_lit, hc2] using HD3.out); exact HRD9.out.drewN _))
                    go_wp2
                    go_meet
                    exact ⟨by rw [EB2.out], HX9.out.drewN⟩
                · have EB := Lib.hid (E3.out h3)
                  have lt3 : ¬ (a1 : Int) + 1 + (k : Int) < (nl : Int) := by omega
                  clear h3
                  rcases eq_tf (cl = a1 + 1) with hc1 | hc1
                  all_goals
                    go_quiet (first
                      | (go_at_call 30; refine Sp.quiet_of (from_qis HB1.out _ _ _ ?_ ?_); (refine RdT.drewN ?_ _; simpa [sliced, Addr.add_lit, hc1] using HD1.out); exact HRX9.out.drewN _)
                      | (go_at_call 30; refine Sp.quiet_of (from_qis HB3.out _ _ _ ?_ ?_); (refine RdT.drewN ?_ _; simpa [sliced, Addr.add_lit, hc2] using HD3.out); exact HRD9.out.drewN _))
                    go_wp2
                    go_meet
                    exact ⟨by rw [EB.out], HX9.out.drewN⟩
            · have c1 : (t.cat == 1) = false := by simp [h1]
              have EB := Lib.hid (E1.out h1)
              clear h1
              go_quiet (first
                | (go_at_call 30; refine Sp.quiet_of (from_qis HB1.out _ _ _ ?_ ?_); (refine RdT.drewN ?_ _; simpa [sliced, Addr.add_lit, hc1] using HD1.out); exact HRX9.out.drewN _)
                | (go_at_call 30; refine Sp.quiet_of (from_qis HB3.out _ _ _ ?_ ?_); (refine RdT.drewN ?_ _; simpa [sliced, Addr.add_lit, hc2] using HD3.out); exact HRD9.out.drewN _))
              go_wp2
              go_meet
              exact ⟨by rw [EB.out], HX9.out.drewN⟩
          case rest =>
            obtain ⟨rfl, hx⟩ := hcut
            have HX10 := Lib.hid hx
            clear hx
            have cx0 := HX10.out.cell HCX.out
            have lx0 := HX10.out.lt hbx
            go_upto_region 16 with fail
            go_cut [14] from 146 to 171 (fun s14 wx => s14 = .bool pp ∧ Ext w5 wx)
            case first => as_aux_lemma =>
              obtain ⟨b1, hb1⟩ : ∃ b1, X.isPrefixOf (L.drop a1) = b1 := ⟨_, rfl⟩
              obtain ⟨b3, hb3⟩ : ∃ b3, D.isPrefixOf (L.drop (a1 + k)) = b3 := ⟨_, rfl⟩
              have EP := Lib.hid (show pp = (b1 && b3 && (decide (D ≠ []) || k == 1)) by rw [← HPP.out, plB_at, HK.out, hb1, hb3])
              have HB1 := Lib.hid hb1
              have HB3 := Lib.hid hb3
              have HD1 := Lib.hid ((HT.out.l.ext HX10.out).dropI (m := a1) (by rw [NLL.out]; omega))
              have HD3 := Lib.hid ((HT.out.l.ext HX10.out).dropI (m := a1 + k) (by rw [NLL.out]; omega))
              have HRX9 := Lib.hid (HRX.out.ext HX10.out)
              have HRD9 := Lib.hid (HRD.out.ext HX10.out)
              have lt2 : (a1 : Int) ≤ (nl : Int) := by omega
              have n5 : 0 ≤ (a1 : Int) + (k : Int) := by omega
              have n6 : (a1 : Int) + (k : Int) ≤ (nl : Int) := by omega
              have n7 : ((a1 : Int) + (k : Int)).toNat = a1 + k := by omega
              have w2' : IntKind.i64.wrap ((a1 : Int) + (k : Int)) = (a1 : Int) + (k : Int) := IntWalk.i64_in _ (by omega)
              clear hb1 hb3
              have hc1 : (cl = a1) = False := eq_false (by omega)
              cases b1
              · skip
                go_quiet (first
                  | (go_at_call 30; refine Sp.quiet_of (from_qis HB1.out _ _ _ ?_ ?_); (refine RdT.drewN ?_ _; simpa [sliced, Addr.add_lit, hc1] using HD1.out); exact HRX9.out.drewN _)
                  | (go_at_call 30; refine Sp.quiet_of (from_qis HB3.out _ _ _ ?_ ?_); (refine RdT.drewN ?_ _; simpa [sliced, Addr.add_lit, hc2] using HD3.out); exact HRD9.out.drewN _))
                go_wp2
                go_meet
                exact ⟨by rw [EP.out]; rfl, HX10.out.drewN⟩
              · cases b3
                · rcases eq_tf (cl = a1 + k) with hc2 | hc2
                  all_goals
                    go_quiet (first
                      | (go_at_call 30; refine Sp.quiet_of (from_qis HB1.out _ _ _ ?_ ?_); (refine RdT.drewN ?_ _; simpa [sliced, Addr.add_lit, hc1] using HD1.out); exact HRX9.out.drewN _)
                      | (go_at_call 30; refine Sp.quiet_of (from_qis HB3.out _ _ _ ?_ ?_); (refine RdT.drewN ?_ _; simpa [sliced, Addr.add_lit, hc2] using HD3.out); exact HRD9.out.drewN _))
                    go_wp2
                    go_meet
                    exact ⟨by rw [EP.out]; rfl, HX10.out.drewN⟩
                · by_cases hD0 : 0 < nd
                  · have c1 : decide ((0 : Int) < (nd : Int)) = true := by simp; omega
                    have c1' : decide (0 < nd) = true := by simp; omega
                    have EQ := Lib.hid (show pp = true by
                      rw [EP.out]
                      have : D ≠ [] := by { intro h; rw [h] at HND; have := HND.out; simp at this; omega }
                      simp [this])
                    clear hD0
                    rcases eq_tf (cl = a1 + k) with hc2 | hc2
                    all_goals
                      go_quiet (first
                        | (go_at_call 30; refine Sp.quiet_of (from_qis HB1.out _ _ _ ?_ ?_); (refine RdT.drewN ?_ _; simpa [sliced, Addr.add_lit, hc1] using HD1.out); exact HRX9.out.drewN _)
                        | (go_at_call 30; refine Sp.quiet_of (from_qis HB3.out _ _ _ ?_ ?_); (refine RdT.drewN ?_ _; simpa [sliced, Addr.add_lit, hc2] using HD3.out); exact HRD9.out.drewN _))
                      go_wp2
                      go_meet
                      exact ⟨by rw [EQ.out], HX10.out.drewN⟩
                  · have c1 : decide ((0 : Int) < (nd : Int)) = false := by simp; omega
                    have c1' : decide (0 < nd) = false := by simp; omega
                    have hDn : D = [] := List.eq_nil_of_length_eq_zero (by rw [HND.out]; omega)
                    have EQ := Lib.hid (show pp = (k == 1) by rw [EP.out, hDn]; simp)
                    clear hD0 hDn
                    by_cases hk1 : k = 1
                    · have c2 : ((k : Int) == 1) = true := by rw [beq_iff_eq]; omega
                      have EK := Lib.hid (show pp = true by rw [EQ.out, hk1]; rfl)
                      clear hk1
                      rcases eq_tf (cl = a1 + k) with hc2 | hc2
                      all_goals
                        go_quiet (first
                          | (go_at_call 30; refine Sp.quiet_of (from_qis HB1.out _ _ _ ?_ ?_); (refine RdT.drewN ?_ _; simpa [sliced, Addr.add_lit, hc1] using HD1.out); exact HRX9.out.drewN _)
                          | (go_at_call 30; refine Sp.quiet_of (from_qis HB3.out _ _ _ ?_ ?_); (refine RdT.drewN ?_ _; simpa [sliced, Addr.add_lit, hc2] using HD3.out); exact HRD9.out.drewN _))
                        go_wp2
                        go_meet
                        exact ⟨by rw [EK.out], HX10.out.drewN⟩
                    · have c2 : ((k : Int) == 1) = false := by rw [beq_eq_false_iff_ne]; omega
                      have EK := Lib.hid (show pp = false by rw [EQ.out]; simp [hk1])
                      clear hk1
                      rcases eq_tf (cl = a1 + k) with hc2 | hc2
                      all_goals
                        go_quiet (first
                          | (go_at_call 30; refine Sp.quiet_of (from_qis HB1.out _ _ _ ?_ ?_); (refine RdT.drewN ?_ _; simpa [sliced, Addr.add_lit, hc1] using HD1.out); exact HRX9.out.drewN _)
                          | (go_at_call 30; refine Sp.quiet_of (from_qis HB3.out _ _ _ ?_ ?_); (refine RdT.drewN ?_ _; simpa [sliced, Addr.add_lit, hc2] using HD3.out); exact HRD9.out.drewN _))
                        go_wp2
                        go_meet
                        exact ⟨by rw [EK.out], HX10.out.drewN⟩
            case rest => as_aux_lemma =>
              obtain ⟨rfl, hx⟩ := hcut
              have HX11 := Lib.hid hx
              clear hx
              have e9 : cl ≠ a1 := by omega
              rcases HG.out with ⟨g1, g2, g3, g4⟩ | ⟨g1, g2, g3, g4⟩
              · rw [HBB.out] at g1
                rw [HPP.out] at g2
                subst g1
                have hqm : q + m = a1 + 2 + k + nd := by have := HA1.out; omega
                have hz : a1 + 2 + k ≤ nl := by omega
                have n5 : 0 ≤ (a1 : Int) + 2 + (k : Int) := by omega
                have n5' : (a1 : Int) ≤ (a1 : Int) + 2 + (k : Int) := by omega
                have n6 : (a1 : Int) + 2 + (k : Int) ≤ (cl : Int) := by omega
                have n7 : ((a1 : Int) + 2 + (k : Int)).toNat = a1 + 2 + k := by omega
                have HSHC := Lib.hid (show D ≠ [] → _ from fun hD => shorter_no ((L.drop a1).take (2 + k)) D (sliced (some ⟨bl, ol, none⟩) a1 (a1 + 2 + k) cl 3) _ wc (g4 hD) (by
                  have := (HT.out.l.ext HX11.out).midI (l := a1) (m := a1 + 2 + k) (by omega) (by rw [NLL.out]; exact hz)
                  rwa [show a1 + 2 + k - a1 = 2 + k by omega] at this) (HRD.out.ext HX11.out) (by rw [List.length_take]; omega) (by rw [HND.out]; omega))
                clear g3 g4 hz
                have HQ2 := Lib.hid hqm
                clear hqm
                by_cases hk0 : k = 0
                · have c1 : ((k : Int) == 0) = true := by rw [beq_iff_eq]; omega
                  have hp0 : pp = false := by cases pp; rfl; exact absurd ⟨hk0, rfl⟩ g2
                  subst hp0
                  clear hk0 g2
                  by_cases hD0 : D = []
                  · have c2 : ¬ (0 : Int) < (nd : Int) := by have := HND.out; rw [hD0] at this; simp at this; omega
                    clear hD0
                    go_wp2_with fail
                    go_roundg (na - (i + 1))
                    case measure => omega
                    case rel => exact ⟨i + 1, q + m, by omega, rfl, by rw [HQ2.out]; go_num, by go_num, HQM.out, HRest.out, HX11.out⟩
                  · have c2 : (0 : Int) < (nd : Int) := by have := List.length_pos_iff.2 hD0; have := HND.out; omega
                    have HSH := Lib.hid (HSHC.out hD0)
                    clear hD0
                    go_wp2_with fail
                    refine Calls.mono (by simpa [sliced, e9, Addr.add_lit] using HSH.out) ?_
                    rintro e w' ⟨rfl, hx⟩
                    have HX12 := Lib.hid (HX11.out.trans hx)
                    clear hx
                    go_wp2_with fail
                    go_roundg (na - (i + 1))
                    case measure => omega
                    case rel => exact ⟨i + 1, q + m, by omega, rfl, by rw [HQ2.out]; go_num, by go_num, HQM.out, HRest.out, HX12.out⟩
                · have c1 : ((k : Int) == 0) = false := by rw [beq_eq_false_iff_ne]; omega
                  clear hk0 g2
                  by_cases hD0 : D = []
                  · have c2 : ¬ (0 : Int) < (nd : Int) := by have := HND.out; rw [hD0] at this; simp at this; omega
                    clear hD0
                    go_wp2_with fail
                    go_roundg (na - (i + 1))
                    case measure => omega
                    case rel => exact ⟨i + 1, q + m, by omega, rfl, by rw [HQ2.out]; go_num, by go_num, HQM.out, HRest.out, HX11.out⟩
                  · have c2 : (0 : Int) < (nd : Int) := by have := List.length_pos_iff.2 hD0; have := HND.out; omega
                    have HSH := Lib.hid (HSHC.out hD0)
                    clear hD0
                    go_wp2_with fail
                    refine Calls.mono (by simpa [sliced, e9, Addr.add_lit] using HSH.out) ?_
                    rintro e w' ⟨rfl, hx⟩
                    have HX12 := Lib.hid (HX11.out.trans hx)
                    clear hx
                    go_wp2_with fail
                    go_roundg (na - (i + 1))
                    case measure => omega
                    case rel => exact ⟨i + 1, q + m, by omega, rfl, by rw [HQ2.out]; go_num, by go_num, HQM.out, HRest.out, HX12.out⟩
              · rw [HBB.out, HPP.out] at g1
                rw [HPP.out] at g2
                subst g2
                have hqm : q + m = a1 + k + nd := by have := HA1.out; omega
                have hz : a1 + k + nd ≤ nl := by omega
                have n5 : 0 ≤ (a1 : Int) + (k : Int) + (nd : Int) := by omega
                have n5' : (a1 : Int) ≤ (a1 : Int) + (k : Int) + (nd : Int) := by omega
                have n6 : (a1 : Int) + (k : Int) + (nd : Int) ≤ (cl : Int) := by omega
                have n7 : ((a1 : Int) + (k : Int) + (nd : Int)).toNat = a1 + k + nd := by omega
                have HSHC := Lib.hid (show D ≠ [] → _ from fun hD => shorter_no ((L.drop a1).take (k + nd)) D (sliced (some ⟨bl, ol, none⟩) a1 (a1 + k + nd) cl 3) _ wc (g4 hD) (by
                  have := (HT.out.l.ext HX11.out).midI (l := a1) (m := a1 + k + nd) (by omega) (by rw [NLL.out]; exact hz)
                  rwa [show a1 + k + nd - a1 = k + nd by omega] at this) (HRD.out.ext HX11.out) (by rw [List.length_take]; omega) (by rw [HND.out]; omega))
                clear g3 g4 hz
                have HQ2 := Lib.hid hqm
                clear hqm
                cases bb
                · clear g1
                  by_cases hD0 : D = []
                  · have c2 : ¬ (0 : Int) < (nd : Int) := by have := HND.out; rw [hD0] at this; simp at this; omega
                    clear hD0
                    go_wp2_with fail
                    go_roundg (na - (i + 1))
                    case measure => omega
                    case rel => exact ⟨i + 1, q + m, by omega, rfl, by rw [HQ2.out]; go_num, by go_num, HQM.out, HRest.out, HX11.out⟩
                  · have c2 : (0 : Int) < (nd : Int) := by have := List.length_pos_iff.2 hD0; have := HND.out; omega
                    have HSH := Lib.hid (HSHC.out hD0)
                    clear hD0
                    go_wp2_with fail
                    refine Calls.mono (by simpa [sliced, e9, Addr.add_lit] using HSH.out) ?_
                    rintro e w' ⟨rfl, hx⟩
                    have HX12 := Lib.hid (HX11.out.trans hx)
                    clear hx
                    go_wp2_with fail
                    go_roundg (na - (i + 1))
                    case measure => omega
                    case rel => exact ⟨i + 1, q + m, by omega, rfl, by rw [HQ2.out]; go_num, by go_num, HQM.out, HRest.out, HX12.out⟩
                · have hk0 : k = 0 := by
                    rcases Nat.eq_zero_or_pos k with h | h
                    · exact h
                    · exact absurd ⟨rfl, fun h2 => by omega⟩ g1
                  have c1 : ((k : Int) == 0) = true := by rw [beq_iff_eq]; omega
                  clear hk0 g1
                  by_cases hD0 : D = []
                  · have c2 : ¬ (0 : Int) < (nd : Int) := by have := HND.out; rw [hD0] at this; simp at this; omega
                    clear hD0
                    go_wp2_with fail
                    go_roundg (na - (i + 1))
                    case measure => omega
                    case rel => exact ⟨i + 1, q + m, by omega, rfl, by rw [HQ2.out]; go_num, by go_num, HQM.out, HRest.out, HX11.out⟩
                  · have c2 : (0 : Int) < (nd : Int) := by have := List.length_pos_iff.2 hD0; have := HND.out; omega
                    have HSH := Lib.hid (HSHC.out hD0)
                    clear hD0
                    go_wp2_with fail
                    refine Calls.mono (by simpa [sliced, e9, Addr.add_lit] using HSH.out) ?_
                    rintro e w' ⟨rfl, hx⟩
                    have HX12 := Lib.hid (HX11.out.trans hx)
                    clear hx
                    go_wp2_with fail
                    go_roundg (na - (i + 1))
                    case measure => omega
                    case rel => exact ⟨i + 1, q + m, by omega, rfl, by rw [HQ2.out]; go_num, by go_num, HQM.out, HRest.out, HX12.out⟩
      · have hkn : na = i := by omega
        subst hkn
        have hu := tog_end (by rw [ND.out]; exact Nat.le_refl _) HA.out
        have hqn : q = n := by omega
        subst hqn
        have HX9 := Lib.hid (HX6.out.trans HX8.out)
        go_wp2_with fail
        refine Calls.mono (live_any _) ?_
        rintro e w11 ⟨rfl, hx⟩
        have HX11 := Lib.hid (HX9.out.trans hx)
        clear hx
        go_wp2
        go_ret
        exact ⟨rfl, HX11.out⟩

end Go.Proofs.Ytlbebcioabfbgaa
