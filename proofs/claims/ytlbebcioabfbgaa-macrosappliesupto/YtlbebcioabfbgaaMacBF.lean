/-
  The reference's stands, stripped, delimited. Conditions: those that each theorem names.
-/
import Derived.Test.YtlbebcioabfbgaaMacBE
namespace Go.Proofs.Ytlbebcioabfbgaa
open Go.RowKit Go.Sp
variable {W w w' : World} {F : HProp}

theorem sameT_isQ {b : Bool} (xs ys : List Tok) (v u : Value) (w : World) (hb : decide (xs = ys) = b) (hv : RdT w v xs) (hu : RdT w u ys) :
    Calls Try.prog 16 #[v, u] w fun e w' => e = .returned (.bool b) ∧ Ext w w' := by
  refine Calls.mono (sameT_any xs ys v u w hv hu) ?_
  rintro e w' ⟨rfl, q, rfl⟩
  exact ⟨by rw [hb], (Ext.refl _).drewN⟩

set_option maxHeartbeats 1000000 in
theorem standsR_any (L D : List Tok) (v vd : Value) (i : Nat) (w : World) (hv : RdT w v L) (hd : RdT w vd D) (hi : i ≤ L.length) (hD : 0 < D.length) (hn9 : L.length ≤ 4000000000) (hD9 : D.length ≤ 4000000000) :
    Calls Try.prog 63 #[v, .int .i64 i, vd] w fun e w' => e = .returned (.bool (D.isPrefixOf (L.drop i))) ∧ Ext w w' := by
  obtain ⟨a, c, hv', hc⟩ := hv.capd
  obtain ⟨a', c', hd', hc'⟩ := hd.capd
  by_cases hg : D.length ≤ L.length - i
  · subst hv'
    obtain ⟨b', off, rfl, hm⟩ := hv.mid (i := i) (m := D.length) (by omega) (by omega)
    have HP := Lib.hid (show D.isPrefixOf (L.drop i) = decide ((L.drop i).take D.length = D) by rw [prefix_take, List.length_drop]; simp [hg])
    obtain ⟨r, hr'⟩ : ∃ r, decide ((L.drop i).take D.length = D) = r := ⟨_, rfl⟩
    have HR := Lib.hid hr'
    have HS := Lib.hid (sameT_isQ _ D _ vd w hr' hm hd)
    clear hr' hm hd hv
    generalize hn : L.length = n at *
    generalize hn' : D.length = m at *
    clear hn hn'
    subst hd'
    have g1 : ((m : Int) ≤ (n : Int) - (i : Int)) := by omega
    have g3 : (i : Int) + (m : Int) ≤ (c : Int) := by omega
    have e3 : ((i : Int) + (m : Int)).toNat = i + m := by omega
    have e4 : i + m - i = m := by omega
    go_enter Try.func63, Try.ntmps63
    go_wp2_with fail
    all_goals
      refine Calls.mono (by simpa [e4] using HS.out) ?_
      rintro e w1 ⟨rfl, hx⟩
      have HX := Lib.hid hx
      clear hx
      go_wp2
      go_ret
      exact ⟨by rw [HP.out, HR.out]; rfl, HX.out⟩
  · have HP := Lib.hid (show D.isPrefixOf (L.drop i) = false by rw [prefix_take, List.length_drop]; simp [hg])
    clear hv hd
    generalize hn : L.length = n at *
    generalize hn' : D.length = m at *
    clear hn hn'
    subst hv' hd'
    have g2 : ¬ ((m : Int) ≤ (n : Int) - (i : Int)) := by omega
    go_enter Try.func63, Try.ntmps63
    go_wp2
    go_ret
    exact ⟨by rw [HP.out]; rfl, Ext.refl _⟩

theorem wrapB_no {X : List Tok} (h : X.length < 2) : stripR X = X := by
  rw [stripR, if_neg]
  simp only [wrapB, Bool.and_eq_true, decide_eq_true_eq]
  omega
theorem wrapB_is {X : List Tok} (h : 2 ≤ X.length) : wrapB X = ((X[0].cat == 1) && (X[X.length - 1].cat == 2) && bal ((X.drop 1).take (X.length - 2))) := by
  have e1 : X.getD 0 default = X[0] := by rw [List.getD_eq_getElem?_getD, List.getElem?_eq_getElem (by omega)]; rfl
  have e2 : X.getD (X.length - 1) default = X[X.length - 1] := by rw [List.getD_eq_getElem?_getD, List.getElem?_eq_getElem (by omega)]; rfl
  rw [wrapB, e1, e2]
  simp [h]

set_option maxRecDepth 100000 in
set_option maxHeartbeats 1000000 in
theorem strippedR_any (X : List Tok) (v : Value) (w : World) (hv : RdT w v X) (hn9 : X.length ≤ 4000000000) :
    Calls Try.prog 64 #[v] w fun e w' => ∃ v', e = .returned v' ∧ View v X v' (stripR X) ∧ Ext w w' := by
  have HV := Lib.hid hv
  obtain ⟨a, c, hv', hc⟩ := hv.capd
  obtain ⟨n, hn⟩ : ∃ n, X.length = n := ⟨_, rfl⟩
  have HN := Lib.hid hn
  rw [hn] at hv' hc hn9
  subst hv'
  clear hv
  by_cases h2 : n < 2
  · have HV2 := Lib.hid (show View (.slice a n c) X (.slice a n c) (stripR X) from fun w h => by rw [wrapB_no (by rw [hn]; exact h2)]; exact h)
    have i1 : (n : Int) < 2 := by omega
    clear hn h2
    go_enter Try.func64, Try.ntmps64
    go_wp2
    go_ret
    exact ⟨_, rfl, HV2.out, Ext.refl _⟩
  · have hw := wrapB_is (X := X) (by omega)
    obtain ⟨b0, o0, rfl, ⟨c0, c1, c2⟩, hb0⟩ := HV.out.at (i := 0) (by omega)
    obtain ⟨b1, o1, hab, ⟨d0, d1, d2⟩, hb1⟩ := HV.out.at (i := n - 1) (by omega)
    cases hab
    have hm := HV.out.mid (i := 1) (m := X.length - 2) (by omega) (by omega)
    obtain ⟨b2, o2, hab, hm⟩ := hm
    cases hab
    have HBL := Lib.hid (fun w' (k : Ext w w') => balR_any _ _ _ (hm.ext k))
    have HVW := Lib.hid (View.mid (b := b0) (off := o0) (c := c) (i := 1) (m := X.length - 2) hn (by omega) (by omega))
    have hy : View (.slice (some ⟨b0, o0, none⟩) n c) X (.slice (some ⟨b0, o0, none⟩) n c) X := fun w h => h
    have HNO := Lib.hid (fun (h : wrapB X = false) => show View (.slice (some ⟨b0, o0, none⟩) n c) X (.slice (some ⟨b0, o0, none⟩) n c) (stripR X) from by rw [stripR, if_neg (by rw [h]; simp)]; exact hy)
    have HYES := Lib.hid (fun (h : wrapB X = true) => show View (.slice (some ⟨b0, o0, none⟩) n c) X (.slice (some ⟨b0, o0 + 1 * 3, none⟩) (X.length - 2) (c - 1)) (stripR X) from by rw [stripR, if_pos h]; exact HVW.out)
    have HW := Lib.hid hw
    rw [hn] at HBL HYES
    obtain ⟨bl, hbl⟩ : ∃ bl, bal ((X.drop 1).take (n - 2)) = bl := ⟨_, rfl⟩
    rw [hbl] at HBL
    have HW2 := Lib.hid (show wrapB X = ((X[0].cat == 1) && ((X[n - 1]'(by omega)).cat == 2) && bl) by
      rw [HW.out, ← hbl]
      subst hn
      rfl)
    generalize X[0] = t at *
    generalize X[n - 1]'(by omega) = u at *
    have i1 : ¬ (n : Int) < 2 := by omega
    have i2 : (1 : Int) ≤ (n : Int) - 1 := by omega
    have i3 : (n : Int) - 1 ≤ (c : Int) := by omega
    have i4 : ((n : Int) - 1).toNat = n - 1 := by omega
    have i5 : (0 : Int) ≤ (n : Int) - 1 := by omega
    have i6 : (n : Int) - 1 < (n : Int) := by omega
    have i7 : (0 : Int) < (n : Int) := by omega
    simp only [Nat.zero_mul, Nat.add_zero] at c0 c1 c2
    clear hn h2 hw hbl hm hy HVW HW
    by_cases h1 : t.cat = 1
    · have e1 : (t.cat == 1) = true := by simp [h1]
      rw [e1, Bool.true_and] at HW2
      by_cases h2 : u.cat = 2
      · have e2 : (u.cat == 2) = true := by simp [h2]
        rw [e2, Bool.true_and] at HW2
        clear h1 h2
        cases bl
        · have HF := Lib.hid (HNO.out HW2.out)
          go_enter Try.func64, Try.ntmps64
          go_wp2_with first | (go_at_call 42; refine (open_any _ _).mono ?_; rintro e w' ⟨rfl, rfl⟩) | (go_at_call 43; refine (shut_any _ _).mono ?_; rintro e w' ⟨rfl, rfl⟩)
          rw [show n - 1 - 1 = n - 2 by omega]
          refine Calls.mono (HBL.out _ (Ext.refl _).alloc.alloc) ?_
          rintro e w1 ⟨rfl, hx⟩
          have HX := Lib.hid ((Ext.refl _).alloc.alloc.trans hx)
          clear hx
          go_wp2
          go_ret
          exact ⟨_, rfl, HF.out, HX.out⟩
        · have HF := Lib.hid (HYES.out HW2.out)
          go_enter Try.func64, Try.ntmps64
          go_wp2_with first | (go_at_call 42; refine (open_any _ _).mono ?_; rintro e w' ⟨rfl, rfl⟩) | (go_at_call 43; refine (shut_any _ _).mono ?_; rintro e w' ⟨rfl, rfl⟩)
          rw [show n - 1 - 1 = n - 2 by omega]
          refine Calls.mono (HBL.out _ (Ext.refl _).alloc.alloc) ?_
          rintro e w1 ⟨rfl, hx⟩
          have HX := Lib.hid ((Ext.refl _).alloc.alloc.trans hx)
          clear hx
          go_wp2
          go_ret
          exact ⟨_, rfl, by rw [show n - 1 - 1 = n - 2 by omega]; exact HF.out, HX.out⟩
      · have e2 : (u.cat == 2) = false := by simp [h2]
        have HF := Lib.hid (HNO.out (by rw [HW2.out, e2]; rfl))
        clear h1 h2
        go_enter Try.func64, Try.ntmps64
        go_wp2_with first | (go_at_call 42; refine (open_any _ _).mono ?_; rintro e w' ⟨rfl, rfl⟩) | (go_at_call 43; refine (shut_any _ _).mono ?_; rintro e w' ⟨rfl, rfl⟩)
        go_ret
        exact ⟨_, rfl, HF.out, (Ext.refl _).alloc.alloc⟩
    · have e1 : (t.cat == 1) = false := by simp [h1]
      have HF := Lib.hid (HNO.out (by rw [HW2.out, e1]; rfl))
      clear h1
      go_enter Try.func64, Try.ntmps64
      go_wp2_with first | (go_at_call 42; refine (open_any _ _).mono ?_; rintro e w' ⟨rfl, rfl⟩) | (go_at_call 43; refine (shut_any _ _).mono ?_; rintro e w' ⟨rfl, rfl⟩)
      go_ret
      exact ⟨_, rfl, HF.out, (Ext.refl _).alloc⟩


set_option maxRecDepth 100000 in
set_option maxHeartbeats 8000000 in
theorem delimitedR_any (L D : List Tok) (v vd : Value) (i : Nat) (long : Bool) (w : World) (hv : RdT w v L) (hd : RdT w vd D) (hi : i ≤ L.length) (hD : 0 < D.length) (hn9 : L.length ≤ 4000000000) (hD9 : D.length ≤ 4000000000) :
    Calls Try.prog 52 #[v, .int .i64 i, vd, .bool long] w (ArgR w v L i (delM D long (L.drop i))) := by
  obtain ⟨n, hn⟩ : ∃ n, L.length = n := ⟨_, rfl⟩
  obtain ⟨a, c, hv', hcap⟩ := hv.capd
  obtain ⟨m, hm⟩ : ∃ m, D.length = m := ⟨_, rfl⟩
  obtain ⟨ad, cd, hd', hcapd⟩ := hd.capd
  rw [hn] at hv' hcap hn9 hi
  rw [hm] at hd' hcapd hD9 hD
  subst hv' hd'
  obtain ⟨r, hr⟩ : ∃ r, delM D long (L.drop i) = r := ⟨_, rfl⟩
  rw [hr]
  obtain ⟨G, hG⟩ : ∃ G, delR D long 0 0 false (L.drop i) = G := ⟨_, rfl⟩
  have HG0 := Lib.hid (show (delR D long 0 0 false (L.drop i)).map (fun y => (y.1 + 0, y.2)) = G by rw [hG]; cases G <;> rfl)
  have HGG := Lib.hid hG
  have HR := Lib.hid hr
  have HN := Lib.hid hn
  have HM := Lib.hid hm
  have HV := Lib.hid hv
  have HDD := Lib.hid hd
  have HDN := Lib.hid (show D ≠ [] by intro h; rw [h] at hm; simp at hm; omega)
  clear hr hv hn hG hd hm
  go_enter Try.func52, Try.ntmps52
  go_wp2_with fail
  go_loopw [11, 12] (fun dv kv wr => ∃ (p q : Nat) (d : Int) (wh : Nat) (op : Bool), p = i + q ∧ p ≤ n ∧ 0 ≤ d ∧ d ≤ q ∧ dv = .int .i64 d ∧ kv = .int .i64 p ∧ (delR D long d wh op (L.drop p)).map (fun y => (y.1 + q, y.2)) = G ∧ Ext w wr) (fun _ kv _ => n - (intOf kv).toNat)
  case atStart => exact ⟨i, 0, 0, 0, false, rfl, hi, by omega, by omega, rfl, rfl, HG0.out, Ext.refl _⟩
  case round =>
    obtain ⟨p, q, d, wh, op, hp, hq, hd0, hd1, rfl, rfl, ha, hx⟩ := hrel
    have HA3 := Lib.hid ha
    have HX3 := Lib.hid hx
    have HPQ := Lib.hid hp
    have hqp : q ≤ p := by omega
    have hip : i ≤ p := by omega
    clear ha hx hp
    by_cases hlt3 : p < n
    · have hlt3' : p < L.length := by rw [HN.out]; exact hlt3
      obtain ⟨b', off, rfl, ⟨c0, c1, c2⟩, hb'⟩ := (HV.out.ext HX3.out).at hlt3'
      have lt3 : (p : Int) < (n : Int) := by omega
      have hb3 : b' < wr.heap.size + 1 + 1 := by omega
      have hb4 : b' < wr.heap.size + 1 + 1 + 1 := by omega
      obtain ⟨hit, hh⟩ : ∃ hit, D.isPrefixOf (L.drop p) = hit := ⟨_, rfl⟩
      have HST := Lib.hid (standsR_any L D _ (.slice ad m cd) p wr (HV.out.ext HX3.out) (HDD.out.ext HX3.out) (by omega) (by rw [HM.out]; exact hD) (by rw [HN.out]; exact hn9) (by rw [HM.out]; exact hD9))
      rw [hh] at HST
      by_cases hdz : d = 0
      · subst hdz
        have HDZ := Lib.hid (show (0 : Int) = 0 from rfl)
        cases hit
        · have HGO := Lib.hid (show (0 : Int) < 0 ∨ D.isPrefixOf (L.drop p) = false from .inr hh)
          clear hh
          have HGR := Lib.hid (delR_go (long := long) (d := 0) (wh := wh) (op := op) L p hlt3' HGO.out)
          generalize L[p] = u at *
          by_cases h1 : u.cat = 1
          · have e1 : (u.cat == 1) = true := by simp [h1]
            have e2 : (u.cat == 2) = false := by simp [h1]
            have hs : stepD 0 u = 0 + 1 := by simp [stepD, h1]
            have hpu : isPar u = false := by simp [isPar, h1]
            have HPU := Lib.hid (show ∀ w, Calls Try.prog 62 #[.agg #[.int .i64 u.cat, .int .u8 u.chr.toNat, .string u.name]] w fun e w' => e = .returned (.bool false) ∧ w.alloc u.box = w' from fun w => hpu ▸ parR_any u w)
            have hg := HGR.out
            rw [hs, hpu, if_neg (by simp [h1])] at hg
            have HG5 := Lib.hid (ex_step (X := delR D long (0 + 1) (wh + 1) (u.cat == 1) (L.drop (p + 1))) (q := q) (G := G) (by rw [← HA3.out, hg]; first | (simp; done) | simp [HDZ.out]))
            have HD5 := Lib.hid (show 0 ≤ (0 : Int) + 1 ∧ (0 : Int) + 1 ≤ (q + 1 : Nat) by omega)
            clear h1 hs hpu hg
            go_wp2_with (first | (go_at_call 42; refine (open_any _ _).mono ?_; rintro e w' ⟨rfl, rfl⟩) | (go_at_call 43; refine (shut_any _ _).mono ?_; rintro e w' ⟨rfl, rfl⟩) | (go_at_call 62; refine (HPU.out _).mono ?_; rintro e w' ⟨rfl, rfl⟩) | (go_at_call 63; with_reducible refine Calls.mono (HST.out) ?_; rintro e w' ⟨rfl, hx⟩; (have HX3 := Lib.hid (HX3.out.trans hx); replace c0 := hx.cell c0; replace c1 := hx.cell c1; replace c2 := hx.cell c2; replace hb' := hx.lt hb'; have hb3 := Nat.lt_succ_of_lt (Nat.lt_succ_of_lt hb'); have hb4 := Nat.lt_succ_of_lt hb3; simp only [Nat.succ_eq_add_one] at hb3 hb4; clear hx)))
            first
              | (go_roundw
                 case rel => exact ⟨p + 1, q + 1, _, (wh + 1), (u.cat == 1), by rw [HPQ.out, Nat.add_assoc], by omega, HD5.out.1, HD5.out.2, rfl, by go_num, HG5.out, by first | exact HX3.out.alloc.alloc.alloc.alloc | exact HX3.out.alloc.alloc.alloc⟩
                 case measure => simp [intOf]; omega)
          · have e1 : (u.cat == 1) = false := by simp [h1]
            by_cases h2 : u.cat = 2
            · have e2 : (u.cat == 2) = true := by simp [h2]
              have hpu : isPar u = false := by simp [isPar, h2]
              have HPU := Lib.hid (show ∀ w, Calls Try.prog 62 #[.agg #[.int .i64 u.cat, .int .u8 u.chr.toNat, .string u.name]] w fun e w' => e = .returned (.bool false) ∧ w.alloc u.box = w' from fun w => hpu ▸ parR_any u w)
              have hg := HGR.out
              rw [if_pos ⟨h2, rfl⟩] at hg
              have HE := Lib.hid (show r = .error 173 by rw [← HR.out]; exact delM_no (k := 173) (by rw [HGG.out, ← HA3.out, hg]; rfl))
              clear h1 h2 hpu hg
              go_wp2_with (first | (go_at_call 42; refine (open_any _ _).mono ?_; rintro e w' ⟨rfl, rfl⟩) | (go_at_call 43; refine (shut_any _ _).mono ?_; rintro e w' ⟨rfl, rfl⟩) | (go_at_call 62; refine (HPU.out _).mono ?_; rintro e w' ⟨rfl, rfl⟩) | (go_at_call 63; with_reducible refine Calls.mono (HST.out) ?_; rintro e w' ⟨rfl, hx⟩; (have HX3 := Lib.hid (HX3.out.trans hx); replace c0 := hx.cell c0; replace c1 := hx.cell c1; replace c2 := hx.cell c2; replace hb' := hx.lt hb'; have hb3 := Nat.lt_succ_of_lt (Nat.lt_succ_of_lt hb'); have hb4 := Nat.lt_succ_of_lt hb3; simp only [Nat.succ_eq_add_one] at hb3 hb4; clear hx)))
              (try simp only [Exit.inBlock, Exit.then])
              refine bodyPost_ret (v := .tuple #[.slice none 0 0, .int .i64 0, .int .i64 173]) (by unfold results; go_simp) rfl ?_
              exact ArgR.no HE.out (by first | exact HX3.out.alloc.alloc | exact HX3.out.alloc | exact HX3.out)
            · have e2 : (u.cat == 2) = false := by simp [h2]
              have hs : stepD 0 u = 0 := by simp [stepD, h1, h2]
              obtain ⟨pu, hpu⟩ : ∃ pu, isPar u = pu := ⟨_, rfl⟩
              have HPU := Lib.hid (show ∀ w, Calls Try.prog 62 #[.agg #[.int .i64 u.cat, .int .u8 u.chr.toNat, .string u.name]] w fun e w' => e = .returned (.bool pu) ∧ w.alloc u.box = w' from fun w => hpu ▸ parR_any u w)
              have hg := HGR.out
              rw [hs, hpu, if_neg (by simp [h2])] at hg
              cases hpl : (pu && !long)
              · rw [hpl] at hg
                have HG5 := Lib.hid (ex_step (X := delR D long 0 (wh + 1) (u.cat == 1) (L.drop (p + 1))) (q := q) (G := G) (by rw [← HA3.out, hg]; first | (simp; done) | simp [HDZ.out]))
                have HD5 := Lib.hid (show 0 ≤ (0 : Int) ∧ (0 : Int) ≤ (q + 1 : Nat) by omega)
                clear h1 h2 hs hpu hg
                cases pu <;> cases long
                all_goals (first | (exact absurd hpl (by decide)) | clear hpl)
                all_goals
                  go_wp2_with (first | (go_at_call 42; refine (open_any _ _).mono ?_; rintro e w' ⟨rfl, rfl⟩) | (go_at_call 43; refine (shut_any _ _).mono ?_; rintro e w' ⟨rfl, rfl⟩) | (go_at_call 62; refine (HPU.out _).mono ?_; rintro e w' ⟨rfl, rfl⟩) | (go_at_call 63; with_reducible refine Calls.mono (HST.out) ?_; rintro e w' ⟨rfl, hx⟩; (have HX3 := Lib.hid (HX3.out.trans hx); replace c0 := hx.cell c0; replace c1 := hx.cell c1; replace c2 := hx.cell c2; replace hb' := hx.lt hb'; have hb3 := Nat.lt_succ_of_lt (Nat.lt_succ_of_lt hb'); have hb4 := Nat.lt_succ_of_lt hb3; simp only [Nat.succ_eq_add_one] at hb3 hb4; clear hx)))
                  first
                    | (go_roundw
                       case rel => exact ⟨p + 1, q + 1, _, (wh + 1), (u.cat == 1), by rw [HPQ.out, Nat.add_assoc], by omega, HD5.out.1, HD5.out.2, rfl, by go_num, HG5.out, by first | exact HX3.out.alloc.alloc.alloc.alloc | exact HX3.out.alloc.alloc.alloc⟩
                       case measure => simp [intOf]; omega)
              · have HE := Lib.hid (show r = .error 171 by rw [← HR.out]; exact delM_no (k := 171) (by rw [HGG.out, ← HA3.out, hg, hpl]; rfl))
                clear h1 h2 hs hpu hg
                cases pu <;> cases long
                all_goals (first | (exact absurd hpl (by decide)) | clear hpl)
                all_goals
                  go_wp2_with (first | (go_at_call 42; refine (open_any _ _).mono ?_; rintro e w' ⟨rfl, rfl⟩) | (go_at_call 43; refine (shut_any _ _).mono ?_; rintro e w' ⟨rfl, rfl⟩) | (go_at_call 62; refine (HPU.out _).mono ?_; rintro e w' ⟨rfl, rfl⟩) | (go_at_call 63; with_reducible refine Calls.mono (HST.out) ?_; rintro e w' ⟨rfl, hx⟩; (have HX3 := Lib.hid (HX3.out.trans hx); replace c0 := hx.cell c0; replace c1 := hx.cell c1; replace c2 := hx.cell c2; replace hb' := hx.lt hb'; have hb3 := Nat.lt_succ_of_lt (Nat.lt_succ_of_lt hb'); have hb4 := Nat.lt_succ_of_lt hb3; simp only [Nat.succ_eq_add_one] at hb3 hb4; clear hx)))
                  (try simp only [Exit.inBlock, Exit.then])
                  refine bodyPost_ret (v := .tuple #[.slice none 0 0, .int .i64 0, .int .i64 171]) (by unfold results; go_simp) rfl ?_
                  exact ArgR.no HE.out (by first | exact HX3.out.alloc.alloc | exact HX3.out.alloc | exact HX3.out)
        · have HY := Lib.hid (show G = .ok (q, wh, op) by rw [← HA3.out, delR_hit (by rw [HM.out]; exact hD) hh]; simp [Except.map])
          have hst := strip_eq (long := long) (S := L.drop i) (y := (q, wh, op)) HDN.out (by rw [HGG.out, HY.out])
          simp only at hst
          have HRR := Lib.hid (show r = .ok (stripR ((L.drop i).take q), q + m) by rw [← HR.out, delM_yes (q := q) (wh := wh) (op := op) (by rw [HGG.out, HY.out]), hst, HM.out])
          have hpq : p - i = q := by have := HPQ.out; omega
          have HVW := Lib.hid (View.mid (b := b') (off := off) (c := c) (i := i) (m := q) HN.out (by omega) (by have := HPQ.out; omega))
          have HPI := Lib.hid hpq
          have i1 : (i : Int) ≤ (p : Int) := by omega
          have i2 : (p : Int) ≤ (c : Int) := by omega
          have hq9 : q ≤ 4000000000 := by omega
          have HQL := Lib.hid (show ((L.drop i).take q).length ≤ 4000000000 by rw [List.length_take]; omega)
          clear hh hst hpq
          go_wp2_with (go_at_call 63; with_reducible refine Calls.mono (HST.out) ?_; rintro e w' ⟨rfl, hx⟩; (have HX4 := Lib.hid (HX3.out.trans hx); clear hx))
          all_goals
            refine Calls.mono (by simpa [HPI.out] using strippedR_any _ _ _ (HVW.out _ (HV.out.ext HX4.out)) HQL.out) ?_
            rintro e w4 ⟨v', rfl, hvw, hx⟩
            have HX5 := Lib.hid (HX4.out.trans hx)
            have HVV := Lib.hid (show View (.slice (some ⟨b', off, none⟩) n c) L v' (stripR ((L.drop i).take q)) from fun w h => hvw w (by simpa [HPI.out] using HVW.out w h))
            clear hx hvw
            go_wp2
            (try simp only [Exit.inBlock, Exit.then])
            refine bodyPost_ret (v := .tuple #[v', .int .i64 ((p : Int) + (m : Int)), .int .i64 0]) (by unfold results; go_simp) rfl ?_
            exact ArgR.yes HRR.out HVV.out (by have := HPQ.out; omega) HX5.out
      · have hdz' : 0 < d := by omega
        have HDZ := Lib.hid hdz
        have z2 : (d == 0) = false := by simpa using hdz
        have HGO := Lib.hid (show 0 < d ∨ D.isPrefixOf (L.drop p) = false from .inl hdz')
        clear hdz hh HST
        have HGR := Lib.hid (delR_go (long := long) (d := d) (wh := wh) (op := op) L p hlt3' HGO.out)
        generalize L[p] = u at *
        by_cases h1 : u.cat = 1
        · have e1 : (u.cat == 1) = true := by simp [h1]
          have e2 : (u.cat == 2) = false := by simp [h1]
          have hs : stepD d u = d + 1 := by simp [stepD, h1]
          have hpu : isPar u = false := by simp [isPar, h1]
          have HPU := Lib.hid (show ∀ w, Calls Try.prog 62 #[.agg #[.int .i64 u.cat, .int .u8 u.chr.toNat, .string u.name]] w fun e w' => e = .returned (.bool false) ∧ w.alloc u.box = w' from fun w => hpu ▸ parR_any u w)
          have hg := HGR.out
          rw [hs, hpu, if_neg (by simp [h1])] at hg
          have HG5 := Lib.hid (ex_step (X := delR D long (d + 1) wh op (L.drop (p + 1))) (q := q) (G := G) (by rw [← HA3.out, hg]; first | (simp; done) | simp [HDZ.out]))
          have HD5 := Lib.hid (show 0 ≤ (d : Int) + 1 ∧ (d : Int) + 1 ≤ (q + 1 : Nat) by omega)
          clear h1 hs hpu hg
          go_wp2_with (first | (go_at_call 42; refine (open_any _ _).mono ?_; rintro e w' ⟨rfl, rfl⟩) | (go_at_call 43; refine (shut_any _ _).mono ?_; rintro e w' ⟨rfl, rfl⟩) | (go_at_call 62; refine (HPU.out _).mono ?_; rintro e w' ⟨rfl, rfl⟩) | (go_at_call 63; with_reducible refine Calls.mono (HST.out) ?_; rintro e w' ⟨rfl, hx⟩; (have HX3 := Lib.hid (HX3.out.trans hx); replace c0 := hx.cell c0; replace c1 := hx.cell c1; replace c2 := hx.cell c2; replace hb' := hx.lt hb'; have hb3 := Nat.lt_succ_of_lt (Nat.lt_succ_of_lt hb'); have hb4 := Nat.lt_succ_of_lt hb3; simp only [Nat.succ_eq_add_one] at hb3 hb4; clear hx)))
          first
            | (go_roundw
               case rel => exact ⟨p + 1, q + 1, _, wh, op, by rw [HPQ.out, Nat.add_assoc], by omega, HD5.out.1, HD5.out.2, rfl, by go_num, HG5.out, by first | exact HX3.out.alloc.alloc.alloc.alloc | exact HX3.out.alloc.alloc.alloc⟩
               case measure => simp [intOf]; omega)
        · have e1 : (u.cat == 1) = false := by simp [h1]
          by_cases h2 : u.cat = 2
          · have e2 : (u.cat == 2) = true := by simp [h2]
            have hpu : isPar u = false := by simp [isPar, h2]
            have HPU := Lib.hid (show ∀ w, Calls Try.prog 62 #[.agg #[.int .i64 u.cat, .int .u8 u.chr.toNat, .string u.name]] w fun e w' => e = .returned (.bool false) ∧ w.alloc u.box = w' from fun w => hpu ▸ parR_any u w)
            have hg := HGR.out
            have hs : stepD d u = d - 1 := by simp [stepD, h2]
            rw [hs, hpu, if_neg (by simp [HDZ.out])] at hg
            have HG5 := Lib.hid (ex_step (X := delR D long (d - 1) wh op (L.drop (p + 1))) (q := q) (G := G) (by rw [← HA3.out, hg]; first | (simp; done) | simp [HDZ.out]))
            have HD5 := Lib.hid (show 0 ≤ d - 1 ∧ d - 1 ≤ (q + 1 : Nat) by omega)
            clear h1 h2 hs hpu hg
            go_wp2_with (first | (go_at_call 42; refine (open_any _ _).mono ?_; rintro e w' ⟨rfl, rfl⟩) | (go_at_call 43; refine (shut_any _ _).mono ?_; rintro e w' ⟨rfl, rfl⟩) | (go_at_call 62; refine (HPU.out _).mono ?_; rintro e w' ⟨rfl, rfl⟩) | (go_at_call 63; with_reducible refine Calls.mono (HST.out) ?_; rintro e w' ⟨rfl, hx⟩; (have HX3 := Lib.hid (HX3.out.trans hx); replace c0 := hx.cell c0; replace c1 := hx.cell c1; replace c2 := hx.cell c2; replace hb' := hx.lt hb'; have hb3 := Nat.lt_succ_of_lt (Nat.lt_succ_of_lt hb'); have hb4 := Nat.lt_succ_of_lt hb3; simp only [Nat.succ_eq_add_one] at hb3 hb4; clear hx)))
            first
              | (go_roundw
                 case rel => exact ⟨p + 1, q + 1, _, wh, op, by rw [HPQ.out, Nat.add_assoc], by omega, HD5.out.1, HD5.out.2, rfl, by go_num, HG5.out, by first | exact HX3.out.alloc.alloc.alloc.alloc | exact HX3.out.alloc.alloc.alloc⟩
                 case measure => simp [intOf]; omega)
          · have e2 : (u.cat == 2) = false := by simp [h2]
            have hs : stepD d u = d := by simp [stepD, h1, h2]
            obtain ⟨pu, hpu⟩ : ∃ pu, isPar u = pu := ⟨_, rfl⟩
            have HPU := Lib.hid (show ∀ w, Calls Try.prog 62 #[.agg #[.int .i64 u.cat, .int .u8 u.chr.toNat, .string u.name]] w fun e w' => e = .returned (.bool pu) ∧ w.alloc u.box = w' from fun w => hpu ▸ parR_any u w)
            have hg := HGR.out
            rw [hs, hpu, if_neg (by simp [h2])] at hg
            cases hpl : (pu && !long)
            · rw [hpl] at hg
              have HG5 := Lib.hid (ex_step (X := delR D long d wh op (L.drop (p + 1))) (q := q) (G := G) (by rw [← HA3.out, hg]; first | (simp; done) | simp [HDZ.out]))
              have HD5 := Lib.hid (show 0 ≤ (d : Int) ∧ (d : Int) ≤ (q + 1 : Nat) by omega)
              clear h1 h2 hs hpu hg
              cases pu <;> cases long
              all_goals (first | (exact absurd hpl (by decide)) | clear hpl)
              all_goals
                go_wp2_with (first | (go_at_call 42; refine (open_any _ _).mono ?_; rintro e w' ⟨rfl, rfl⟩) | (go_at_call 43; refine (shut_any _ _).mono ?_; rintro e w' ⟨rfl, rfl⟩) | (go_at_call 62; refine (HPU.out _).mono ?_; rintro e w' ⟨rfl, rfl⟩) | (go_at_call 63; with_reducible refine Calls.mono (HST.out) ?_; rintro e w' ⟨rfl, hx⟩; (have HX3 := Lib.hid (HX3.out.trans hx); replace c0 := hx.cell c0; replace c1 := hx.cell c1; replace c2 := hx.cell c2; replace hb' := hx.lt hb'; have hb3 := Nat.lt_succ_of_lt (Nat.lt_succ_of_lt hb'); have hb4 := Nat.lt_succ_of_lt hb3; simp only [Nat.succ_eq_add_one] at hb3 hb4; clear hx)))
                first
                  | (go_roundw
                     case rel => exact ⟨p + 1, q + 1, _, wh, op, by rw [HPQ.out, Nat.add_assoc], by omega, HD5.out.1, HD5.out.2, rfl, by go_num, HG5.out, by first | exact HX3.out.alloc.alloc.alloc.alloc | exact HX3.out.alloc.alloc.alloc⟩
                     case measure => simp [intOf]; omega)
            · have HE := Lib.hid (show r = .error 171 by rw [← HR.out]; exact delM_no (k := 171) (by rw [HGG.out, ← HA3.out, hg, hpl]; rfl))
              clear h1 h2 hs hpu hg
              cases pu <;> cases long
              all_goals (first | (exact absurd hpl (by decide)) | clear hpl)
              all_goals
                go_wp2_with (first | (go_at_call 42; refine (open_any _ _).mono ?_; rintro e w' ⟨rfl, rfl⟩) | (go_at_call 43; refine (shut_any _ _).mono ?_; rintro e w' ⟨rfl, rfl⟩) | (go_at_call 62; refine (HPU.out _).mono ?_; rintro e w' ⟨rfl, rfl⟩) | (go_at_call 63; with_reducible refine Calls.mono (HST.out) ?_; rintro e w' ⟨rfl, hx⟩; (have HX3 := Lib.hid (HX3.out.trans hx); replace c0 := hx.cell c0; replace c1 := hx.cell c1; replace c2 := hx.cell c2; replace hb' := hx.lt hb'; have hb3 := Nat.lt_succ_of_lt (Nat.lt_succ_of_lt hb'); have hb4 := Nat.lt_succ_of_lt hb3; simp only [Nat.succ_eq_add_one] at hb3 hb4; clear hx)))
                (try simp only [Exit.inBlock, Exit.then])
                refine bodyPost_ret (v := .tuple #[.slice none 0 0, .int .i64 0, .int .i64 171]) (by unfold results; go_simp) rfl ?_
                exact ArgR.no HE.out (by first | exact HX3.out.alloc.alloc | exact HX3.out.alloc | exact HX3.out)
    · have e0 : L.drop p = [] := List.drop_of_length_le (by rw [HN.out]; omega)
      have e1 := HA3.out
      rw [e0] at e1
      have HE := Lib.hid (show r = .error 172 by rw [← HR.out]; exact delM_no (HGG.out.trans e1.symm))
      clear e0 e1
      obtain rfl : p = n := by omega
      go_wp2
      (try simp only [Exit.inBlock, Exit.then])
      refine bodyPost_ret (v := .tuple #[.slice none 0 0, .int .i64 0, .int .i64 172]) (by unfold results; go_simp) rfl ?_
      exact ArgR.no HE.out (by first | exact HX3.out.alloc.alloc | exact HX3.out.alloc | exact HX3.out)

end Go.Proofs.Ytlbebcioabfbgaa
