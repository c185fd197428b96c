/-
  The matcher: an argument with delimiters. Conditions: those that each theorem names.
-/
import Derived.Test.YtlbebcioabfbgaaMacO
namespace Go.Proofs.Ytlbebcioabfbgaa
open Go.RowKit Go.Sp
variable {W w w' : World} {F : HProp}

theorem delR_hit {D S : List Tok} {long : Bool} {wh : Nat} {op : Bool} (hD : 0 < D.length) (h : D.isPrefixOf S = true) : delR D long 0 wh op S = .ok (0, wh, op) := by
  cases S with
  | nil => cases D with | nil => simp at hD | cons => simp at h
  | cons t r => rw [delR, if_pos ⟨by omega, h⟩]
theorem delR_go {D : List Tok} {long : Bool} {d : Int} {wh : Nat} {op : Bool} (S : List Tok) (p : Nat) (hp : p < S.length) (h : 0 < d ∨ D.isPrefixOf (S.drop p) = false) :
    delR D long d wh op (S.drop p) = if S[p].cat = 2 ∧ d = 0 then .error 173 else if isPar S[p] && !long then .error 171
      else (delR D long (stepD d S[p]) (if d = 0 then wh + 1 else wh) (if d = 0 then S[p].cat == 1 else op) (S.drop (p + 1))).map fun x => (x.1 + 1, x.2) := by
  have h2 : ¬ (¬ 0 < d ∧ D.isPrefixOf (S.drop p) = true) := by rcases h with h | h <;> simp [h]
  rw [List.drop_eq_getElem_cons hp] at h2 ⊢
  rw [delR, if_neg h2]

theorem ex_step {G X : Except Int (Nat × Nat × Bool)} {q : Nat} (h : (X.map fun x => (x.1 + 1, x.2)).map (fun y => (y.1 + q, y.2)) = G) : X.map (fun y => (y.1 + (q + 1), y.2)) = G := by
  rw [← h]; cases X <;> simp [Except.map]; omega

theorem delM_no {D S : List Tok} {long : Bool} {k : Int} (h : delR D long 0 0 false S = .error k) : delM D long S = .error k := by rw [delM, h]; rfl
theorem delM_yes {D S : List Tok} {long : Bool} {q wh : Nat} {op : Bool} (h : delR D long 0 0 false S = .ok (q, wh, op)) : delM D long S = .ok (strip wh op (S.take q), q + D.length) := by rw [delM, h]; rfl

theorem View.strip {b off n c m : Nat} {L X : List Tok} {vl : Value} (h : View vl L (.slice (some ⟨b, off, none⟩) n c) X) (hn : X.length = n) (h2 : 2 ≤ n) (hm : 1 + m ≤ n) : View vl L (.slice (some ⟨b, off + 1 * 3, none⟩) m (c - 1)) ((X.drop 1).take m) := by
  intro w hw
  obtain ⟨b', off', e, h'⟩ := (h w hw).mid (i := 1) (m := m) (by omega) (by omega)
  cases e
  exact h'




set_option maxRecDepth 100000 in
set_option maxHeartbeats 4000000 in
theorem delimited_any (vp vb vl vd : Value) (long : Bool) (L D : List Tok) (b i : Nat) (h : Sat W (pts b (useO vp vb long vl i) * F) w) (hL : Holds W F vl L) (hD : Holds W F vd D) (hi : i ≤ L.length) (hn9 : L.length ≤ 4000000000) (hD9 : D.length ≤ 4000000000) (hD0 : 0 < D.length) :
    Calls Try.prog 49 #[.pointer (some ⟨b, 0, none⟩), vd] w (ArgPost W F b vp vb vl long L i (delM D long (L.drop i))) := by
  obtain ⟨n, hn⟩ : ∃ n, L.length = n := ⟨_, rfl⟩
  obtain ⟨m, hm⟩ : ∃ m, D.length = m := ⟨_, rfl⟩
  obtain ⟨a, c, hv, hc⟩ := (hL w h.r).capd
  obtain ⟨a', c', hv', hc'⟩ := (hD w h.r).capd
  rw [hn] at hv hc
  rw [hm] at hv' hc'
  subst hv hv'
  obtain ⟨G, hG⟩ : ∃ G, delR D long 0 0 false (L.drop i) = G := ⟨_, rfl⟩
  obtain ⟨r, hr⟩ : ∃ r, delM D long (L.drop i) = r := ⟨_, rfl⟩
  rw [hr]
  have HR := Lib.hid hr
  have HG := Lib.hid hG
  have HN := Lib.hid hn
  have HM := Lib.hid hm
  have H := Lib.hid h
  have m4 := h.cell (i := 4) rfl
  have f4 := h.free (i := 4)
  have hb := h.lt
  clear hr h hn hG hm
  have hL' : ∀ {F' : HProp}, Holds W (F' * F) (.slice a n c) L := fun w h => hL w h.r
  have hD' : ∀ {F' : HProp}, Holds W (F' * F) (.slice a' m c') D := fun w h => hD w h.r
  have HD0 := Lib.hid hD0
  rw [HN.out] at hi hn9
  rw [HM.out] at hD9 hD0
  have hfl := fld0
  go_enter Try.func49, Try.ntmps49
  go_wp2_with (go_at_call 56; with_reducible refine Calls.mono (braces_any H.out) ?_; rintro e w' ⟨bc, rfl, h3⟩)
  have H3 := Lib.hid h3
  clear h3 m4 f4 hb
  unfold counter
  go_loopg [6, 8, 9] (n - i) (fun k s6 s8 s9 wr => ∃ (p q : Nat) (d : Int) (wh : Nat) (op : Bool), p = i + q ∧ k = n - p ∧ p ≤ n ∧ 0 ≤ d ∧ d ≤ q ∧ wh ≤ q ∧ s6 = .int .i64 d ∧ s8 = .int .i64 wh ∧ s9 = .bool op ∧ (delR D long d wh op (L.drop p)).map (fun y => (y.1 + q, y.2)) = G ∧
    Sat W (pts bc (.cells #[.int .i64 d] 3 (0, 0)) * (pts b (useO vp vb long (.slice a n c) p) * F)) wr)
  case atStart => exact ⟨i, 0, 0, 0, false, rfl, rfl, hi, by omega, by omega, by omega, rfl, rfl, rfl, by rw [HG.out]; cases G <;> rfl, H3.out⟩
  case round =>
    obtain ⟨p, q, d, wh, op, hp, rfl, hq, hd0, hd1, hwq, rfl, rfl, rfl, ha, hx⟩ := hrel
    have HA := Lib.hid ha
    have HX := Lib.hid hx
    have HPQ := Lib.hid hp
    have hqp : q ≤ p := by omega
    clear ha hx hp
    obtain ⟨pf, hpf⟩ : ∃ pf, D.isPrefixOf (L.drop p) = pf := ⟨_, rfl⟩
    have HF := Lib.hid (show Calls Try.prog 60 #[.pointer (some ⟨b, 0, none⟩), .slice a' m c'] wr fun e w' => e = .returned (.bool pf) ∧ ∃ q, wr.drewN q = w' from hpf ▸ follows_any vp vb (.slice a n c) (.slice a' m c') long L D b p (F := pts bc (.cells #[.int .i64 d] 3 (0, 0)) * F) HX.out.rot hL' hD' (by rw [HN.out]; exact hq) HD0.out)
    have HPF := Lib.hid hpf
    clear hpf
    by_cases hdz : d = 0
    · have HDZ := Lib.hid hdz
      have z1 : ¬ 0 < d := by omega
      have z2 : (d == 0) = true := by simp [hdz]
      clear hdz
      cases pf
      · have HGO := Lib.hid (show 0 < d ∨ D.isPrefixOf (L.drop p) = false from .inr HPF.out)
        have HXF := Lib.hid (show ∀ q, Sat W (pts b (useO vp vb long (.slice a n c) p) * (pts bc (.cells #[.int .i64 d] 3 (0, 0)) * F)) (wr.drewN q) from fun q => HX.out.rot.drewN)
        by_cases hlt : p < n
        · have hlt' : p < L.length := by rw [HN.out]; exact hlt
          obtain ⟨b', off, rfl, -, -⟩ := (hL _ HX.out.r.r).at hlt'
          have HGR := Lib.hid (delR_go (long := long) (d := d) (wh := wh) (op := op) L p hlt' HGO.out)
          have HPK := Lib.hid (show ∀ (F' : HProp) w, Sat W (pts b (useO vp vb long (.slice (some ⟨b', off, none⟩) n c) p) * (F' * F)) w → Calls Try.prog 57 #[.pointer (some ⟨b, 0, none⟩)] w fun e w' => e = .returned (.agg #[.int .i64 L[p].cat, .int .u8 L[p].chr.toNat, .string L[p].name]) ∧ Sat W (pts b (useO vp vb long (.slice (some ⟨b', off, none⟩) n c) p) * (F' * F)) w' from fun F' w h => peek_yes vp vb _ long L b p h hL' hlt')
          generalize L[p] = t at *
          obtain ⟨d', hd'⟩ : ∃ d', stepD d t = d' := ⟨_, rfl⟩
          have HCT := Lib.hid (show ∀ w, Sat W (pts bc (.cells #[.int .i64 d] 3 (0, 0)) * (pts b (useO vp vb long (.slice (some ⟨b', off, none⟩) n c) p) * F)) w → Calls Try.prog 65 #[.agg #[.int .i64 t.cat, .int .u8 t.chr.toNat, .string t.name], .pointer (some ⟨bc, 0, none⟩)] w fun e w' => e = .returned (.tuple #[.int .i64 d', .bool (decide (0 ≤ d'))]) ∧ Sat W (pts bc (.cells #[.int .i64 d'] 3 (0, 0)) * (pts b (useO vp vb long (.slice (some ⟨b', off, none⟩) n c) p) * F)) w' from fun w h => hd' ▸ count_any t d bc (by omega) h)
          obtain ⟨pu, hpu⟩ : ∃ pu, isPar t = pu := ⟨_, rfl⟩
          have HPU := Lib.hid (show ∀ w, Calls Try.prog 59 #[.agg #[.int .i64 t.cat, .int .u8 t.chr.toNat, .string t.name]] w fun e w' => e = .returned (.bool pu) ∧ w.alloc t.box = w' from fun w => hpu ▸ par_any t w)
          have HGR2 := Lib.hid (show delR D long d wh op (L.drop p) = if t.cat = 2 ∧ (d : Int) = 0 then .error 173 else if pu && !long then .error 171
              else (delR D long d' (wh + 1) (t.cat == 1) (L.drop (p + 1))).map fun x => (x.1 + 1, x.2) by rw [HGR.out, ← hpu, ← hd']; rw [if_pos HDZ.out, if_pos HDZ.out])
          have hsd : d' ≤ d + 1 ∧ d - 1 ≤ d' ∧ (t.cat ≠ 2 → d ≤ d') := by rw [← hd']; unfold stepD; split <;> (try split) <;> omega
          clear hpu HGR hd'
          go_wp2_with (go_at_call 60; refine (HF.out).mono ?_; rintro e w' ⟨rfl, qf, rfl⟩)
          refine Calls.mono (HPK.out _ _ (HXF.out _)) ?_
          rintro e w4 ⟨rfl, h4⟩
          have H4 := Lib.hid h4
          have H6 := Lib.hid (show Sat W (pts bc (.cells #[.int .i64 d] 3 (0, 0)) * (pts b (useO vp vb long (.slice (some ⟨b', off, none⟩) n c) p) * F)) (w4.alloc (.cells #[.int .i64 t.cat, .int .u8 t.chr.toNat, .string t.name] 46)) from h4.rot.allocD)
          have m2 := h4.cell (i := 2) rfl
          have hb := h4.lt
          clear h4
          by_cases hc2 : t.cat = 2 ∧ d = 0
          · first
              | exact absurd hc2.2 HDZ.out
              | (have HE := Lib.hid (show r = .error 173 by rw [← HR.out]; exact delM_no (k := 173) (by rw [HG.out, ← HA.out, HGR2.out, if_pos hc2]; rfl))
                 have q1 : (t.cat == 2) = true := by simp [hc2.1]
                 clear hc2
                 go_wp2_with (go_at_call 58; with_reducible refine Calls.mono (fail_any _ _ _) ?_; rintro e w' ⟨rfl, rfl⟩)
                 exact ⟨rfl, ArgPost.no HE.out H6.out.r⟩)
          · have HE0 := Lib.hid (show delR D long d wh op (L.drop p) = if pu && !long then .error 171 else (delR D long d' (wh + 1) (t.cat == 1) (L.drop (p + 1))).map fun x => (x.1 + 1, x.2) by rw [HGR2.out, if_neg hc2])
            have hd'0 : 0 ≤ d' := by
              rcases hsd with ⟨h1, h2, h3⟩
              by_cases h4 : t.cat = 2
              · have h5 : ¬ d = 0 := fun h5 => hc2 ⟨h4, h5⟩
                omega
              · have := h3 h4; omega
            have hcc : (t.cat == 2) = true → (d == 0) = false := by
              intro h5
              rw [beq_eq_false_iff_ne]
              exact fun h4 => hc2 ⟨by simpa using h5, h4⟩
            have hd1' : d' ≤ d + 1 := hsd.1
            clear hc2 hsd
            cases hpl : (pu && !long)
            · have HG5 := Lib.hid (ex_step (X := delR D long d' (wh + 1) (t.cat == 1) (L.drop (p + 1))) (q := q) (G := G) (by rw [← HA.out, HE0.out, hpl]; rfl))
              cases hq1 : (t.cat == 2)
              all_goals first
                | (have h7 := hcc hq1; rw [z2] at h7; exact absurd h7 (by decide))
                | (clear hcc
                   cases pu <;> cases long
                   all_goals first
                     | (exact absurd hpl (by decide))
                     | (clear hpl
                        go_wp2_with first | (go_at_call 59; with_reducible refine Calls.mono (HPU.out _) ?_; rintro e w' ⟨rfl, rfl⟩) | (go_at_call 65; with_reducible refine Calls.mono (HCT.out _ H6.out.allocD) ?_; rintro e w' ⟨rfl, h5⟩; (have H5 := Lib.hid h5; clear m2 hb; have m4 := h5.r.cell (i := 4) rfl; have f4 := h5.r.free (i := 4); have hb := h5.r.lt; clear h5))
                        have HS := Lib.hid ((H5.out.rot.set (i := 4) (v := .int .i64 (p + 1 : Nat))).rot)
                        go_roundg (n - (p + 1))
                        case measure => omega
                        case rel => exact ⟨p + 1, q + 1, d', (wh + 1), (t.cat == 1), by rw [HPQ.out, Nat.add_assoc], rfl, by omega, hd'0, by omega, by omega, rfl, by go_num, rfl, HG5.out, HS.out⟩))
            · have HE := Lib.hid (show r = .error 171 by rw [← HR.out]; exact delM_no (k := 171) (by rw [HG.out, ← HA.out, HE0.out, hpl]; rfl))
              cases hq1 : (t.cat == 2)
              all_goals first
                | (have h7 := hcc hq1; rw [z2] at h7; exact absurd h7 (by decide))
                | (clear hcc
                   cases pu <;> cases long
                   all_goals first
                     | (exact absurd hpl (by decide))
                     | (clear hpl
                        go_wp2_with first | (go_at_call 59; with_reducible refine Calls.mono (HPU.out _) ?_; rintro e w' ⟨rfl, rfl⟩) | (go_at_call 58; with_reducible refine Calls.mono (fail_any _ _ _) ?_; rintro e w' ⟨rfl, rfl⟩)
                        exact ⟨rfl, ArgPost.no HE.out H6.out.r.allocD⟩))
        · go_wp2_with (go_at_call 60; refine (HF.out).mono ?_; rintro e w' ⟨rfl, qf, rfl⟩)
          refine Calls.mono (peek_no vp vb _ long L b p (HXF.out _) (fun w h => hL w h.r) (by rw [HN.out]; exact hlt)) ?_
          rintro e w4 ⟨rfl, h2⟩
          refine ⟨rfl, ArgPost.no (k := 172) ?_ h2.rot.r⟩
          have e0 : L.drop p = [] := List.drop_of_length_le (by rw [HN.out]; omega)
          have e1 := HA.out
          rw [e0] at e1
          rw [← HR.out]
          exact delM_no (HG.out.trans e1.symm)
      · have HEq := Lib.hid (show G = .ok (q, wh, op) by
          have e := HA.out
          have ez := HDZ.out
          subst ez
          rw [delR_hit HD0.out HPF.out] at e
          rw [← e]; simp [Except.map])
        have HE := Lib.hid (show r = .ok (strip wh op ((L.drop i).take q), q + D.length) by rw [← HR.out]; exact delM_yes (HG.out.trans HEq.out))
        have hpm : p + m ≤ n := by
          have h1 := HPF.out
          rw [prefix_take, List.length_drop, HN.out, HM.out] at h1
          simp only [Bool.and_eq_true, decide_eq_true_eq] at h1
          omega
        have hip : i + q ≤ p := by have := HPQ.out; omega
        have hin : i < n := by omega
        obtain ⟨b', off, rfl, -, -⟩ := (hL _ HX.out.r.r).at (i := i) (by rw [HN.out]; exact hin)
        have m3 := HX.out.r.cell (i := 3) rfl
        have m4 := HX.out.r.cell (i := 4) rfl
        have f4 := HX.out.r.free (i := 4)
        have hb := HX.out.r.lt
        have HVW := Lib.hid (View.mid (b := b') (off := off) (c := c) (i := i) (m := p - i) HN.out hin (by omega))
        have HQI := Lib.hid (show p - i = q by have := HPQ.out; omega)
        have HS := Lib.hid ((HX.out.r.set (i := 4) (v := .int .i64 (p + m : Nat))))
        have e1 : (i : Int) ≤ (p : Int) := by omega
        have e2 : (p : Int) ≤ (c : Int) := by omega
        have w1 : IntKind.i64.wrap ((p : Int) + (m : Int)) = (p : Int) + m := IntWalk.i64_in _ (by omega)
        have hlen : ((L.drop i).take (p - i)).length = p - i := by rw [List.length_take, List.length_drop, HN.out]; omega
        have HLN := Lib.hid hlen
        clear hlen
        by_cases c1 : wh = 1 ∧ op = true
        · obtain ⟨c1, rfl⟩ := c1
          subst c1
          by_cases c3 : 2 ≤ p - i
          · have HE2 := Lib.hid (show r = .ok ((((L.drop i).take (p - i)).drop 1).take (p - i - 1 - 1), q + D.length) by rw [HE.out, strip, ← HQI.out, if_pos ⟨rfl, rfl, by rw [HLN.out]; exact c3⟩, HLN.out, show p - i - 1 - 1 = p - i - 2 by omega])
            have HV2 := Lib.hid (View.strip HVW.out HLN.out c3 (m := p - i - 1 - 1) (by omega))
            go_wp2_with (go_at_call 60; refine (HF.out).mono ?_; rintro e w' ⟨rfl, qf, rfl⟩)
            go_quiet (fail)
            go_wp2
            all_goals
              go_ret
              exact ArgPost.yes HE2.out HV2.out (by rw [HPQ.out, HM.out, Nat.add_assoc]) (HX.out.r.drewN.set (i := 4) (v := .int .i64 (p + m : Nat)))
          · have HE2 := Lib.hid (show r = .ok ((L.drop i).take (p - i), q + D.length) by rw [HE.out, strip, ← HQI.out, if_neg (by rw [HLN.out]; omega)])
            go_wp2_with (go_at_call 60; refine (HF.out).mono ?_; rintro e w' ⟨rfl, qf, rfl⟩)
            go_quiet (fail)
            go_wp2
            all_goals
              go_ret
              exact ArgPost.yes HE2.out HVW.out (by rw [HPQ.out, HM.out, Nat.add_assoc]) (HX.out.r.drewN.set (i := 4) (v := .int .i64 (p + m : Nat)))
        · have HE2 := Lib.hid (show r = .ok ((L.drop i).take (p - i), q + D.length) by rw [HE.out, strip, ← HQI.out, if_neg (fun h => c1 ⟨h.1, h.2.1⟩)])
          cases op
          · clear c1
            go_wp2_with (go_at_call 60; refine (HF.out).mono ?_; rintro e w' ⟨rfl, qf, rfl⟩)
            go_quiet (fail)
            go_wp2
            all_goals
              go_ret
              exact ArgPost.yes HE2.out HVW.out (by rw [HPQ.out, HM.out, Nat.add_assoc]) (HX.out.r.drewN.set (i := 4) (v := .int .i64 (p + m : Nat)))
          · have c2 : ((wh : Int) == 1) = false := by
              rw [beq_eq_false_iff_ne]
              intro h
              exact c1 ⟨by omega, rfl⟩
            clear c1
            go_wp2_with (go_at_call 60; refine (HF.out).mono ?_; rintro e w' ⟨rfl, qf, rfl⟩)
            go_quiet (fail)
            go_wp2
            all_goals
              go_ret
              exact ArgPost.yes HE2.out HVW.out (by rw [HPQ.out, HM.out, Nat.add_assoc]) (HX.out.r.drewN.set (i := 4) (v := .int .i64 (p + m : Nat)))
    · have HDZ := Lib.hid hdz
      have HGO := Lib.hid (show 0 < d ∨ D.isPrefixOf (L.drop p) = false from .inl (by omega))
      have z1 : 0 < d := by omega
      have z2 : (d == 0) = false := by simp [hdz]
      clear hdz
      by_cases hlt : p < n
      · have hlt' : p < L.length := by rw [HN.out]; exact hlt
        obtain ⟨b', off, rfl, -, -⟩ := (hL _ HX.out.r.r).at hlt'
        have HGR := Lib.hid (delR_go (long := long) (d := d) (wh := wh) (op := op) L p hlt' HGO.out)
        have HPK := Lib.hid (show ∀ (F' : HProp) w, Sat W (pts b (useO vp vb long (.slice (some ⟨b', off, none⟩) n c) p) * (F' * F)) w → Calls Try.prog 57 #[.pointer (some ⟨b, 0, none⟩)] w fun e w' => e = .returned (.agg #[.int .i64 L[p].cat, .int .u8 L[p].chr.toNat, .string L[p].name]) ∧ Sat W (pts b (useO vp vb long (.slice (some ⟨b', off, none⟩) n c) p) * (F' * F)) w' from fun F' w h => peek_yes vp vb _ long L b p h hL' hlt')
        generalize L[p] = t at *
        obtain ⟨d', hd'⟩ : ∃ d', stepD d t = d' := ⟨_, rfl⟩
        have HCT := Lib.hid (show ∀ w, Sat W (pts bc (.cells #[.int .i64 d] 3 (0, 0)) * (pts b (useO vp vb long (.slice (some ⟨b', off, none⟩) n c) p) * F)) w → Calls Try.prog 65 #[.agg #[.int .i64 t.cat, .int .u8 t.chr.toNat, .string t.name], .pointer (some ⟨bc, 0, none⟩)] w fun e w' => e = .returned (.tuple #[.int .i64 d', .bool (decide (0 ≤ d'))]) ∧ Sat W (pts bc (.cells #[.int .i64 d'] 3 (0, 0)) * (pts b (useO vp vb long (.slice (some ⟨b', off, none⟩) n c) p) * F)) w' from fun w h => hd' ▸ count_any t d bc (by omega) h)
        obtain ⟨pu, hpu⟩ : ∃ pu, isPar t = pu := ⟨_, rfl⟩
        have HPU := Lib.hid (show ∀ w, Calls Try.prog 59 #[.agg #[.int .i64 t.cat, .int .u8 t.chr.toNat, .string t.name]] w fun e w' => e = .returned (.bool pu) ∧ w.alloc t.box = w' from fun w => hpu ▸ par_any t w)
        have HGR2 := Lib.hid (show delR D long d wh op (L.drop p) = if t.cat = 2 ∧ (d : Int) = 0 then .error 173 else if pu && !long then .error 171
            else (delR D long d' wh op (L.drop (p + 1))).map fun x => (x.1 + 1, x.2) by rw [HGR.out, ← hpu, ← hd']; rw [if_neg HDZ.out, if_neg HDZ.out])
        have hsd : d' ≤ d + 1 ∧ d - 1 ≤ d' ∧ (t.cat ≠ 2 → d ≤ d') := by rw [← hd']; unfold stepD; split <;> (try split) <;> omega
        clear hpu HGR hd'
        go_wp2_with (go_at_call 60; refine (HF.out).mono ?_; rintro e w' ⟨rfl, qf, rfl⟩)
        refine Calls.mono (HPK.out _ _ (HX.out.rot)) ?_
        rintro e w4 ⟨rfl, h4⟩
        have H4 := Lib.hid h4
        have H6 := Lib.hid (show Sat W (pts bc (.cells #[.int .i64 d] 3 (0, 0)) * (pts b (useO vp vb long (.slice (some ⟨b', off, none⟩) n c) p) * F)) (w4.alloc (.cells #[.int .i64 t.cat, .int .u8 t.chr.toNat, .string t.name] 46)) from h4.rot.allocD)
        have m2 := h4.cell (i := 2) rfl
        have hb := h4.lt
        clear h4
        by_cases hc2 : t.cat = 2 ∧ d = 0
        · first
            | exact absurd hc2.2 HDZ.out
            | (have HE := Lib.hid (show r = .error 173 by rw [← HR.out]; exact delM_no (k := 173) (by rw [HG.out, ← HA.out, HGR2.out, if_pos hc2]; rfl))
               have q1 : (t.cat == 2) = true := by simp [hc2.1]
               clear hc2
               go_wp2_with (go_at_call 58; with_reducible refine Calls.mono (fail_any _ _ _) ?_; rintro e w' ⟨rfl, rfl⟩)
               exact ⟨rfl, ArgPost.no HE.out H6.out.r⟩)
        · have HE0 := Lib.hid (show delR D long d wh op (L.drop p) = if pu && !long then .error 171 else (delR D long d' wh op (L.drop (p + 1))).map fun x => (x.1 + 1, x.2) by rw [HGR2.out, if_neg hc2])
          have hd'0 : 0 ≤ d' := by
            rcases hsd with ⟨h1, h2, h3⟩
            by_cases h4 : t.cat = 2
            · have h5 : ¬ d = 0 := fun h5 => hc2 ⟨h4, h5⟩
              omega
            · have := h3 h4; omega
          have hcc : (t.cat == 2) = true → (d == 0) = false := by
            intro h5
            rw [beq_eq_false_iff_ne]
            exact fun h4 => hc2 ⟨by simpa using h5, h4⟩
          have hd1' : d' ≤ d + 1 := hsd.1
          clear hc2 hsd
          cases hpl : (pu && !long)
          · have HG5 := Lib.hid (ex_step (X := delR D long d' wh op (L.drop (p + 1))) (q := q) (G := G) (by rw [← HA.out, HE0.out, hpl]; rfl))
            cases hq1 : (t.cat == 2)
            all_goals first
              | (have h7 := hcc hq1; rw [z2] at h7; exact absurd h7 (by decide))
              | (clear hcc
                 cases pu <;> cases long
                 all_goals first
                   | (exact absurd hpl (by decide))
                   | (clear hpl
                      go_wp2_with first | (go_at_call 59; with_reducible refine Calls.mono (HPU.out _) ?_; rintro e w' ⟨rfl, rfl⟩) | (go_at_call 65; with_reducible refine Calls.mono (HCT.out _ H6.out.allocD) ?_; rintro e w' ⟨rfl, h5⟩; (have H5 := Lib.hid h5; clear m2 hb; have m4 := h5.r.cell (i := 4) rfl; have f4 := h5.r.free (i := 4); have hb := h5.r.lt; clear h5))
                      have HS := Lib.hid ((H5.out.rot.set (i := 4) (v := .int .i64 (p + 1 : Nat))).rot)
                      go_roundg (n - (p + 1))
                      case measure => omega
                      case rel => exact ⟨p + 1, q + 1, d', wh, op, by rw [HPQ.out, Nat.add_assoc], rfl, by omega, hd'0, by omega, by omega, rfl, by go_num, rfl, HG5.out, HS.out⟩))
          · have HE := Lib.hid (show r = .error 171 by rw [← HR.out]; exact delM_no (k := 171) (by rw [HG.out, ← HA.out, HE0.out, hpl]; rfl))
            cases hq1 : (t.cat == 2)
            all_goals first
              | (have h7 := hcc hq1; rw [z2] at h7; exact absurd h7 (by decide))
              | (clear hcc
                 cases pu <;> cases long
                 all_goals first
                   | (exact absurd hpl (by decide))
                   | (clear hpl
                      go_wp2_with first | (go_at_call 59; with_reducible refine Calls.mono (HPU.out _) ?_; rintro e w' ⟨rfl, rfl⟩) | (go_at_call 58; with_reducible refine Calls.mono (fail_any _ _ _) ?_; rintro e w' ⟨rfl, rfl⟩)
                      exact ⟨rfl, ArgPost.no HE.out H6.out.r.allocD⟩))
      · go_wp2_with (go_at_call 60; refine (HF.out).mono ?_; rintro e w' ⟨rfl, qf, rfl⟩)
        refine Calls.mono (peek_no vp vb _ long L b p (HX.out.rot) (fun w h => hL w h.r) (by rw [HN.out]; exact hlt)) ?_
        rintro e w4 ⟨rfl, h2⟩
        refine ⟨rfl, ArgPost.no (k := 172) ?_ h2.rot.r⟩
        have e0 : L.drop p = [] := List.drop_of_length_le (by rw [HN.out]; omega)
        have e1 := HA.out
        rw [e0] at e1
        rw [← HR.out]
        exact delM_no (HG.out.trans e1.symm)

end Go.Proofs.Ytlbebcioabfbgaa
