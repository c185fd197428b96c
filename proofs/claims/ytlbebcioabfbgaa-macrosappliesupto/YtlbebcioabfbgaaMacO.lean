/-
  The matcher: an argument without delimiters. Conditions: those that each theorem names.
-/
import Derived.Test.YtlbebcioabfbgaaMacN
import Derived.Deep.LoopGhost
namespace Go.Proofs.Ytlbebcioabfbgaa
open Go.RowKit Go.Sp
variable {W w w' : World} {F : HProp}

theorem spaces_drop (S : List Tok) (k : Nat) (h : k < S.length) (hc : S[k].cat = 10) : spaces (S.drop k) = spaces (S.drop (k + 1)) + 1 := by
  rw [List.drop_eq_getElem_cons h, spaces, if_pos hc]
theorem spaces_stop (S : List Tok) (k : Nat) (h : k < S.length) (hc : S[k].cat ≠ 10) : spaces (S.drop k) = 0 := by
  rw [List.drop_eq_getElem_cons h, spaces, if_neg hc]

/-- a view: where the list can be read, the argument can -/
def View (vl : Value) (L : List Tok) (v : Value) (X : List Tok) : Prop := ∀ w, RdT w vl L → RdT w v X

def ArgPost (W : World) (F : HProp) (b : Nat) (vp vb vl : Value) (long : Bool) (L : List Tok) (i : Nat) (r : Except Int (List Tok × Nat)) (e : Ending) (w' : World) : Prop :=
  match r with
  | .ok x => ∃ v, e = .returned v ∧ View vl L v x.1 ∧ Sat W (pts b (useO vp vb long vl (i + x.2)) * F) w'
  | .error k => e = died k ∧ ∃ j, Sat W (pts b (useO vp vb long vl j) * F) w'

theorem ArgPost.no {W : World} {F : HProp} {b : Nat} {vp vb vl : Value} {long : Bool} {L : List Tok} {i j : Nat} {r : Except Int (List Tok × Nat)} {k : Int} {w' : World} (h : r = .error k) (hs : Sat W (pts b (useO vp vb long vl j) * F) w') :
    ArgPost W F b vp vb vl long L i r (died k) w' := by subst h; exact ⟨rfl, _, hs⟩
theorem ArgPost.yes {W : World} {F : HProp} {b : Nat} {vp vb vl : Value} {long : Bool} {L : List Tok} {i j : Nat} {r : Except Int (List Tok × Nat)} {X : List Tok} {n : Nat} {v : Value} {w' : World} (h : r = .ok (X, n)) (hv : View vl L v X) (hj : j = i + n) (hs : Sat W (pts b (useO vp vb long vl j) * F) w') :
    ArgPost W F b vp vb vl long L i r (.returned v) w' := by subst h hj; exact ⟨_, rfl, hv, hs⟩

def grpE (long : Bool) (sp : Nat) (r : List Tok) : Option (Nat × Bool) → Except Int (List Tok × Nat)
  | none => .error 172
  | some x => if x.2 && !long then .error 171 else .ok (r.take (x.1 - 2), sp + x.1)

/-- what is behind the spaces -/
def plainT (long : Bool) (sp : Nat) : List Tok → Except Int (List Tok × Nat)
  | [] => .error 172
  | t :: r =>
    if t.cat = 2 then .error 173
    else if t.cat = 1 then grpE long sp r (grp 0 false (t :: r))
    else if isPar t && !long then .error 171 else .ok ([t], sp + 1)

theorem plainM_T (long : Bool) (S : List Tok) : plainM long S = plainT long (spaces S) (S.drop (spaces S)) := by
  unfold plainM plainT
  cases S.drop (spaces S) with
  | nil => rfl
  | cons t r => simp only [grpE]; cases grp 0 false (t :: r) <;> rfl

theorem View.mid {b off n c i m : Nat} {L : List Tok} (hn : L.length = n) (hi : i < n) (hm : i + m ≤ n) : View (.slice (some ⟨b, off, none⟩) n c) L (.slice (some ⟨b, off + i * 3, none⟩) m (c - i)) ((L.drop i).take m) := by
  intro w h
  obtain ⟨b', off', e, h'⟩ := h.mid (i := i) (m := m) (by omega) (by omega)
  cases e
  exact h'

theorem fld0 (c h n : Value) (w : World) : (Instr.field 46 (.agg #[c, h, n]) 0).run Try.prog w = .ok c w := by kernel_rfl

theorem grp_step {G X : Option (Nat × Bool)} {q : Nat} (h : (X.map fun x => (x.1 + 1, x.2)).map (fun y => (y.1 + q, y.2)) = G) : X.map (fun y => (y.1 + (q + 1), y.2)) = G := by
  rw [← h]; cases X <;> simp; omega


set_option maxRecDepth 100000 in
set_option maxHeartbeats 4000000 in
theorem plain_any (vp vb vl : Value) (long : Bool) (L : List Tok) (b i : Nat) (h : Sat W (pts b (useO vp vb long vl i) * F) w) (hL : Holds W F vl L) (hi : i ≤ L.length) (hn9 : L.length ≤ 4000000000) :
    Calls Try.prog 48 #[.pointer (some ⟨b, 0, none⟩)] w (ArgPost W F b vp vb vl long L i (plainM long (L.drop i))) := by
  obtain ⟨n, hn⟩ : ∃ n, L.length = n := ⟨_, rfl⟩
  obtain ⟨a, c, hv, hc⟩ := (hL w h.r).capd
  rw [hn] at hv hc
  subst hv
  obtain ⟨r, hr⟩ : ∃ r, plainM long (L.drop i) = r := ⟨_, rfl⟩
  rw [hr]
  have HR := Lib.hid hr
  have HN := Lib.hid hn
  have H := Lib.hid h
  clear hr h hn
  have hL' : ∀ {F' : HProp}, Holds W (F' * F) (.slice a n c) L := fun w h => hL w h.r
  rw [HN.out] at hi hn9
  have hfl := fld0
  go_enter Try.func48, Try.ntmps48
  go_wp2
  go_loopg [10] (n - i) (fun k _ wr => ∃ s j : Nat, s = i + j ∧ k = n - s ∧ s ≤ n ∧ spaces (L.drop s) + j = spaces (L.drop i) ∧ Sat W (pts b (useO vp vb long (.slice a n c) s) * F) wr)
  case atStart => exact ⟨i, 0, rfl, rfl, hi, rfl, H.out⟩
  case round =>
    obtain ⟨s, j, hs, rfl, hij, ha, hx⟩ := hrel
    have HS0 := Lib.hid hs
    have HA := Lib.hid ha
    have HX := Lib.hid hx
    clear ha hx hs
    by_cases hlt : s < n
    · have hlt' : s < L.length := by rw [HN.out]; exact hlt
      obtain ⟨b', off, rfl, -, -⟩ := (hL _ HX.out.r).at hlt'
      have HPK := Lib.hid (show ∀ (F' : HProp) w, Sat W (pts b (useO vp vb long (.slice (some ⟨b', off, none⟩) n c) s) * (F' * F)) w → Calls Try.prog 57 #[.pointer (some ⟨b, 0, none⟩)] w fun e w' => e = .returned (.agg #[.int .i64 L[s].cat, .int .u8 L[s].chr.toNat, .string L[s].name]) ∧ Sat W (pts b (useO vp vb long (.slice (some ⟨b', off, none⟩) n c) s) * (F' * F)) w' from fun F' w h => peek_yes vp vb (.slice (some ⟨b', off, none⟩) n c) long L b s h hL' hlt')
      have m4 := HX.out.cell (i := 4) rfl
      have f4 := HX.out.free (i := 4)
      have hb := HX.out.lt
      by_cases h10 : L[s].cat = 10
      · have e1 : (L[s].cat == 10) = true := by simp [h10]
        have HA2 := Lib.hid (show spaces (L.drop (s + 1)) + (j + 1) = spaces (L.drop i) by have := spaces_drop L s hlt' h10; have h2 := HA.out; omega)
        generalize L[s] = t at *
        clear h10
        go_wp2_with (go_at_call 57; with_reducible refine Calls.mono (HPK.out emp _ ?_) ?_; exact HX.out.of_eq (by rw [emp_star]); rintro e w' ⟨rfl, h2⟩; rw [emp_star] at h2; clear m4 f4 hb; have HS := Lib.hid (h2.set (i := 4) (v := .int .i64 (s + 1 : Nat))); have m4 := h2.cell (i := 4) rfl; have f4 := h2.free (i := 4); have hb := h2.lt; clear h2)
        go_roundg (n - (s + 1))
        case measure => omega
        case rel => exact ⟨s + 1, j + 1, by rw [HS0.out, Nat.add_assoc], rfl, by omega, HA2.out, HS.out⟩
      · have e1 : (L[s].cat == 10) = false := by simp [h10]
        have HSP := Lib.hid (show spaces (L.drop i) = j by have := spaces_stop L s hlt' h10; have h2 := HA.out; omega)
        have HRT := Lib.hid (show plainT long j (L[s] :: L.drop (s + 1)) = r by
          rw [← HR.out, plainM_T, HSP.out, List.drop_drop, ← HS0.out, List.drop_eq_getElem_cons hlt'])
        generalize ht : L[s] = t at *
        have HT := Lib.hid ht
        clear h10 ht
        go_wp2_with fail
        refine Calls.mono (HPK.out emp _ (HX.out.of_eq (by rw [emp_star]))) ?_
        rintro e w1 ⟨rfl, h2⟩
        rw [emp_star] at h2
        have HS2 := Lib.hid h2
        clear m4 f4 hb h2
        go_wp2_with fail
        refine Calls.mono (HPK.out emp _ (HS2.out.of_eq (by rw [emp_star]))) ?_
        rintro e w2 ⟨rfl, h2⟩
        rw [emp_star] at h2
        have m4 := h2.cell (i := 4) rfl
        have f4 := h2.free (i := 4)
        have m3 := h2.cell (i := 3) rfl
        have m2 := h2.cell (i := 2) rfl
        have hb := h2.lt
        have HS := Lib.hid (h2.alloc (.cells #[.int .i64 t.cat, .int .u8 t.chr.toNat, .string t.name] 46))
        have HW2 := Lib.hid h2
        clear h2
        by_cases hc2 : t.cat = 2
        · have q1 : (t.cat == 2) = true := by simp [hc2]
          have HE := Lib.hid (show r = .error 173 by rw [← HRT.out]; simp [plainT, hc2])
          clear hc2
          go_wp2_with (go_at_call 58; with_reducible refine Calls.mono (fail_any _ _ _) ?_; rintro e w' ⟨rfl, rfl⟩)
          exact ⟨rfl, ArgPost.no HE.out HS.out.r⟩
        have q1 : (t.cat == 2) = false := by simp [hc2]
        by_cases hc1 : t.cat = 1
        · have q2 : (t.cat == 1) = true := by simp [hc1]
          obtain ⟨G, hG⟩ : ∃ G, grp 0 false (t :: L.drop (s + 1)) = G := ⟨_, rfl⟩
          have HE := Lib.hid (show r = grpE long j (L.drop (s + 1)) G by rw [← HRT.out, ← hG]; simp [plainT, hc1])
          have HG := Lib.hid hG
          have HT1 := Lib.hid (show stepD 0 t = 1 by simp [stepD, hc1])
          clear hc1 hc2 hG
          go_wp2_with (go_at_call 56; with_reducible refine Calls.mono (braces_any HS.out) ?_; rintro e w' ⟨bc, rfl, h3⟩)
          have HG0 := Lib.hid (show (grp 0 false (L.drop s)).map (fun y => (y.1 + 0, y.2)) = G by rw [← HG.out, List.drop_eq_getElem_cons hlt', HT.out]; cases grp 0 false (t :: L.drop (s + 1)) <;> rfl)
          have H3 := Lib.hid (show Sat W (pts bc (.cells #[.int .i64 0] 3 (0, 0)) * (pts b (useO vp vb long (.slice (some ⟨b', off, none⟩) n c) s) * F)) w' from h3.rot.r)
          clear h3
          unfold counter
          go_loopg [5] (n - s) (fun k sp wr => ∃ (p q : Nat) (d : Int) (pb : Bool), p = s + q ∧ k = n - p ∧ p ≤ n ∧ 0 ≤ d ∧ d ≤ q ∧ (q = 0 ∨ 1 ≤ d) ∧ sp = .bool pb ∧ (grp d pb (L.drop p)).map (fun y => (y.1 + q, y.2)) = G ∧
            Sat W (pts bc (.cells #[.int .i64 d] 3 (0, 0)) * (pts b (useO vp vb long (.slice (some ⟨b', off, none⟩) n c) p) * F)) wr)
          case atStart => exact ⟨s, 0, 0, false, rfl, rfl, hij, by omega, by omega, .inl rfl, rfl, HG0.out, H3.out⟩
          case round =>
            obtain ⟨p, q, d, pb, hp, rfl, hq, hd0, hd1, hqd, rfl, ha, hx⟩ := hrel
            have HA3 := Lib.hid ha
            have HX3 := Lib.hid hx
            have HPQ := Lib.hid hp
            have hqp : q ≤ p := by omega
            clear ha hx hp
            by_cases hlt3 : p < n
            · have hlt3' : p < L.length := by rw [HN.out]; exact hlt3
              have HGR := Lib.hid (show grp d pb (L.drop p) = if stepD d L[p] = 0 then some (1, pb || isPar L[p]) else (grp (stepD d L[p]) (pb || isPar L[p]) (L.drop (p + 1))).map fun x => (x.1 + 1, x.2) by rw [List.drop_eq_getElem_cons hlt3', grp])
              have HTU0 : q = 0 → stepD d L[p] = 1 := by
                intro hq0
                subst hq0
                have hd : d = 0 := by omega
                subst hd
                have e := HT.out
                have e2 := HPQ.out
                simp only [Nat.add_zero] at e2
                subst e2
                rw [e]
                exact HT1.out
              have HTU := Lib.hid HTU0
              clear HTU0
              have HPK2 := Lib.hid (show ∀ (F' : HProp) w, Sat W (pts b (useO vp vb long (.slice (some ⟨b', off, none⟩) n c) p) * (F' * F)) w → Calls Try.prog 57 #[.pointer (some ⟨b, 0, none⟩)] w fun e w' => e = .returned (.agg #[.int .i64 L[p].cat, .int .u8 L[p].chr.toNat, .string L[p].name]) ∧ Sat W (pts b (useO vp vb long (.slice (some ⟨b', off, none⟩) n c) p) * (F' * F)) w' from fun F' w h => peek_yes vp vb _ long L b p h hL' hlt3')
              generalize L[p] = u at *
              go_wp2_with fail
              refine Calls.mono (HPK2.out _ _ HX3.out.rot) ?_
              rintro e w4 ⟨rfl, h4⟩
              clear m4 f4 m3 m2 hb
              have H6 := Lib.hid (show Sat W (pts bc (.cells #[.int .i64 d] 3 (0, 0)) * (pts b (useO vp vb long (.slice (some ⟨b', off, none⟩) n c) (p + 1)) * F)) ((w4.setCell ⟨b, 4, none⟩ (.int .i64 ((p : Int) + 1))).alloc (.cells #[.int .i64 u.cat, .int .u8 u.chr.toNat, .string u.name] 46)) from (h4.set (i := 4) (v := .int .i64 (p + 1 : Nat))).rot.allocD (o := .cells #[.int .i64 u.cat, .int .u8 u.chr.toNat, .string u.name] 46))
              have m4 := h4.cell (i := 4) rfl
              have f4 := h4.free (i := 4)
              have m3 := h4.cell (i := 3) rfl
              have m2 := h4.cell (i := 2) rfl
              have hb := h4.lt
              clear h4
              have hsd : stepD d u ≤ d + 1 ∧ d - 1 ≤ stepD d u := by unfold stepD; split <;> (try split) <;> omega
              obtain ⟨d', hd'⟩ : ∃ d', stepD d u = d' := ⟨_, rfl⟩
              have HD' := Lib.hid hd'
              rw [hd'] at hsd
              have HCT := Lib.hid (show ∀ w, Sat W (pts bc (.cells #[.int .i64 d] 3 (0, 0)) * (pts b (useO vp vb long (.slice (some ⟨b', off, none⟩) n c) (p + 1)) * F)) w → Calls Try.prog 65 #[.agg #[.int .i64 u.cat, .int .u8 u.chr.toNat, .string u.name], .pointer (some ⟨bc, 0, none⟩)] w fun e w' => e = .returned (.tuple #[.int .i64 d', .bool (decide (0 ≤ d'))]) ∧ Sat W (pts bc (.cells #[.int .i64 d'] 3 (0, 0)) * (pts b (useO vp vb long (.slice (some ⟨b', off, none⟩) n c) (p + 1)) * F)) w' from fun w h => hd' ▸ count_any u d bc (by omega) h)
              clear hd'
              obtain ⟨pu, hpu⟩ : ∃ pu, isPar u = pu := ⟨_, rfl⟩
              have HPU := Lib.hid (show ∀ w, Calls Try.prog 59 #[.agg #[.int .i64 u.cat, .int .u8 u.chr.toNat, .string u.name]] w fun e w' => e = .returned (.bool pu) ∧ w.alloc u.box = w' from fun w => hpu ▸ par_any u w)
              have HGR2 := Lib.hid (show grp d pb (L.drop p) = if d' = 0 then some (1, pb || pu) else (grp d' (pb || pu) (L.drop (p + 1))).map fun x => (x.1 + 1, x.2) by rw [← hpu, ← HD'.out]; exact HGR.out)
              clear hpu HGR
              cases pb
              · cases pu
                · skip
                  by_cases hz : d' = 0
                  · have z1 : (d' == 0) = true := by simp [hz]
                    have HG5 := Lib.hid (show G = some (q + 1, false) by rw [← HA3.out, HGR2.out, if_pos hz]; simp [Nat.add_comm])
                    have hq1 : 1 ≤ q := by
                      have h1 := HTU.out
                      have h2 := HD'.out
                      omega
                    clear hz
                    have HVW := Lib.hid (View.mid (b := b') (off := off) (c := c) (i := s + 1) (m := p - (s + 1)) HN.out (by have := HPQ.out; omega) (by have := HPQ.out; omega))
                    have HPS := Lib.hid (show p - (s + 1) = q + 1 - 2 by have := HPQ.out; omega)
                    have hps : s + 1 ≤ p := by have := HPQ.out; omega
                    have HE3 := Lib.hid (show r = if false && !long then .error 171 else .ok ((L.drop (s + 1)).take (q + 1 - 2), j + (q + 1)) by rw [HE.out, HG5.out, grpE])
                    have w1 : IntKind.i64.wrap ((p : Int) + 1 - 1) = (p : Int) := by rw [show (p : Int) + 1 - 1 = p by omega]; exact IntWalk.i64_in _ (by omega)
                    have e1 : ((s : Int) + 1).toNat = s + 1 := by omega
                    have e2 : ((s : Int) + 1 ≤ (p : Int)) := by omega
                    have e3 : ((p : Int) ≤ (c : Int)) := by omega
                    cases long
                    all_goals
                      go_wp2_with first | (go_at_call 59; with_reducible refine Calls.mono (HPU.out _) ?_; rintro e w' ⟨rfl, rfl⟩) | (go_at_call 65; with_reducible refine Calls.mono (HCT.out _ H6.out.allocD) ?_; rintro e w' ⟨rfl, h5⟩; (have H5 := Lib.hid h5; clear m4 f4 m3 m2 hb; have m4 := h5.r.cell (i := 4) rfl; have m3 := h5.r.cell (i := 3) rfl; have m2 := h5.r.cell (i := 2) rfl; have hb := h5.r.lt; clear h5)) | (go_at_call 58; with_reducible refine Calls.mono (fail_any _ _ _) ?_; rintro e w' ⟨rfl, rfl⟩)
                      first
                        | exact ⟨rfl, ArgPost.no (by rw [HE3.out]; rfl) H5.out.r⟩
                        | (go_quiet (fail)
                           go_wp2
                           go_ret
                           exact ArgPost.yes (X := (L.drop (s + 1)).take (q + 1 - 2)) (n := j + (q + 1)) (by rw [HE3.out]; rfl) (by rw [← HPS.out]; exact HVW.out) (by rw [HPQ.out, HS0.out]; omega) H5.out.r.drewN)
                  · have z1 : (d' == 0) = false := by simp [hz]
                    have HG5 := Lib.hid (grp_step (X := grp d' false (L.drop (p + 1))) (q := q) (G := G) (by rw [← HA3.out, HGR2.out, if_neg hz]; rfl))
                    have HD5 := Lib.hid (show 0 ≤ d' ∧ d' ≤ (q + 1 : Nat) ∧ (q + 1 = 0 ∨ 1 ≤ d') by
                      have h1 := HTU.out
                      have h2 := HD'.out
                      omega)
                    clear hz
                    go_wp2_with first | (go_at_call 59; with_reducible refine Calls.mono (HPU.out _) ?_; rintro e w' ⟨rfl, rfl⟩) | (go_at_call 65; with_reducible refine Calls.mono (HCT.out _ H6.out.allocD) ?_; rintro e w' ⟨rfl, h5⟩)
                    go_roundg (n - (p + 1))
                    case measure => omega
                    case rel => exact ⟨p + 1, q + 1, d', false, by rw [HPQ.out, Nat.add_assoc], rfl, by omega, HD5.out.1, HD5.out.2.1, HD5.out.2.2, rfl, HG5.out, h5⟩
                · skip
                  by_cases hz : d' = 0
                  · have z1 : (d' == 0) = true := by simp [hz]
                    have HG5 := Lib.hid (show G = some (q + 1, true) by rw [← HA3.out, HGR2.out, if_pos hz]; simp [Nat.add_comm])
                    have hq1 : 1 ≤ q := by
                      have h1 := HTU.out
                      have h2 := HD'.out
                      omega
                    clear hz
                    have HVW := Lib.hid (View.mid (b := b') (off := off) (c := c) (i := s + 1) (m := p - (s + 1)) HN.out (by have := HPQ.out; omega) (by have := HPQ.out; omega))
                    have HPS := Lib.hid (show p - (s + 1) = q + 1 - 2 by have := HPQ.out; omega)
                    have hps : s + 1 ≤ p := by have := HPQ.out; omega
                    have HE3 := Lib.hid (show r = if true && !long then .error 171 else .ok ((L.drop (s + 1)).take (q + 1 - 2), j + (q + 1)) by rw [HE.out, HG5.out, grpE])
                    have w1 : IntKind.i64.wrap ((p : Int) + 1 - 1) = (p : Int) := by rw [show (p : Int) + 1 - 1 = p by omega]; exact IntWalk.i64_in _ (by omega)
                    have e1 : ((s : Int) + 1).toNat = s + 1 := by omega
                    have e2 : ((s : Int) + 1 ≤ (p : Int)) := by omega
                    have e3 : ((p : Int) ≤ (c : Int)) := by omega
                    cases long
                    all_goals
                      go_wp2_with first | (go_at_call 59; with_reducible refine Calls.mono (HPU.out _) ?_; rintro e w' ⟨rfl, rfl⟩) | (go_at_call 65; with_reducible refine Calls.mono (HCT.out _ H6.out.allocD) ?_; rintro e w' ⟨rfl, h5⟩; (have H5 := Lib.hid h5; clear m4 f4 m3 m2 hb; have m4 := h5.r.cell (i := 4) rfl; have m3 := h5.r.cell (i := 3) rfl; have m2 := h5.r.cell (i := 2) rfl; have hb := h5.r.lt; clear h5)) | (go_at_call 58; with_reducible refine Calls.mono (fail_any _ _ _) ?_; rintro e w' ⟨rfl, rfl⟩)
                      first
                        | exact ⟨rfl, ArgPost.no (by rw [HE3.out]; rfl) H5.out.r⟩
                        | (go_quiet (fail)
                           go_wp2
                           go_ret
                           exact ArgPost.yes (X := (L.drop (s + 1)).take (q + 1 - 2)) (n := j + (q + 1)) (by rw [HE3.out]; rfl) (by rw [← HPS.out]; exact HVW.out) (by rw [HPQ.out, HS0.out]; omega) H5.out.r.drewN)
                  · have z1 : (d' == 0) = false := by simp [hz]
                    have HG5 := Lib.hid (grp_step (X := grp d' true (L.drop (p + 1))) (q := q) (G := G) (by rw [← HA3.out, HGR2.out, if_neg hz]; rfl))
                    have HD5 := Lib.hid (show 0 ≤ d' ∧ d' ≤ (q + 1 : Nat) ∧ (q + 1 = 0 ∨ 1 ≤ d') by
                      have h1 := HTU.out
                      have h2 := HD'.out
                      omega)
                    clear hz
                    go_wp2_with first | (go_at_call 59; with_reducible refine Calls.mono (HPU.out _) ?_; rintro e w' ⟨rfl, rfl⟩) | (go_at_call 65; with_reducible refine Calls.mono (HCT.out _ H6.out.allocD) ?_; rintro e w' ⟨rfl, h5⟩)
                    go_roundg (n - (p + 1))
                    case measure => omega
                    case rel => exact ⟨p + 1, q + 1, d', true, by rw [HPQ.out, Nat.add_assoc], rfl, by omega, HD5.out.1, HD5.out.2.1, HD5.out.2.2, rfl, HG5.out, h5⟩
              · skip
                by_cases hz : d' = 0
                · have z1 : (d' == 0) = true := by simp [hz]
                  have HG5 := Lib.hid (show G = some (q + 1, true) by rw [← HA3.out, HGR2.out, if_pos hz]; simp [Nat.add_comm])
                  have hq1 : 1 ≤ q := by
                    have h1 := HTU.out
                    have h2 := HD'.out
                    omega
                  clear hz
                  have HVW := Lib.hid (View.mid (b := b') (off := off) (c := c) (i := s + 1) (m := p - (s + 1)) HN.out (by have := HPQ.out; omega) (by have := HPQ.out; omega))
                  have HPS := Lib.hid (show p - (s + 1) = q + 1 - 2 by have := HPQ.out; omega)
                  have hps : s + 1 ≤ p := by have := HPQ.out; omega
                  have HE3 := Lib.hid (show r = if true && !long then .error 171 else .ok ((L.drop (s + 1)).take (q + 1 - 2), j + (q + 1)) by rw [HE.out, HG5.out, grpE])
                  have w1 : IntKind.i64.wrap ((p : Int) + 1 - 1) = (p : Int) := by rw [show (p : Int) + 1 - 1 = p by omega]; exact IntWalk.i64_in _ (by omega)
                  have e1 : ((s : Int) + 1).toNat = s + 1 := by omega
                  have e2 : ((s : Int) + 1 ≤ (p : Int)) := by omega
                  have e3 : ((p : Int) ≤ (c : Int)) := by omega
                  cases long
                  all_goals
                    go_wp2_with first | (go_at_call 59; with_reducible refine Calls.mono (HPU.out _) ?_; rintro e w' ⟨rfl, rfl⟩) | (go_at_call 65; with_reducible refine Calls.mono (HCT.out _ H6.out) ?_; rintro e w' ⟨rfl, h5⟩; (have H5 := Lib.hid h5; clear m4 f4 m3 m2 hb; have m4 := h5.r.cell (i := 4) rfl; have m3 := h5.r.cell (i := 3) rfl; have m2 := h5.r.cell (i := 2) rfl; have hb := h5.r.lt; clear h5)) | (go_at_call 58; with_reducible refine Calls.mono (fail_any _ _ _) ?_; rintro e w' ⟨rfl, rfl⟩)
                    first
                      | exact ⟨rfl, ArgPost.no (by rw [HE3.out]; rfl) H5.out.r⟩
                      | (go_quiet (fail)
                         go_wp2
                         go_ret
                         exact ArgPost.yes (X := (L.drop (s + 1)).take (q + 1 - 2)) (n := j + (q + 1)) (by rw [HE3.out]; rfl) (by rw [← HPS.out]; exact HVW.out) (by rw [HPQ.out, HS0.out]; omega) H5.out.r.drewN)
                · have z1 : (d' == 0) = false := by simp [hz]
                  have HG5 := Lib.hid (grp_step (X := grp d' true (L.drop (p + 1))) (q := q) (G := G) (by rw [← HA3.out, HGR2.out, if_neg hz]; rfl))
                  have HD5 := Lib.hid (show 0 ≤ d' ∧ d' ≤ (q + 1 : Nat) ∧ (q + 1 = 0 ∨ 1 ≤ d') by
                    have h1 := HTU.out
                    have h2 := HD'.out
                    omega)
                  clear hz
                  go_wp2_with first | (go_at_call 59; with_reducible refine Calls.mono (HPU.out _) ?_; rintro e w' ⟨rfl, rfl⟩) | (go_at_call 65; with_reducible refine Calls.mono (HCT.out _ H6.out) ?_; rintro e w' ⟨rfl, h5⟩)
                  go_roundg (n - (p + 1))
                  case measure => omega
                  case rel => exact ⟨p + 1, q + 1, d', true, by rw [HPQ.out, Nat.add_assoc], rfl, by omega, HD5.out.1, HD5.out.2.1, HD5.out.2.2, rfl, HG5.out, h5⟩
            · go_wp2_with fail
              refine Calls.mono (peek_no vp vb _ long L b p HX3.out.rot (fun w h => hL w h.r) (by rw [HN.out]; exact hlt3)) ?_
              rintro e w4 ⟨rfl, h2⟩
              refine ⟨rfl, ArgPost.no (k := 172) ?_ h2.rot.r⟩
              have e0 : L.drop p = [] := List.drop_of_length_le (by rw [HN.out]; omega)
              have e1 := HA3.out
              rw [e0] at e1
              rw [HE.out, ← e1]
              rfl
        · have q2 : (t.cat == 1) = false := by simp [hc1]
          obtain ⟨pu, hpu⟩ : ∃ pu, isPar t = pu := ⟨_, rfl⟩
          have HPU := Lib.hid (show ∀ w, Calls Try.prog 59 #[.agg #[.int .i64 t.cat, .int .u8 t.chr.toNat, .string t.name]] w fun e w' => e = .returned (.bool pu) ∧ w.alloc t.box = w' from fun w => hpu ▸ par_any t w)
          have HE3 := Lib.hid (show r = if pu && !long then .error 171 else .ok ([t], j + 1) by rw [← HRT.out, ← hpu]; simp [plainT, hc1, hc2])
          have HVW := Lib.hid (show View (.slice (some ⟨b', off, none⟩) n c) L (.slice (some ⟨b', off + s * 3, none⟩) 1 (c - s)) [t] from by
            have := View.mid (b := b') (off := off) (c := c) (i := s) (m := 1) HN.out hlt (by omega)
            rw [List.drop_eq_getElem_cons hlt', HT.out] at this
            exact this)
          have HX4 := Lib.hid (HW2.out.set (i := 4) (v := .int .i64 (s + 1 : Nat)))
          have HX5 := Lib.hid (show ∀ o, Sat W (pts b (useO vp vb long (.slice (some ⟨b', off, none⟩) n c) s) * F) ((w2.alloc (.cells #[.int .i64 t.cat, .int .u8 t.chr.toNat, .string t.name] 46)).alloc o) from fun o => HS.out.r.allocD)
          clear hc1 hc2 hpu
          have e1 : (s : Int) + 1 ≤ (c : Int) := by omega
          have e3 : ((s : Int) + 1).toNat = s + 1 := by omega
          have w1 : IntKind.i64.wrap ((s : Int) + 1 - 1) = (s : Int) := by rw [show (s : Int) + 1 - 1 = s by omega]; exact IntWalk.i64_in _ (by omega)
          cases pu <;> cases long
          all_goals
            go_wp2_with first | (go_at_call 59; with_reducible refine Calls.mono (HPU.out _) ?_; rintro e w' ⟨rfl, rfl⟩) | (go_at_call 58; with_reducible refine Calls.mono (fail_any _ _ _) ?_; rintro e w' ⟨rfl, rfl⟩)
            first
              | exact ⟨rfl, ArgPost.no (by rw [HE3.out]; rfl) (HX5.out _)⟩
              | (go_quiet (fail)
                 go_wp2
                 go_ret
                 exact ArgPost.yes (X := [t]) (n := j + 1) (by rw [HE3.out]; rfl) HVW.out (by rw [HS0.out, Nat.add_assoc]) HX4.out.allocD.allocD.drewN)
    · go_wp2_with fail
      refine Calls.mono (peek_no vp vb (.slice a n c) long L b s HX.out hL (by rw [HN.out]; exact hlt)) ?_
      rintro e w' ⟨rfl, h2⟩
      refine ⟨rfl, ArgPost.no (k := 172) ?_ h2⟩
      have e0 : L.drop s = [] := List.drop_of_length_le (by rw [HN.out]; omega)
      have e1 := HA.out
      rw [e0] at e1
      have e2 : spaces (L.drop i) = j := by rw [← e1]; simp [spaces]
      rw [← HR.out, plainM_T, List.drop_drop, e2, ← HS0.out, e0]
      rfl

end Go.Proofs.Ytlbebcioabfbgaa
