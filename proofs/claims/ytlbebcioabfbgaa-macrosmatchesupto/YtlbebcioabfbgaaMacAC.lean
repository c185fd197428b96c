/-
  Arguments are balanced, and what is applied, too. Conditions: none; no program in sight.
-/
import Derived.Test.YtlbebcioabfbgaaMacAA
import Derived.Test.YtlbebcioabfbgaaMacY
namespace Go.Proofs.Ytlbebcioabfbgaa
open Go.RowKit Go.Sp

theorem right_no2 {t : Tok} (h : rightB t = true) : t.cat ≠ 17 := by
  rintro h2; simp [rightB, h2] at h

theorem stepD_bd (d : Int) (t : Tok) : d - 1 ≤ stepD d t ∧ stepD d t ≤ d + 1 ∧ (t.cat ≠ 2 → d ≤ stepD d t) := by
  unfold stepD; split <;> (try split) <;> omega
theorem stepD_sub (d e : Int) (t : Tok) : stepD (d - e) t = stepD d t - e := by
  unfold stepD; split <;> (try split) <;> omega
theorem stepD_add (d e : Int) (t : Tok) : stepD (d + e) t = stepD d t + e := by
  unfold stepD; split <;> (try split) <;> omega

theorem grp_bal : ∀ (S : List Tok) (d : Int) (p : Bool) (x : Nat × Bool), 1 ≤ d → grp d p S = some x → 1 ≤ x.1 ∧ balF (d - 1) (S.take (x.1 - 1)) = true := by
  intro S
  induction S with
  | nil => intro d p x _ h; simp [grp] at h
  | cons t S ih =>
    intro d p x hd h
    have hb := stepD_bd d t
    rw [grp] at h
    split at h
    · rename_i hz
      cases h
      refine ⟨Nat.le_refl _, ?_⟩
      have : d = 1 := by omega
      subst this
      simp [balF]
    · rename_i hz
      cases hg : grp (stepD d t) (p || isPar t) S with
      | none => rw [hg] at h; cases h
      | some y =>
        rw [hg] at h
        cases h
        obtain ⟨h1, h2⟩ := ih _ _ _ (by omega) hg
        refine ⟨by simp, ?_⟩
        simp only [Nat.add_sub_cancel]
        obtain ⟨m, hm⟩ : ∃ m, y.1 = m + 1 := ⟨y.1 - 1, by omega⟩
        rw [hm] at h2 ⊢
        rw [List.take_succ_cons, balF, stepD_sub, if_neg (by omega)]
        simpa using h2

theorem delR_bal : ∀ (S D : List Tok) (long : Bool) (d : Int) (wh : Nat) (op : Bool) (x : Nat × Nat × Bool), 0 ≤ d → delR D long d wh op S = .ok x →
    balF d (S.take x.1) = true ∧ wh ≤ x.2.1 ∧ (x.2.1 = wh → x.2.2 = op ∧ (1 ≤ d → 1 ≤ x.1 ∧ balF (d - 1) (S.take (x.1 - 1)) = true) ∧ (d = 0 → x.1 = 0)) := by
  intro S D long
  induction S with
  | nil => intro d wh op x _ h; simp [delR] at h
  | cons t S ih =>
    intro d wh op x hd h
    have hb := stepD_bd d t
    rw [delR] at h
    split at h
    · rename_i h2
      cases h
      have : d = 0 := by omega
      subst this
      refine ⟨by simp [balF], Nat.le_refl _, fun _ => ⟨rfl, fun h => by omega, fun _ => rfl⟩⟩
    · rename_i h2
      split at h
      · cases h
      · rename_i h3
        have hs0 : 0 ≤ stepD d t := by
          by_cases hc : t.cat = 2
          · have : d ≠ 0 := fun h0 => h3 ⟨hc, h0⟩
            omega
          · have := hb.2.2 hc; omega
        split at h
        · cases h
        · revert h
          generalize hw : (if d = 0 then wh + 1 else wh) = wh2
          generalize ho : (if d = 0 then t.cat == 1 else op) = op2
          generalize hg : delR D long (stepD d t) wh2 op2 S = y
          intro h
          cases y with
          | error => cases h
          | ok y =>
            cases h
            obtain ⟨i1, i2, i3⟩ := ih _ _ _ _ hs0 hg
            refine ⟨?_, ?_, ?_⟩
            · simp only [List.take_succ_cons]
              rw [balF, if_neg (by omega)]
              exact i1
            · simp only; rw [← hw] at i2; split at i2 <;> omega
            · intro he
              simp only at he
              by_cases hz : d = 0
              · rw [if_pos hz] at hw; omega
              · rw [if_neg hz] at hw ho
                subst hw ho
                obtain ⟨j1, j2, j3⟩ := i3 he
                refine ⟨j1, fun _ => ⟨by simp, ?_⟩, fun h0 => absurd h0 hz⟩
                simp only [Nat.add_sub_cancel]
                by_cases hs1 : 1 ≤ stepD d t
                · obtain ⟨k1, k2⟩ := j2 hs1
                  obtain ⟨m, hm⟩ : ∃ m, y.1 = m + 1 := ⟨y.1 - 1, by omega⟩
                  rw [hm] at k2 ⊢
                  rw [List.take_succ_cons, balF, stepD_sub, if_neg (by omega)]
                  simpa using k2
                · have hs : stepD d t = 0 := by omega
                  have hd1 : d = 1 := by omega
                  rw [j3 hs, hd1]
                  simp [balF]

theorem bal_one {t : Tok} (h1 : t.cat ≠ 1) (h2 : t.cat ≠ 2) : bal [t] = true := by
  simp [bal, balF, stepD, h1, h2]

theorem argM_bal {long : Bool} {D S : List Tok} {x : List Tok × Nat} (h : argM long D S = .ok x) : bal x.1 = true := by
  unfold argM at h
  split at h
  · unfold plainM at h
    split at h
    · cases h
    · rename_i t r hd
      split at h
      · cases h
      · rename_i h2
        split at h
        · rename_i h1
          split at h
          · cases h
          · rename_i y hy
            split at h
            · cases h
            · cases h
              have hs : stepD 0 t = 1 := by simp [stepD, h1]
              rw [grp, if_neg (by rw [hs]; omega), hs] at hy
              cases hg : grp 1 (false || isPar t) r with
              | none => rw [hg] at hy; cases hy
              | some z =>
                rw [hg] at hy
                cases hy
                have := (grp_bal _ _ _ _ (by omega) hg).2
                simp only [show z.1 + 1 - 2 = z.1 - 1 by omega]
                simpa [bal] using this
        · rename_i h1
          split at h
          · cases h
          · cases h
            exact bal_one h1 h2
  · unfold delM at h
    cases hd : delR D long 0 0 false S with
    | error k => rw [hd] at h; cases h
    | ok y =>
      rw [hd] at h
      cases h
      obtain ⟨i1, i2, i3⟩ := delR_bal _ _ _ _ _ _ _ (by omega) hd
      have hle := delR_le _ _ _ _ _ _ hd
      simp only
      unfold strip
      split
      · rename_i hst
        obtain ⟨hw, ho, h2⟩ := hst
        have hlen : (S.take y.1).length = y.1 := by rw [List.length_take]; omega
        rw [hlen] at h2 ⊢
        cases S with
        | nil => simp [delR] at hd
        | cons t S =>
          rw [delR] at hd
          split at hd
          · cases hd; simp at hw
          · split at hd
            · cases hd
            · rename_i h3
              split at hd
              · cases hd
              · revert hd
                simp only [if_true]
                generalize hg : delR D long (stepD 0 t) (0 + 1) (t.cat == 1) S = z
                intro hd
                cases z with
                | error => cases hd
                | ok z =>
                  cases hd
                  simp only at hw ho h2 ⊢
                  have hc2 : t.cat ≠ 2 := fun h => h3 ⟨h, rfl⟩
                  have hs0 : 0 ≤ stepD 0 t := by have := (stepD_bd 0 t).2.2 hc2; omega
                  obtain ⟨k1, k2, k3⟩ := delR_bal _ _ _ _ _ _ _ hs0 hg
                  obtain ⟨j1, j2, -⟩ := k3 (by omega)
                  rw [ho] at j1
                  have hc1 : t.cat = 1 := by simpa using j1.symm
                  have hs : stepD 0 t = 1 := by simp [stepD, hc1]
                  rw [hs] at j2
                  obtain ⟨q1, q2⟩ := j2 (by omega)
                  rw [List.take_succ_cons, List.drop_succ_cons, List.drop_zero, List.take_take]
                  rw [show min (z.1 + 1 - 2) z.1 = z.1 - 1 by omega]
                  simpa [bal] using q2
      · exact i1

theorem argsM_bal {long : Bool} : ∀ (ds : List (List Tok)) (S : List Tok) (x : List (List Tok) × Nat), argsM long ds S = .ok x → ∀ a ∈ x.1, bal a = true := by
  intro ds
  induction ds with
  | nil => intro S x h; cases h; simp
  | cons D ds ih =>
    intro S x h
    rw [argsM] at h
    split at h
    · cases h
    · rename_i y hy
      cases hr : argsM long ds (S.drop y.2) with
      | error => rw [hr] at h; cases h
      | ok z =>
        rw [hr] at h
        cases h
        intro a ha
        rcases List.mem_cons.1 ha with rfl | ha
        · exact argM_bal hy
        · exact ih _ _ hr a ha

theorem matchM_bal {P B L : List Tok} {long : Bool} {x : List (List Tok) × Nat} (h : matchM P B long L = .ok x) : ∀ a ∈ x.1, bal a = true := by
  unfold matchM at h
  split at h
  · cases h
  · split at h
    · cases h
    · split at h
      · cases h
      · split at h
        · cases h
        · cases ha : argsM long (parts P).2 (L.drop (parts P).1.length) with
          | error => rw [ha] at h; cases h
          | ok y => rw [ha] at h; cases h; exact argsM_bal _ _ y ha

theorem balF_app : ∀ (a r : List Tok) (e d : Int), 0 ≤ e → 0 ≤ d → balF e a = true → balF (e + d) (a ++ r) = balF d r := by
  intro a r
  induction a with
  | nil =>
    intro e d _ _ h
    have : e = 0 := by simpa [balF] using h
    subst this
    simp
  | cons t a ih =>
    intro e d he hd h
    rw [balF] at h
    split at h
    · cases h
    · rename_i hs
      rw [List.cons_append, balF, stepD_add, if_neg (by omega)]
      exact ih _ _ (by omega) hd h

theorem subst_bal {A : List (List Tok)} (hA : ∀ a ∈ A, bal a = true) : ∀ (B : List Tok) (d : Int), 0 ≤ d → balF d (subst A B) = balF d B := by
  intro B
  induction B with
  | nil => intro d _; rfl
  | cons t B ih =>
    intro d hd
    rw [subst]
    by_cases h17 : t.cat = 17
    · rw [if_pos h17, balF_flat hd (by omega) (by omega)]
      have hb : bal (A.getD (t.chr.toNat - 1) []) = true := by
        rw [List.getD_eq_getElem?_getD]
        cases hg : A[t.chr.toNat - 1]? with
        | none => simp [bal, balF]
        | some a => exact hA a (List.mem_of_getElem? hg)
      have := balF_app (A.getD (t.chr.toNat - 1) []) (subst A B) 0 d (by omega) hd hb
      rw [Int.zero_add] at this
      rw [this, ih d hd]
    · rw [if_neg h17, List.singleton_append, balF, balF]
      split
      · rfl
      · exact ih _ (by omega)

theorem subst_append (A : List (List Tok)) (X Y : List Tok) : subst A (X ++ Y) = subst A X ++ subst A Y := by
  induction X with
  | nil => rfl
  | cons t X ih => rw [List.cons_append, subst, subst, ih, List.append_assoc]

theorem chkP_parts : ∀ (L : List Tok) (n m : Nat), chkP n L = some m → m = n + (parts L).2.length := by
  intro L
  induction L with
  | nil => intro n m h; simp [chkP] at h; simp [parts, h]
  | cons t L ih =>
    intro n m h
    rw [chkP] at h
    split at h
    · rename_i hp
      have h17 : t.cat = 17 := by
        simp only [placeB, Bool.and_eq_true, beq_iff_eq] at hp
        exact hp.1.1.1
      split at h
      · cases h
      · have := ih _ _ h
        rw [parts, if_pos h17, List.length_cons]; omega
    · split at h
      · cases h
      · rename_i hr
        have h17 : t.cat ≠ 17 := (right_no2 (by simpa using hr))
        split at h
        · cases h
        · split at h
          · cases h
          · have := ih _ _ h
            rw [parts, if_neg h17]; exact this

theorem argM_sub {long : Bool} {D S : List Tok} {x : List Tok × Nat} (h : argM long D S = .ok x) : ∀ t ∈ x.1, t ∈ S := by
  unfold argM at h
  split at h
  · unfold plainM at h
    split at h
    · cases h
    · rename_i u r hd
      have hsub : ∀ t ∈ u :: r, t ∈ S := fun t ht => List.mem_of_mem_drop (hd ▸ ht)
      split at h
      · cases h
      · split at h
        · split at h
          · cases h
          · split at h
            · cases h
            · cases h
              exact fun t ht => hsub t (List.mem_cons_of_mem _ (List.mem_of_mem_take ht))
        · split at h
          · cases h
          · cases h
            exact fun t ht => hsub t (by simp only [List.mem_singleton] at ht; simp [ht])
  · unfold delM at h
    cases hd : delR D long 0 0 false S with
    | error k => rw [hd] at h; cases h
    | ok y =>
      rw [hd] at h
      cases h
      intro t ht
      simp only [strip] at ht
      split at ht
      · exact List.mem_of_mem_take (List.mem_of_mem_drop (List.mem_of_mem_take ht))
      · exact List.mem_of_mem_take ht

theorem argsM_sub {long : Bool} : ∀ (ds : List (List Tok)) (S : List Tok) (x : List (List Tok) × Nat), argsM long ds S = .ok x → ∀ a ∈ x.1, ∀ t ∈ a, t ∈ S := by
  intro ds
  induction ds with
  | nil => intro S x h; cases h; simp
  | cons D ds ih =>
    intro S x h
    rw [argsM] at h
    split at h
    · cases h
    · rename_i y hy
      cases hr : argsM long ds (S.drop y.2) with
      | error => rw [hr] at h; cases h
      | ok z =>
        rw [hr] at h
        cases h
        intro a ha t ht
        rcases List.mem_cons.1 ha with rfl | ha
        · exact argM_sub hy t ht
        · exact List.mem_of_mem_drop (ih _ z hr a ha t ht)

theorem check_parts {P B : List Tok} (h : check P B = true) : count P = (parts P).2.length := by
  unfold check at h
  simp only [Bool.and_eq_true, decide_eq_true_eq] at h
  obtain ⟨⟨hP, hB⟩, h⟩ := h
  cases hk : chkP 0 P with
  | none => rw [hk] at h; cases h
  | some n =>
    have h1 : count P = n := chkP_count P 0 n 0 hk (by omega)
    have h2 := chkP_parts P 0 n hk
    omega

/-- what was matched can be applied, where there is room -/
theorem match_apply {P B L : List Tok} {long : Bool} {x : List (List Tok) × Nat} (h : matchM P B long L = .ok x) :
    applyM P B x.1 = if 20000 < sizeM x.1 B then .error 6 else .ok (subst x.1 B) := by
  unfold matchM at h
  split at h
  · cases h
  · rename_i hc
    have hc' : check P B = true := by simpa using hc
    split at h
    · cases h
    · split at h
      · cases h
      · rename_i hr
        have hr' : L.all rightB = true := by simpa using hr
        split at h
        · cases h
        · cases ha : argsM long (parts P).2 (L.drop (parts P).1.length) with
          | error => rw [ha] at h; cases h
          | ok y =>
            rw [ha] at h
            cases h
            have hlen : y.1.length = count P := by rw [check_parts hc']; exact (argsM_le long _ _ y ha).1
            by_cases hb : 20000 < sizeM y.1 B
            · simp only [if_pos hb]; exact apply_6 hc' hlen hb
            · simp only [if_neg hb]
              refine apply_ok hc' hlen hb ?_
              rw [List.all_eq_true]
              intro a ha2
              rw [List.all_eq_true]
              intro t ht
              exact (List.all_eq_true.1 hr') t (List.mem_of_mem_drop (argsM_sub _ _ y ha a ha2 t ht))

end Go.Proofs.Ytlbebcioabfbgaa
