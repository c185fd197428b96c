/-
  The arguments, their braces and their delimiters are what was passed. Conditions: none; no program in sight.
-/
import Derived.Test.YtlbebcioabfbgaaMacAC
namespace Go.Proofs.Ytlbebcioabfbgaa
open Go.RowKit Go.Sp

/-- no delimiters stand behind a balanced beginning -/
theorem delR_first : ∀ (S D : List Tok) (long : Bool) (d : Int) (wh : Nat) (op : Bool) (x : Nat × Nat × Bool), delR D long d wh op S = .ok x →
    ∀ i, i < x.1 → balF d (S.take i) = true → D.isPrefixOf (S.drop i) = false := by
  intro S D long
  induction S with
  | nil => intro d wh op x h; simp [delR] at h
  | cons t S ih =>
    intro d wh op x h i hi hb
    rw [delR] at h
    split at h
    · cases h; simp at hi
    · rename_i h2
      split at h
      · cases h
      · split at h
        · cases h
        · revert h
          generalize hg : delR D long (stepD d t) _ _ S = y
          intro h
          cases y with
          | error => cases h
          | ok y =>
            cases h
            cases i with
            | zero =>
              have hd : d = 0 := by simpa [balF] using hb
              cases hp : D.isPrefixOf ((t :: S).drop 0)
              · rfl
              · exact absurd ⟨by omega, hp⟩ h2
            | succ i =>
              rw [List.take_succ_cons, balF] at hb
              split at hb
              · cases hb
              · exact ih _ _ _ _ hg i (by simpa using hi) hb

/-- and there they stand -/
theorem delR_there : ∀ (S D : List Tok) (long : Bool) (d : Int) (wh : Nat) (op : Bool) (x : Nat × Nat × Bool), delR D long d wh op S = .ok x → D.isPrefixOf (S.drop x.1) = true := by
  intro S D long
  induction S with
  | nil => intro d wh op x h; simp [delR] at h
  | cons t S ih =>
    intro d wh op x h
    rw [delR] at h
    split at h
    · rename_i h2; cases h; exact h2.2
    · split at h
      · cases h
      · split at h
        · cases h
        · revert h
          generalize hg : delR D long (stepD d t) _ _ S = y
          intro h
          cases y with
          | error => cases h
          | ok y => cases h; exact ih _ _ _ _ hg

/-- a group ends with a brace that closes -/
theorem grp_close : ∀ (S : List Tok) (d : Int) (p : Bool) (x : Nat × Bool), 1 ≤ d → grp d p S = some x → ∃ u, S[x.1 - 1]? = some u ∧ u.cat = 2 := by
  intro S
  induction S with
  | nil => intro d p x _ h; simp [grp] at h
  | cons t S ih =>
    intro d p x hd h
    have hb := stepD_bd d t
    rw [grp] at h
    split at h
    · rename_i hz
      cases h
      refine ⟨t, rfl, ?_⟩
      by_cases hc : t.cat = 2
      · exact hc
      · have := hb.2.2 hc; omega
    · rename_i hz
      cases hg : grp (stepD d t) (p || isPar t) S with
      | none => rw [hg] at h; cases h
      | some y =>
        rw [hg] at h
        cases h
        have h1 := (grp_bal _ _ _ _ (by omega) hg).1
        obtain ⟨u, hu, hc⟩ := ih _ _ _ (by omega) hg
        refine ⟨u, ?_, hc⟩
        obtain ⟨m, hm⟩ : ∃ m, y.1 = m + 1 := ⟨y.1 - 1, by omega⟩
        simp only [hm, Nat.add_sub_cancel] at hu ⊢
        simpa using hu

theorem delR_close : ∀ (S D : List Tok) (long : Bool) (d : Int) (wh : Nat) (op : Bool) (x : Nat × Nat × Bool), 1 ≤ d → delR D long d wh op S = .ok x → x.2.1 = wh → ∃ u, S[x.1 - 1]? = some u ∧ u.cat = 2 := by
  intro S D long
  induction S with
  | nil => intro d wh op x _ h; simp [delR] at h
  | cons t S ih =>
    intro d wh op x hd h he
    have hb := stepD_bd d t
    rw [delR] at h
    split at h
    · rename_i h2; omega
    · split at h
      · cases h
      · split at h
        · cases h
        · revert h
          rw [if_neg (by omega), if_neg (by omega)]
          generalize hg : delR D long (stepD d t) wh op S = y
          intro h
          cases y with
          | error => cases h
          | ok y =>
            cases h
            simp only at he
            by_cases hs : 1 ≤ stepD d t
            · obtain ⟨u, hu, hc⟩ := ih _ _ _ _ hs hg he
              have h1 := ((delR_bal _ _ _ _ _ _ _ (by omega) hg).2.2 he).2.1 hs
              refine ⟨u, ?_, hc⟩
              obtain ⟨m, hm⟩ : ∃ m, y.1 = m + 1 := ⟨y.1 - 1, by omega⟩
              simp only [hm, Nat.add_sub_cancel] at hu ⊢
              simpa using hu
            · have h0 := ((delR_bal _ _ _ _ _ _ _ (by omega) hg).2.2 he).2.2 (by omega)
              refine ⟨t, by simp [h0], ?_⟩
              by_cases hc : t.cat = 2
              · exact hc
              · have := hb.2.2 hc; omega

/-- the delimiters stand behind no balanced beginning, ahead of the end -/
def NoShorter (S D : List Tok) : Prop := ∀ i, i + D.length < S.length → bal (S.take i) = true → D.isPrefixOf (S.drop i) = false

/-- in braces; plain -/
def brB (S X D : List Tok) : Bool := match S with
  | [] => false
  | t :: r => t.cat == 1 && X.isPrefixOf r && (match r.drop X.length with | [] => false | u :: s => u.cat == 2 && D.isPrefixOf s)
def plB (S X D : List Tok) : Bool := X.isPrefixOf S && D.isPrefixOf (S.drop X.length) && (decide (D ≠ []) || X.length == 1)

theorem prefix_of_take {D T : List Tok} {n : Nat} (h : D.isPrefixOf (T.take n) = true) : D.isPrefixOf T = true := by
  rw [List.isPrefixOf_iff_prefix] at h ⊢
  exact h.trans (List.take_prefix n T)

theorem noShorter_of {S D : List Tok} {n q : Nat} (hn : ∀ i, i < q → bal (S.take i) = true → D.isPrefixOf (S.drop i) = false) (hq : (S.take n).length ≤ q + D.length) : NoShorter (S.take n) D := by
  intro i hi hb
  cases hp : D.isPrefixOf ((S.take n).drop i) with
  | false => rfl
  | true =>
    have h1 : i < q := by omega
    rw [List.length_take] at hi
    rw [List.take_take, Nat.min_eq_left (by omega)] at hb
    rw [List.drop_take] at hp
    have h3 := prefix_of_take hp
    rw [hn i h1 hb] at h3
    cases h3

/-- nothing but the same opening brace is not balanced -/
theorem opens_bal {t : Tok} (h1 : t.cat = 1) : ∀ (k : Nat) (d : Int), 0 ≤ d → 1 ≤ k → balF d (List.replicate k t) = false := by
  intro k
  induction k with
  | zero => intro d _ h; omega
  | succ k ih =>
    intro d hd _
    rw [List.replicate_succ, balF]
    have hs : stepD d t = d + 1 := by simp [stepD, h1]
    rw [hs, if_neg (by omega)]
    rcases Nat.eq_zero_or_pos k with h0 | h0
    · subst h0; simp [balF]; omega
    · exact ih _ (by omega) h0

theorem all_same {t : Tok} : ∀ (k : Nat) (r : List Tok), (List.take k (t :: r)) <+: r → k ≤ r.length + 1 → List.take k (t :: r) = List.replicate k t := by
  intro k
  induction k with
  | zero => intro r _ _; rfl
  | succ k ih =>
    intro r h hk
    rw [List.take_succ_cons] at h ⊢
    cases r with
    | nil =>
      simp at h
    | cons u r =>
      have h0 := (List.cons_prefix_cons.1 h)
      obtain ⟨rfl, h2⟩ := h0
      rw [List.replicate_succ]
      have h3 := ih r (by
        have : List.take k (t :: r) <+: r := h2
        exact this) (by simpa using hk)
      rw [h3]

theorem plain_together {long : Bool} {S : List Tok} {x : List Tok × Nat} (h : plainM long S = .ok x) :
    spaces S ≤ S.length ∧
    ((brB (S.drop (spaces S)) x.1 [] = true ∧ ¬ (x.1.length = 0 ∧ plB (S.drop (spaces S)) x.1 [] = true) ∧ x.2 = spaces S + (2 + x.1.length)) ∨
     (brB (S.drop (spaces S)) x.1 [] = false ∧ plB (S.drop (spaces S)) x.1 [] = true ∧ x.2 = spaces S + x.1.length)) := by
  unfold plainM at h
  cases hd : S.drop (spaces S) with
  | nil => rw [hd] at h; cases h
  | cons t r =>
    have hsp : spaces S ≤ S.length := by
      have := congrArg List.length hd
      rw [List.length_drop, List.length_cons] at this
      omega
    refine ⟨hsp, ?_⟩
    rw [hd] at h
    simp only at h
    split at h
    · cases h
    · rename_i h2
      split at h
      · rename_i h1
        split at h
        · cases h
        · rename_i y hy
          split at h
          · cases h
          · cases h
            left
            have hs : stepD 0 t = 1 := by simp [stepD, h1]
            rw [grp, if_neg (by rw [hs]; omega), hs] at hy
            cases hg : grp 1 (false || isPar t) r with
            | none => rw [hg] at hy; cases hy
            | some z =>
              rw [hg] at hy
              cases hy
              have hz := (grp_bal _ _ _ _ (by omega) hg).1
              obtain ⟨u, hu, hc⟩ := grp_close _ _ _ _ (by omega) hg
              have hle := grp_le _ _ _ _ hg
              simp only [show z.1 + 1 - 2 = z.1 - 1 by omega]
              have hlen : (r.take (z.1 - 1)).length = z.1 - 1 := by rw [List.length_take]; omega
              have hul : z.1 - 1 < r.length := (List.getElem?_eq_some_iff.1 hu).1
              have hdr : r.drop (z.1 - 1) = u :: r.drop (z.1 - 1 + 1) := by
                rw [List.drop_eq_getElem_cons hul]
                congr 1
                rw [List.getElem?_eq_getElem hul] at hu
                exact Option.some.inj hu
              refine ⟨?_, ?_, by rw [hlen]; omega⟩
              · simp only [brB, hlen, hdr, h1, hc]
                simp [List.isPrefixOf_iff_prefix, List.take_prefix]
              · rintro ⟨h0, hp⟩
                simp only [plB, Bool.and_eq_true, Bool.or_eq_true, decide_eq_true_eq, beq_iff_eq] at hp
                rcases hp.2 with h | h
                · exact h rfl
                · omega
      · rename_i h1
        split at h
        · cases h
        · cases h
          right
          refine ⟨by simp [brB, h1], by simp [plB], rfl⟩

theorem del_together {long : Bool} {D S : List Tok} {x : List Tok × Nat} (hD : D ≠ []) (h : delM D long S = .ok x) :
    (brB S x.1 D = true ∧ ¬ (x.1.length = 0 ∧ plB S x.1 D = true) ∧ x.2 = 2 + x.1.length + D.length ∧ NoShorter (S.take (2 + x.1.length)) D) ∨
    (¬ (brB S x.1 D = true ∧ ¬ (x.1.length = 0 ∧ plB S x.1 D = true)) ∧ plB S x.1 D = true ∧ x.2 = x.1.length + D.length ∧ NoShorter (S.take (x.1.length + D.length)) D) := by
  have hbal := argM_bal (long := long) (D := D) (S := S) (x := x) (by rw [argM, if_neg hD]; exact h)
  unfold delM at h
  cases hd : delR D long 0 0 false S with
  | error k => rw [hd] at h; cases h
  | ok y =>
    rw [hd] at h
    cases h
    have hfirst := delR_first _ _ _ _ _ _ _ hd
    have hthere := delR_there _ _ _ _ _ _ _ hd
    have hle := delR_le _ _ _ _ _ _ hd
    have hlen : (S.take y.1).length = y.1 := by rw [List.length_take]; omega
    simp only at hbal ⊢
    unfold strip at hbal ⊢
    split
    · rename_i hst
      obtain ⟨hw, ho, h2⟩ := hst
      rw [hlen] at h2
      left
      cases S with
      | nil => simp [delR] at hd
      | cons t S =>
        have hd0 := hd
        rw [delR] at hd
        split at hd
        · cases hd; simp at hw
        · split at hd
          · cases hd
          · rename_i h3
            split at hd
            · cases hd
            · revert hd
              simp only [if_true]
              generalize hg : delR D long (stepD 0 t) (0 + 1) (t.cat == 1) S = z
              intro hd
              cases z with
              | error => cases hd
              | ok z =>
                cases hd
                simp only at hw ho h2 hfirst hthere hle hlen ⊢
                have hc2 : t.cat ≠ 2 := fun h => h3 ⟨h, rfl⟩
                have hs0 : 0 ≤ stepD 0 t := by have := (stepD_bd 0 t).2.2 hc2; omega
                obtain ⟨k1, k2, k3⟩ := delR_bal _ _ _ _ _ _ _ hs0 hg
                obtain ⟨j1, j2, -⟩ := k3 (by omega)
                rw [ho] at j1
                have hc1 : t.cat = 1 := by simpa using j1.symm
                have hs : stepD 0 t = 1 := by simp [stepD, hc1]
                rw [hs] at j2 hg
                obtain ⟨q1, q2⟩ := j2 (by omega)
                obtain ⟨u, hu, hc⟩ := delR_close _ _ _ _ _ _ _ (by omega) hg (by omega)
                simp only [List.length_cons] at hle
                have hX : (((t :: S).take (z.1 + 1)).drop 1).take (((t :: S).take (z.1 + 1)).length - 2) = S.take (z.1 - 1) := by
                  rw [hlen, List.take_succ_cons, List.drop_succ_cons, List.drop_zero, List.take_take]
                  congr 1; omega
                rw [hX]
                have hXl : (S.take (z.1 - 1)).length = z.1 - 1 := by rw [List.length_take]; omega
                have hul : z.1 - 1 < S.length := (List.getElem?_eq_some_iff.1 hu).1
                have hdr : S.drop (z.1 - 1) = u :: S.drop z.1 := by
                  rw [List.drop_eq_getElem_cons hul]
                  congr 1
                  · rw [List.getElem?_eq_getElem hul] at hu
                    exact Option.some.inj hu
                  · congr 1; omega
                rw [List.drop_succ_cons] at hthere
                refine ⟨?_, ?_, by rw [hXl]; omega, ?_⟩
                · simp only [brB, hXl, hdr, hc1, hc, hthere]
                  simp [List.isPrefixOf_iff_prefix, List.take_prefix]
                · rintro ⟨h0, hp⟩
                  simp only [plB, Bool.and_eq_true] at hp
                  rw [h0, List.drop_zero] at hp
                  have := hfirst 0 (by omega) (by simp [balF])
                  rw [List.drop_zero] at this
                  rw [this] at hp
                  exact absurd hp.1.2 (by simp)
                · refine noShorter_of (q := z.1 + 1) (fun i hi hb => hfirst i hi hb) ?_
                  rw [List.length_take]; omega
    · rename_i hst
      rw [if_neg hst] at hbal
      right
      rw [hlen]
      have hpl : plB S (S.take y.1) D = true := by
        simp only [plB, hlen, hthere]
        simp [List.isPrefixOf_iff_prefix, List.take_prefix, hD]
      refine ⟨?_, hpl, rfl, ?_⟩
      · rintro ⟨hb, hn⟩
        rcases Nat.eq_zero_or_pos y.1 with h0 | h0
        · exact hn ⟨h0, hpl⟩
        · cases S with
          | nil => simp at hle; omega
          | cons t r =>
            simp only [brB, Bool.and_eq_true, beq_iff_eq, List.isPrefixOf_iff_prefix] at hb
            have hr := all_same y.1 r hb.1.2 (by simp only [List.length_cons] at hle; omega)
            rw [hr] at hbal
            rw [bal, opens_bal hb.1.1 y.1 0 (by omega) h0] at hbal
            cases hbal
      · refine noShorter_of (q := y.1) (fun i hi hb => hfirst i hi hb) ?_
        rw [List.length_take]; omega

end Go.Proofs.Ytlbebcioabfbgaa
