/-
  What Define makes is right. Conditions: none; no program in sight.
-/
import Derived.Test.YtlbebcioabfbgaaMacU
namespace Go.Proofs.Ytlbebcioabfbgaa
open Go.RowKit Go.Sp

theorem right_no {t : Tok} (h : rightB t = true) : placeB t = false ∧ t.cat ≠ 17 := by
  have h17 : t.cat ≠ 17 := by rintro h2; simp [rightB, h2] at h
  exact ⟨by simp [placeB, h17], h17⟩

theorem placeT_is {n : Nat} (h1 : 1 ≤ n) (h9 : n ≤ 9) : placeB (placeT n) = true ∧ ((placeT n).chr.toNat : Int) = n := by
  have h := placeT_chr h9
  refine ⟨?_, h⟩
  simp only [placeB, placeT] at h ⊢
  simp
  omega

def plainT1 (t : Tok) : Bool := rightB t && !isBrace t

theorem chkP_def : ∀ (k : Nat) (P : List Tok) (n : Nat) (x : List Tok × Nat × Bool), P.length ≤ k → P.all plainT1 = true → defP n P = some x →
    chkP n x.1 = some x.2.1 ∧ x.1.length ≤ P.length ∧ (x.2.2 = true → x.1.getLast? = some brace) ∧ (x.2.2 = false → ∀ t ∈ x.1, t.cat ≠ 1) := by
  intro k
  induction k with
  | zero =>
    intro P n x hk _ h
    have : P = [] := List.eq_nil_of_length_eq_zero (by omega)
    subst this
    cases h
    simp [chkP]
  | succ k ih =>
    intro P n x hk hall h
    match P, hk, hall, h with
    | [], _, _, h => cases h; simp [chkP]
    | [t], _, hall, h =>
      simp only [List.all_cons, List.all_nil, Bool.and_true, plainT1, Bool.and_eq_true, Bool.not_eq_true'] at hall
      obtain ⟨hr, hb⟩ := hall
      obtain ⟨hp, -⟩ := right_no hr
      simp only [isBrace, Bool.or_eq_false_iff, beq_eq_false_iff_ne] at hb
      rw [defP] at h
      split at h
      · cases h
        refine ⟨?_, by simp, by simp, by simp⟩
        simp [chkP, brace, placeB, rightB]
      · cases h
        refine ⟨?_, by simp, by simp, ?_⟩
        · simp [chkP, hp, hr, hb.2]
        · intro _ u hu
          simp only [List.mem_singleton] at hu
          subst hu; exact hb.1
    | t :: d :: r, hk, hall, h =>
      simp only [List.length_cons] at hk
      have hall2 : (d :: r).all plainT1 = true := by rw [List.all_cons] at hall; exact (Bool.and_eq_true _ _ ▸ hall).2
      have hall3 : r.all plainT1 = true := by rw [List.all_cons] at hall2; exact (Bool.and_eq_true _ _ ▸ hall2).2
      have ht : plainT1 t = true := by rw [List.all_cons] at hall; exact (Bool.and_eq_true _ _ ▸ hall).1
      simp only [plainT1, Bool.and_eq_true, Bool.not_eq_true'] at ht
      obtain ⟨hr, hb⟩ := ht
      obtain ⟨hp, -⟩ := right_no hr
      simp only [isBrace, Bool.or_eq_false_iff, beq_eq_false_iff_ne] at hb
      rw [defP] at h
      split at h
      · split at h
        · rename_i hd
          have hd9 := digitT_le d
          obtain ⟨q1, q2⟩ := placeT_is (n := n + 1) (by omega) (by omega)
          cases hx : defP (n + 1) r with
          | none => rw [hx] at h; cases h
          | some y =>
            rw [hx] at h
            cases h
            obtain ⟨i1, i2, i3, i4⟩ := ih r (n + 1) y (by omega) hall3 hx
            refine ⟨?_, by simp; omega, ?_, ?_⟩
            · simp only [chkP, q1, q2]
              simp [i1]
            · intro ho
              have := i3 ho
              rw [List.getLast?_cons, this]; rfl
            · intro ho u hu
              rcases List.mem_cons.1 hu with rfl | hu
              · simp [placeT]
              · exact i4 ho u hu
        · cases h
      · cases hx : defP n (d :: r) with
        | none => rw [hx] at h; cases h
        | some y =>
          rw [hx] at h
          cases h
          obtain ⟨i1, i2, i3, i4⟩ := ih (d :: r) n y (by simp; omega) hall2 hx
          refine ⟨?_, by simpa using i2, ?_, ?_⟩
          · simp [chkP, hp, hr, hb.1, hb.2, i1]
          · intro ho
            have := i3 ho
            rw [List.getLast?_cons, this]; rfl
          · intro ho u hu
            rcases List.mem_cons.1 hu with rfl | hu
            · exact hb.1
            · exact i4 ho u hu

theorem step_flat {d : Int} {t : Tok} (h1 : t.cat ≠ 1) (h2 : t.cat ≠ 2) : stepD d t = d := by simp [stepD, h1, h2]
theorem balF_flat {d : Int} (hd : 0 ≤ d) {t : Tok} {r : List Tok} (h1 : t.cat ≠ 1) (h2 : t.cat ≠ 2) : balF d (t :: r) = balF d r := by
  rw [balF, step_flat h1 h2, if_neg (by omega)]

theorem digit_cat {t : Tok} (h : 1 ≤ digitT t) : t.cat = 12 := by
  unfold digitT at h
  split at h
  · rename_i h2; exact h2.1
  · omega

theorem defB_def : ∀ (k : Nat) (B : List Tok) (n : Nat) (x : List Tok), B.length ≤ k → n ≤ 9 → B.all rightB = true → defB n B = some x →
    x.all (bodyB n) = true ∧ (∀ d, 0 ≤ d → balF d x = balF d B) := by
  intro k
  induction k with
  | zero =>
    intro B n x hk _ _ h
    have : B = [] := List.eq_nil_of_length_eq_zero (by omega)
    subst this
    cases h
    simp
  | succ k ih =>
    intro B n x hk hn9 hall h
    match B, hk, hall, h with
    | [], _, _, h => cases h; simp
    | [t], _, hall, h =>
      simp only [List.all_cons, List.all_nil, Bool.and_true] at hall
      rw [defB] at h
      split at h
      · cases h
      · cases h
        exact ⟨by simp [bodyB, hall], fun _ _ => rfl⟩
    | t :: d :: r, hk, hall, h =>
      simp only [List.length_cons] at hk
      simp only [List.all_cons, Bool.and_eq_true] at hall
      obtain ⟨ht, hd, hr⟩ := hall
      rw [defB] at h
      split at h
      · rename_i h6
        split at h
        · rename_i h6d
          cases hx : defB n r with
          | none => rw [hx] at h; cases h
          | some y =>
            rw [hx] at h
            cases h
            obtain ⟨i1, i2⟩ := ih r n y (by omega) hn9 hr hx
            refine ⟨by simp [bodyB, hd, i1], fun e he => ?_⟩
            rw [balF_flat he (by omega) (by omega), i2 e he, balF_flat he (by omega) (by omega), balF_flat he (by omega) (by omega)]
        · split at h
          · rename_i hg
            have hc := digit_cat hg.1
            have hg9 := digitT_le d
            obtain ⟨q1, q2⟩ := placeT_is hg.1 hg9
            cases hx : defB n r with
            | none => rw [hx] at h; cases h
            | some y =>
              rw [hx] at h
              cases h
              obtain ⟨i1, i2⟩ := ih r n y (by omega) hn9 hr hx
              refine ⟨?_, fun e he => ?_⟩
              · simp only [List.all_cons, i1, Bool.and_true, bodyB, q1, q2, Bool.true_and, Bool.or_eq_true, decide_eq_true_eq]
                right; omega
              · rw [balF_flat he (by simp [placeT]) (by simp [placeT]), i2 e he, balF_flat he (by omega) (by omega), balF_flat he (by omega) (by omega)]
          · cases h
      · cases hx : defB n (d :: r) with
        | none => rw [hx] at h; cases h
        | some y =>
          rw [hx] at h
          cases h
          obtain ⟨i1, i2⟩ := ih (d :: r) n y (by simp; omega) hn9 (by simp [hd, hr]) hx
          refine ⟨by simp [bodyB, ht, i1], fun e he => ?_⟩
          rw [balF, balF]
          split
          · rfl
          · exact i2 _ (by omega)

theorem chkP_le9 : ∀ (L : List Tok) (n m : Nat), n ≤ 9 → chkP n L = some m → m ≤ 9 := by
  intro L
  induction L with
  | nil => intro n m hn h; simp [chkP] at h; omega
  | cons t L ih =>
    intro n m hn h
    rw [chkP] at h
    split at h
    · rename_i hp
      split at h
      · cases h
      · rename_i hc
        have hp9 : (t.chr.toNat : Int) ≤ 9 := by
          simp only [placeB, Bool.and_eq_true, decide_eq_true_eq] at hp
          exact hp.1.2
        have hc' : (t.chr.toNat : Int) = n + 1 := by simpa using hc
        exact ih _ _ (by omega) h
    · split at h
      · cases h
      · split at h
        · cases h
        · split at h
          · cases h
          · exact ih _ _ hn h

/-- what stands behind Define's answer -/
theorem define_cases (P B : List Tok) (long : Bool) :
    (∃ k, k ≠ 0 ∧ define P B long = .no k) ∨
    ∃ x B', P.length ≤ 20000 ∧ B.length ≤ 20000 ∧ P.all rightB = true ∧ B.all rightB = true ∧ P.any isBrace = false ∧ bal B = true ∧ defP 0 P = some x ∧ defB x.2.1 B = some B' ∧ (bodyO x.2.2 B').length ≤ 20000 ∧
      define P B long = ⟨x.1, bodyO x.2.2 B', long, 0⟩ := by
  by_cases h1 : P.length ≤ 20000 ∧ B.length ≤ 20000
  · cases h2 : (P.all rightB && B.all rightB)
    · exact .inl ⟨160, by omega, define_160 h1 h2⟩
    · cases h3 : P.any isBrace
      · cases h4 : bal B
        · exact .inl ⟨173, by omega, define_173 h1 h2 (.inr h4)⟩
        · have hd := define_rest (long := long) h1 h2 h3 h4
          cases h5 : defP 0 P with
          | none => rw [h5] at hd; exact .inl ⟨170, by omega, hd⟩
          | some x =>
            rw [h5] at hd
            simp only at hd
            cases h6 : defB x.2.1 B with
            | none => rw [h6] at hd; exact .inl ⟨170, by omega, hd⟩
            | some B' =>
              rw [h6] at hd
              simp only at hd
              by_cases h7 : 20000 < (bodyO x.2.2 B').length
              · rw [if_pos h7] at hd; exact .inl ⟨6, by omega, hd⟩
              · rw [if_neg h7] at hd
                simp only [Bool.and_eq_true] at h2
                exact .inr ⟨x, B', h1.1, h1.2, h2.1, h2.2, rfl, rfl, rfl, h6, by omega, hd⟩
      · exact .inl ⟨173, by omega, define_173 h1 h2 (.inl h3)⟩
  · exact .inl ⟨6, by omega, define_6 h1⟩

theorem define_err {P B : List Tok} {long : Bool} (h : (define P B long).e ≠ 0) : (define P B long).P = [] ∧ (define P B long).B = [] ∧ (define P B long).long = false := by
  rcases define_cases P B long with ⟨k, _, hk⟩ | ⟨x, B', _, _, _, _, _, _, _, _, _, hd⟩
  · rw [hk]; exact ⟨rfl, rfl, rfl⟩
  · rw [hd] at h; exact absurd rfl h

theorem plain_all {P : List Tok} (h1 : P.all rightB = true) (h2 : P.any isBrace = false) : P.all plainT1 = true := by
  rw [List.all_eq_true] at h1 ⊢
  rw [List.any_eq_false] at h2
  intro t ht
  simp only [plainT1, h1 t ht, Bool.true_and, Bool.not_eq_true']
  have := h2 t ht
  simpa using this

theorem define_check {P B : List Tok} {long : Bool} (h : (define P B long).e = 0) : check (define P B long).P (define P B long).B = true ∧ (define P B long).long = long ∧ (define P B long).P.length ≤ 20000 ∧ (define P B long).B.length ≤ 20000 := by
  rcases define_cases P B long with ⟨k, hk0, hk⟩ | ⟨x, B', q1, q2, q3, q4, q5, q6, q7, q8, q9, hd⟩
  · rw [hk] at h; exact absurd h hk0
  · rw [hd]
    obtain ⟨c1, c2, c3, c4⟩ := chkP_def P.length P 0 x (Nat.le_refl _) (plain_all q3 q5) q7
    have hm9 := chkP_le9 _ _ _ (by omega) c1
    obtain ⟨b1, b2⟩ := defB_def B.length B x.2.1 B' (Nat.le_refl _) hm9 q4 q8
    have hbl : bal B' = true := by rw [bal, b2 0 (by omega)]; exact q6
    refine ⟨?_, rfl, by simp only; omega, q9⟩
    simp only [check, c1]
    have e1 : decide (x.1.length ≤ 20000) = true := by simp; omega
    have e2 : decide ((bodyO x.2.2 B').length ≤ 20000) = true := by simp; omega
    rw [e1, e2]
    simp only [Bool.true_and, Bool.and_eq_true]
    cases ho : x.2.2
    · refine ⟨by simpa [bodyO] using b1, ?_⟩
      unfold tailB
      cases hl : x.1.getLast? with
      | none => simpa [bodyO] using hbl
      | some t =>
        have ht := c4 ho t (List.mem_of_getLast? hl)
        simp only [ht, if_false]
        simpa [bodyO] using hbl
    · refine ⟨by simp [bodyO, b1, bodyB, brace, rightB], ?_⟩
      unfold tailB
      rw [c3 ho]
      simp [bodyO, brace, hbl]

theorem defP_plainall : ∀ (P : List Tok) (n : Nat), (∀ t ∈ P, t.cat ≠ 6) → defP n P = some (P, n, false) := by
  intro P
  induction P with
  | nil => intro n _; rfl
  | cons t P ih =>
    intro n h
    have ht := h t (by simp)
    cases P with
    | nil => simp [defP, ht]
    | cons d r => rw [defP, if_neg ht, ih n (fun u hu => h u (List.mem_cons_of_mem _ hu))]; rfl

theorem defB_plainall : ∀ (B : List Tok) (n : Nat), (∀ t ∈ B, t.cat ≠ 6) → defB n B = some B := by
  intro B
  induction B with
  | nil => intro n _; rfl
  | cons t B ih =>
    intro n h
    have ht := h t (by simp)
    cases B with
    | nil => simp [defB, ht]
    | cons d r => rw [defB, if_neg ht, ih n (fun u hu => h u (List.mem_cons_of_mem _ hu))]; rfl

theorem countP_zero : ∀ (L : List Tok) (i n : Nat), L.all rightB = true → countP i n L = n := by
  intro L
  induction L with
  | nil => intro i n _; rfl
  | cons t L ih =>
    intro i n h
    simp only [List.all_cons, Bool.and_eq_true] at h
    rw [countP, if_neg (by rintro ⟨_, _, hp⟩; rw [(right_no h.1).1] at hp; cases hp)]
    exact ih _ _ h.2

theorem sizeM_plain : ∀ (B : List Tok), B.all rightB = true → sizeM [] B = B.length := by
  intro B
  induction B with
  | nil => intro _; rfl
  | cons t B ih =>
    intro h
    simp only [List.all_cons, Bool.and_eq_true] at h
    rw [sizeM, if_neg (right_no h.1).2, ih h.2, List.length_cons]; omega
theorem subst_plain : ∀ (B : List Tok), B.all rightB = true → subst [] B = B := by
  intro B
  induction B with
  | nil => intro _; rfl
  | cons t B ih =>
    intro h
    simp only [List.all_cons, Bool.and_eq_true] at h
    rw [subst, if_neg (right_no h.1).2, ih h.2]; rfl

theorem define_plain {P B : List Tok} {long : Bool} (h : (define P B long).e = 0) (hP : ∀ t ∈ P, t.cat ≠ 6) (hB : ∀ t ∈ B, t.cat ≠ 6) :
    define P B long = ⟨P, B, long, 0⟩ ∧ count P = 0 ∧ applyM P B [] = .ok B := by
  have hc := define_check h
  rcases define_cases P B long with ⟨k, hk0, hk⟩ | ⟨x, B', q1, q2, q3, q4, q5, q6, q7, q8, q9, hd⟩
  · rw [hk] at h; exact absurd h hk0
  · rw [defP_plainall P 0 hP] at q7
    simp only [Option.some.injEq] at q7
    subst q7
    rw [defB_plainall B _ hB] at q8
    simp only [Option.some.injEq] at q8
    subst q8
    have e : define P B long = ⟨P, B, long, 0⟩ := by rw [hd]; rfl
    have hct : count P = 0 := countP_zero P 0 0 q3
    refine ⟨e, hct, ?_⟩
    rw [e] at hc
    have hs := sizeM_plain B q4
    rw [apply_ok hc.1 (by rw [hct]; rfl) (by rw [hs]; omega) rfl, subst_plain B q4]

end Go.Proofs.Ytlbebcioabfbgaa
