
/-
  The plain laws of blanks and of letters. Conditions: none; no program in sight.
-/
import Derived.Test.YtpcdbeicpmjooaaDoorCodM
namespace Go.Proofs.YtpcdbeicpmjooaaDoor
open Go.RowKit Go.Sp

/-- no blank is to come next -/
def NoB (R : Rs) : Prop := R.state ≠ 1 ∨ R.left = []

theorem made_nil (C : List Int) : made C [] = [] := rfl

theorem beginM_true {endl : Int} {R Rq : Rs} (h : beginM endl R = (true, Rq)) : Rq.state = 0 := by
  rw [beginM] at h
  split at h
  · cases h
  · simp only [Prod.mk.injEq, true_and] at h; subst h; rfl

theorem nextF_noB (C : List Int) (endl : Int) : ∀ (n : Nat) (R : Rs), NoB R → (nextF C endl n R).1.cat ≠ 10 := by
  intro n
  induction n with
  | zero => intro R _; simp [nextF, tok0]
  | succ n ih =>
    intro R hR
    rw [nextF]
    cases h : made C R.left with
    | nil =>
      simp only
      obtain ⟨q, hq⟩ : ∃ q, beginM endl { R with left := [] } = q := ⟨_, rfl⟩
      rw [hq]
      obtain ⟨b, Rq⟩ := q
      cases b
      · simp [tok0]
      · simp only [if_true]
        exact ih _ (.inl (by rw [beginM_true hq]; decide))
    | cons c r =>
      have hs : R.state ≠ 1 := by
        rcases hR with h1 | h1
        · exact h1
        · rw [h1, made_nil] at h; cases h
      simp only
      split
      · simp [nameT]
      · split
        · split
          · simp [nameT]
          · (try rw [if_neg hs])
            exact ih _ (.inr rfl)
        · split
          · exact ih _ (.inl hs)
          · split
            · exact ih _ (.inr rfl)
            · split
              · (try rw [if_neg hs])
                exact ih _ (.inl hs)
              · split
                · simp [tok0]
                · rename_i h1 h2 h3 h4 h5 h6
                  exact h5

theorem nextF_blank (C : List Int) (endl : Int) : ∀ (n : Nat) (R : Rs), (nextF C endl n R).1.cat = 10 → NoB (nextF C endl n R).2.2 := by
  intro n
  induction n with
  | zero => intro R h; simp [nextF, tok0] at h
  | succ n ih =>
    intro R
    rw [nextF]
    cases h : made C R.left with
    | nil =>
      simp only
      split
      · exact ih _
      · simp [tok0]
    | cons c r =>
      simp only
      split
      · simp [nameT]
      · split
        · split
          · simp [nameT]
          · split
            · intro _; exact .inr rfl
            · exact ih _
        · split
          · exact ih _
          · split
            · exact ih _
            · split
              · split
                · intro _; exact .inl (show (2 : Nat) ≠ 1 by decide)
                · exact ih _
              · split
                · simp [tok0]
                · rename_i h1 h2 h3 h4 h5 h6
                  intro h7
                  exact absurd h7 h5

theorem nextM_noB (C : List Int) (endl : Int) (R : Rs) (h : NoB R) : (nextM C endl R).1.cat ≠ 10 := by
  unfold nextM
  split
  · simp [tok0]
  · split
    · simp [tok0]
    · exact nextF_noB C endl _ R h
theorem nextM_blank (C : List Int) (endl : Int) (R : Rs) (h : (nextM C endl R).1.cat = 10) : NoB (nextM C endl R).2.2 := by
  unfold nextM at h ⊢
  split
  · rename_i h1; rw [if_pos h1] at h; simp [tok0] at h
  · rename_i h1
    rw [if_neg h1] at h
    split
    · rename_i h2; rw [if_pos h2] at h; simp [tok0] at h
    · rename_i h2
      rw [if_neg h2] at h
      exact nextF_blank C endl _ R h

/-- no two blanks side by side -/
def NoBB (L : List Tok) : Prop := ∀ i, (h : i + 1 < L.length) → ¬ (L[i + 1].cat = 10 ∧ L[i].cat = 10)

theorem allF_noBB (C : List Int) (endl : Int) : ∀ (n : Nat) (R : Rs) (acc : List Tok), NoBB acc → ((∃ h : acc ≠ [], (acc.getLast h).cat = 10) → NoB R) → NoBB (allF C endl n R acc).1 := by
  intro n
  induction n with
  | zero => intro R acc _ _ i h; simp [allF] at h
  | succ n ih =>
    intro R acc h1 h2
    rw [allF]
    split
    · exact h1
    · split
      · intro i h; simp at h
      · split
        · intro i h; simp at h
        · refine ih _ _ ?_ ?_
          · intro i hi
            simp only [List.length_append, List.length_singleton] at hi
            rcases Nat.lt_or_ge (i + 1) acc.length with h3 | h3
            · rw [List.getElem_append_left h3, List.getElem_append_left (by omega)]
              exact h1 i h3
            · have h4 : i + 1 = acc.length := by omega
              rintro ⟨h5, h6⟩
              rw [List.getElem_append_right (by omega)] at h5
              rw [List.getElem_append_left (by omega)] at h6
              simp only [h4, Nat.sub_self, List.getElem_cons_zero] at h5
              refine nextM_noB C endl R (h2 ⟨by intro e; rw [e] at h4; simp at h4, ?_⟩) h5
              rw [List.getLast_eq_getElem]
              have : acc.length - 1 = i := by omega
              simp only [this]
              exact h6
          · rintro ⟨h3, h4⟩
            simp only [List.getLast_append, List.getLast_singleton] at h4
            exact nextM_blank C endl R h4

theorem allM_noBB (C : List Int) (endl : Int) (text : List UInt8) : NoBB (allM C endl text).1 := by
  unfold allM
  split
  · intro i h; simp at h
  · exact allF_noBB C endl _ _ _ (fun i h => by simp at h) (fun h => absurd rfl h.1)

theorem allF_err (C : List Int) (endl : Int) : ∀ (n : Nat) (R : Rs) (acc : List Tok), (allF C endl n R acc).2 ≠ 0 → (allF C endl n R acc).1 = [] := by
  intro n
  induction n with
  | zero => intro R acc _; rfl
  | succ n ih =>
    intro R acc
    rw [allF]
    split
    · intro h; exact absurd rfl h
    · split
      · intro _; rfl
      · split
        · intro _; rfl
        · exact ih _ _
theorem allM_err (C : List Int) (endl : Int) (text : List UInt8) (h : (allM C endl text).2 ≠ 0) : (allM C endl text).1 = [] := by
  unfold allM at h ⊢
  split
  · rfl
  · rename_i h1; rw [if_neg h1] at h; exact allF_err C endl _ _ _ h

/-! ### Letters and Others -/
def plainC (C : List Int) (c : UInt8) : Prop := (codeAt C c = 11 ∨ codeAt C c = 12) ∧ c ≠ 10 ∧ c ≠ 32

theorem cutAt_none (c : UInt8) (l : List UInt8) (h : c ∉ l) : cutAt c l = (l, [], false) := by
  induction l with
  | nil => rfl
  | cons b l ih =>
    have hb : b ≠ c := by rintro rfl; exact h (by simp)
    rw [cutAt, if_neg hb, ih (by intro hm; exact h (by simp [hm]))]

theorem trim_none (l : List UInt8) (h : (32 : UInt8) ∉ l) : Lib.trimRightB l 32 = l := by
  unfold Lib.trimRightB
  have : l.reverse.dropWhile (· == 32) = l.reverse := by
    cases hr : l.reverse with
    | nil => rfl
    | cons b r =>
      have hb : b ≠ 32 := by
        rintro rfl
        exact h (by rw [← List.mem_reverse, hr]; simp)
      rw [List.dropWhile_cons_of_neg (by simpa using hb)]
  rw [this, List.reverse_reverse]

theorem next_plain {C : List Int} {endl : Int} {R : Rs} {c : UInt8} {r : List UInt8} (hg : goodC C = true) (hl : R.left = c :: r) (hc : codeAt C c = 11 ∨ codeAt C c = 12) (he : R.ended = false) :
    nextM C endl R = (charT (codeAt C c) c, 0, { R with left := r, state := 1 }) := by
  have h7 : codeAt C c ≠ 7 := by omega
  rw [nextM, if_neg (by rw [hg]; simp), if_neg (by rw [he]; simp), nextF, hl, made_none C (step1_code C h7)]
  simp only
  rw [if_neg (by omega), if_neg (by omega), if_neg (by omega), if_neg (by omega), if_neg (by omega), if_neg (by omega)]

theorem next_over {C : List Int} {endl : Int} {R : Rs} (hg : goodC C = true) (hl : R.left = []) (ht : R.text = []) : (nextM C endl R).2.1 = 3 := by
  rw [nextM, if_neg (by rw [hg]; simp)]
  split
  · rfl
  · rw [nextF, hl, made_nil]
    simp only
    have hb := beginM_no (endl := endl) (R := { R with left := [] }) (.inr (.inr ht))
    rw [hb]
    rfl

def lettersT (C : List Int) (l : List UInt8) : List Tok := l.map fun c => charT (codeAt C c) c

theorem all_plain {C : List Int} {endl : Int} (hg : goodC C = true) : ∀ (l : List UInt8) (n : Nat) (R : Rs) (acc : List Tok), R.left = l → R.text = [] → R.ended = false → (∀ c ∈ l, plainC C c) → acc.length + l.length ≤ 20000 → l.length < n →
    allF C endl n R acc = (acc ++ lettersT C l, 0) := by
  intro l
  induction l with
  | nil =>
    intro n R acc hl ht he _ _ hn
    obtain ⟨n, rfl⟩ : ∃ m, n = m + 1 := ⟨n - 1, by omega⟩
    rw [allF, if_pos (next_over hg hl ht)]
    simp [lettersT]
  | cons c l ih =>
    intro n R acc hl ht he hc hb hn
    obtain ⟨n, rfl⟩ : ∃ m, n = m + 1 := ⟨n - 1, by omega⟩
    simp only [List.length_cons] at hb hn
    rw [allF, next_plain hg hl (hc c (by simp)).1 he]
    simp only
    rw [if_neg (by decide), if_neg (by decide), if_neg (by omega), ih n { R with left := l, state := 1 } (acc ++ [charT (codeAt C c) c]) rfl ht he (fun d hd => hc d (by simp [hd])) (by simp; omega) (by omega)]
    simp [lettersT]

theorem letters_all {C : List Int} (hg : goodC C = true) (l : List UInt8) (hc : ∀ c ∈ l, plainC C c) (hb : l.length ≤ 20000) : allM C (-1) l = (lettersT C l, 0) := by
  rw [allM, if_neg (by omega)]
  cases l with
  | nil =>
    rw [allF, if_pos (next_over hg rfl rfl)]
    rfl
  | cons c r =>
    simp only [List.length_cons] at hb
    have h10 : (10 : UInt8) ∉ c :: r := fun h => (hc 10 h).2.1 rfl
    have h32 : (32 : UInt8) ∉ c :: r := fun h => (hc 32 h).2.2 rfl
    have hn : nextM C (-1) (newR (c :: r)) = (charT (codeAt C c) c, 0, ⟨[], r, 1, 1, false, false⟩) := by
      have hc1 := (hc c (by simp)).1
      have h7 : codeAt C c ≠ 7 := by omega
      have hb : beginM (-1) (newR (c :: r)) = (true, ⟨[], c :: r, 0, 1, false, false⟩) := by
        rw [beginM_yes rfl rfl (by simp [newR])]
        simp only [newR, cutAt_none 10 _ h10, lineM]
        rw [if_neg (by omega), trim_none _ h32]
      have hsz : (newR (c :: r)).size = (3 * r.length + 2) + 1 := by simp [Rs.size, newR]; omega
      rw [nextM, if_neg (by rw [hg]; simp), if_neg (by simp [newR]), hsz, nextF]
      simp only [show (newR (c :: r)).left = [] from rfl, made_nil]
      rw [show ({ newR (c :: r) with left := [] } : Rs) = newR (c :: r) from rfl, hb]
      simp only [if_true]
      rw [nextF]
      simp only [made_none C (step1_code C h7)]
      rw [if_neg (by omega), if_neg (by omega), if_neg (by omega), if_neg (by omega), if_neg (by omega), if_neg (by omega)]
    rw [allF, hn]
    simp only
    rw [if_neg (by decide), if_neg (by decide), if_neg (by decide), all_plain hg r _ _ _ rfl rfl rfl (fun d hd => hc d (by simp [hd])) (by simp; omega) (by omega)]
    simp [lettersT]

end Go.Proofs.YtpcdbeicpmjooaaDoor
