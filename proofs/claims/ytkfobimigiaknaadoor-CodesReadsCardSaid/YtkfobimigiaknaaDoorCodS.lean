/-
  The plain law of a reader's end. Conditions: none; no program in sight.
-/
import Derived.Test.YtkfobimigiaknaaDoorCodR
namespace Go.Proofs.YtkfobimigiaknaaDoor
open Go.RowKit Go.Sp

/-- how many tokens may still come, at most -/
def Rs.phi (R : Rs) : Nat := R.left.length + (if R.text = [] then 0 else R.text.length + 1)

theorem cut_phi (c : UInt8) (l : List UInt8) : (cutAt c l).1.length + (if (cutAt c l).2.1 = [] then 0 else (cutAt c l).2.1.length + 1) ≤ l.length := by
  induction l with
  | nil => simp [cutAt]
  | cons b l ih =>
    rw [cutAt]
    split
    · simp only [List.length_nil, List.length_cons]
      split <;> omega
    · simp only [List.length_cons]
      omega

theorem line_len (endl : Int) (l : List UInt8) : (lineM endl l).length ≤ l.length + 1 := by
  have := trim_len l 32
  unfold lineM
  split
  · simp only [List.length_append, List.length_singleton]; omega
  · omega

theorem phi_left {R : Rs} {l : List UInt8} {s : Nat} (h : l.length ≤ R.left.length) : Rs.phi { R with left := l, state := s } ≤ R.phi := by
  simp only [Rs.phi]; omega

theorem begin_phi {endl : Int} {R Rq : Rs} (h : beginM endl { R with left := [] } = (true, Rq)) : Rq.phi ≤ R.phi := by
  rw [beginM] at h
  split at h
  · cases h
  · rename_i hc
    simp only [not_or] at hc
    simp only [Prod.mk.injEq, true_and] at h
    subst h
    have h1 := cut_phi 10 R.text
    have h2 := line_len endl (cutAt 10 R.text).1
    have h3 : R.text ≠ [] := hc.2.2
    simp only [Rs.phi, if_neg h3]
    omega

theorem letters_len (C : List Int) : ∀ (n : Nat) (l : List UInt8), (lettersF C n l).2.length ≤ l.length := by
  intro n
  induction n with
  | zero => intro l; exact Nat.le_refl _
  | succ n ih =>
    intro l
    rw [lettersF]
    have hm := made_len C l
    cases h : made C l with
    | nil => simp
    | cons d r =>
      rw [h, List.length_cons] at hm
      simp only
      split
      · have := ih r; simp only; omega
      · simp only [List.length_cons]; omega

theorem letters_len1 (C : List Int) : ∀ (n : Nat) (l : List UInt8), (lettersF C n l).1.length ≤ l.length := by
  intro n
  induction n with
  | zero => intro l; simp [lettersF]
  | succ n ih =>
    intro l
    rw [lettersF]
    have hm := made_len C l
    cases h : made C l with
    | nil => simp
    | cons d r =>
      rw [h, List.length_cons] at hm
      simp only
      split
      · have := ih r; simp only [List.length_cons]; omega
      · simp

theorem letters_all11 (C : List Int) : ∀ (n : Nat) (l : List UInt8), ∀ c ∈ (lettersF C n l).1, codeAt C c = 11 := by
  intro n
  induction n with
  | zero => intro l c h; simp [lettersF] at h
  | succ n ih =>
    intro l c h
    rw [lettersF] at h
    cases hm : made C l with
    | nil => rw [hm] at h; simp at h
    | cons d r =>
      rw [hm] at h
      simp only at h
      split at h
      · rename_i hd
        simp only [List.mem_cons] at h
        rcases h with rfl | h
        · exact hd
        · exact ih r c h
      · simp at h

/-- a name's reader: text and flags stay, the line shrinks -/
theorem name_same (C : List Int) (R : Rs) : ∃ l s, (nameM C R).2 = { R with left := l, state := s } ∧ l.length ≤ R.left.length := by
  have hm := made_len C R.left
  unfold nameM
  cases h : made C R.left with
  | nil => exact ⟨[], R.state, rfl, by simp⟩
  | cons c r =>
    rw [h, List.length_cons] at hm
    simp only
    split
    · have := letters_len C (r.length + 1) r
      exact ⟨_, 2, rfl, by omega⟩
    · split
      · exact ⟨r, 2, rfl, by omega⟩
      · exact ⟨r, 1, rfl, by omega⟩

theorem name_letters (C : List Int) (R : Rs) : (nameM C R).1.length ≤ 1 ∨ ∀ c ∈ (nameM C R).1, codeAt C c = 11 := by
  unfold nameM
  cases h : made C R.left with
  | nil => left; simp
  | cons c r =>
    simp only
    split
    · rename_i hc
      right
      intro d hd
      simp only [List.mem_cons] at hd
      rcases hd with rfl | hd
      · exact hc
      · exact letters_all11 C _ _ d hd
    · split <;> (left; simp)

theorem name_len (C : List Int) (R : Rs) : (nameM C R).1.length ≤ R.left.length := by
  have hm := made_len C R.left
  unfold nameM
  cases h : made C R.left with
  | nil => simp
  | cons c r =>
    rw [h, List.length_cons] at hm
    simp only
    split
    · have := letters_len1 C (r.length + 1) r
      simp only [List.length_cons]; omega
    · split <;> (simp only [List.length_singleton]; omega)

/-- what a reader tells -/
def KindOK (C : List Int) (t : Tok) : Prop :=
  (∃ l, t = nameT l ∧ (l = [112, 97, 114] ∨ l.length ≤ 1 ∨ ∀ c ∈ l, codeAt C c = 11)) ∨ t = blankT ∨
  (∃ c, t = charT (codeAt C c) c ∧ codeAt C c ∈ [1, 2, 3, 4, 6, 7, 8, 11, 12, 13])

/-- what one Next gives and leaves -/
structure NextOK (C : List Int) (R : Rs) (q : Tok × Int × Rs) : Prop where
  num : R.number ≤ q.2.2.number
  err : q.2.1 = 0 ∨ q.2.1 = 3 ∨ q.2.1 = 160
  fin : q.2.1 = 3 → q.1 = tok0 ∧ q.2.2.ended = true
  less : q.2.1 ≠ 3 → q.2.2.phi + 1 ≤ R.phi
  kind : q.2.1 = 0 → KindOK C q.1
  nlen : q.1.name.size ≤ R.phi + 3

theorem NextOK.trans {C : List Int} {R R' : Rs} {q : Tok × Int × Rs} (h : NextOK C R' q) (h1 : R.number ≤ R'.number) (h2 : R'.phi ≤ R.phi) : NextOK C R q :=
  ⟨Nat.le_trans h1 h.num, h.err, h.fin, fun h3 => Nat.le_trans (h.less h3) h2, h.kind, Nat.le_trans h.nlen (by omega)⟩

theorem code_in {C : List Int} (hC : C.length = 256) (hg : goodC C = true) (c : UInt8) : 0 ≤ codeAt C c ∧ codeAt C c ≤ 15 := by
  have hc : c.toNat < C.length := by have := c.toNat_lt; omega
  have h := List.all_eq_true.1 hg C[c.toNat] (List.getElem_mem hc)
  simp only [decide_eq_true_eq] at h
  have e : codeAt C c = C[c.toNat] := by simp [codeAt, hc]
  rw [e]; exact h

theorem nextF_ok {C : List Int} (hC : C.length = 256) (hg : goodC C = true) (endl : Int) : ∀ (n : Nat) (R : Rs), R.size < n → NextOK C R (nextF C endl n R) := by
  intro n
  induction n with
  | zero => intro R h; omega
  | succ n ih =>
    intro R hn
    have hml := made_len C R.left
    rw [nextF]
    cases h : made C R.left with
    | nil =>
      simp only
      obtain ⟨q, hq⟩ : ∃ q, beginM endl { R with left := [] } = q := ⟨_, rfl⟩
      rw [hq]
      obtain ⟨b, Rq⟩ := q
      cases b
      · rw [beginM] at hq
        split at hq
        · simp only [Prod.mk.injEq, true_and] at hq
          subst hq
          exact ⟨Nat.le_refl _, .inr (.inl rfl), fun _ => ⟨rfl, rfl⟩, fun h => absurd rfl h, fun h => by simp at h, Nat.zero_le _⟩
        · cases hq
      · simp only [if_true]
        have h1 := begin_size hq
        have h2 := begin_phi hq
        have hnum : R.number ≤ Rq.number := by
          rw [beginM] at hq
          split at hq
          · cases hq
          · simp only [Prod.mk.injEq, true_and] at hq
            subst hq
            exact Nat.le_succ _
        exact (ih Rq (by simp only [Rs.size] at hn h1 ⊢; omega)).trans hnum h2
    | cons c r =>
      rw [h, List.length_cons] at hml
      have ks : ∀ (l : List UInt8) (s : Nat), l.length ≤ r.length → (Rs.phi { R with left := l, state := s }) + 1 ≤ R.phi := by
        intro l s hl
        simp only [Rs.phi]; omega
      have key : ∀ (l : List UInt8), l.length ≤ r.length → NextOK C R (nextF C endl n { R with left := l }) := fun l hl =>
        (ih { R with left := l } (by simp only [Rs.size] at hn ⊢; omega)).trans (Nat.le_refl _) (by have := ks l R.state hl; omega)
      simp only
      split
      · obtain ⟨l, s, e, hl⟩ := name_same C { R with left := r }
        rw [e]
        exact ⟨Nat.le_refl _, .inl rfl, fun h => by simp at h, fun _ => ks l s hl, fun _ => .inl ⟨_, rfl, .inr (name_letters C _)⟩, by have h1 := name_len C { R with left := r }; have h2 := ks r 0 (Nat.le_refl _); simp only [Rs.phi] at h1 h2 ⊢; show (⟨_⟩ : ByteArray).size ≤ _; rw [str_size]; omega⟩
      · split
        · split
          · exact ⟨Nat.le_refl _, .inl rfl, fun h => by simp at h, fun _ => ks [] R.state (by simp), fun _ => .inl ⟨_, rfl, .inl rfl⟩, Nat.le_add_left 3 _⟩
          · split
            · exact ⟨Nat.le_refl _, .inl rfl, fun h => by simp at h, fun _ => ks [] R.state (by simp), fun _ => .inr (.inl rfl), Nat.zero_le _⟩
            · exact key [] (by simp)
        · split
          · exact key r (Nat.le_refl _)
          · split
            · exact key [] (by simp)
            · split
              · split
                · exact ⟨Nat.le_refl _, .inl rfl, fun h => by simp at h, fun _ => ks r 2 (Nat.le_refl _), fun _ => .inr (.inl rfl), Nat.zero_le _⟩
                · exact key r (Nat.le_refl _)
              · split
                · exact ⟨Nat.le_refl _, .inr (.inr rfl), fun h => by simp at h, fun _ => ks r R.state (Nat.le_refl _), fun h => by simp at h, Nat.zero_le _⟩
                · rename_i h1 h2 h3 h4 h5 h6
                  have hin := code_in hC hg c
                  refine ⟨Nat.le_refl _, .inl rfl, fun h => by simp at h, fun _ => ks r 1 (Nat.le_refl _), fun _ => .inr (.inr ⟨c, rfl, ?_⟩), Nat.zero_le _⟩
                  have : codeAt C c = 1 ∨ codeAt C c = 2 ∨ codeAt C c = 3 ∨ codeAt C c = 4 ∨ codeAt C c = 6 ∨ codeAt C c = 7 ∨ codeAt C c = 8 ∨ codeAt C c = 11 ∨ codeAt C c = 12 ∨ codeAt C c = 13 := by omega
                  rcases this with e | e | e | e | e | e | e | e | e | e <;> (rw [e]; simp)

theorem nextM_ok {C : List Int} (hC : C.length = 256) (hg : goodC C = true) (endl : Int) (R : Rs) : NextOK C R (nextM C endl R) := by
  rw [nextM, if_neg (by rw [hg]; simp)]
  split
  · rename_i he
    exact ⟨Nat.le_refl _, .inr (.inl rfl), fun _ => ⟨rfl, he⟩, fun h => absurd rfl h, fun h => by simp at h, Nat.zero_le _⟩
  · exact nextF_ok hC hg endl _ R (Nat.lt_succ_self _)

theorem nextM_ended {C : List Int} (hg : goodC C = true) (endl : Int) {R : Rs} (h : R.ended = true) : nextM C endl R = (tok0, 3, R) := by
  rw [nextM, if_neg (by rw [hg]; simp), if_pos h]

end Go.Proofs.YtkfobimigiaknaaDoor
