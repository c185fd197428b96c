/-
  Two texts, one behind the other: all their tokens. Conditions: none; no program in sight.
-/
import Derived.Test.YtkfobimigiaknaaDoorCodV
namespace Go.Proofs.YtkfobimigiaknaaDoor
open Go.RowKit Go.Sp

/-- readers that tell the same -/
structure Alike (A B : Rs) : Prop where
  text : A.text = B.text
  left : A.left = B.left
  st : A.stopped = B.stopped
  en : A.ended = B.ended
  state : A.state = B.state ∨ B.left = []

theorem Alike.size {A B : Rs} (h : Alike A B) : A.size = B.size := by simp only [Rs.size, h.text, h.left]

theorem name_alike (C : List Int) {A B : Rs} (h : A.left = B.left) (ht : A.text = B.text) (h1 : A.stopped = B.stopped) (h2 : A.ended = B.ended) :
    (nameM C A).1 = (nameM C B).1 ∧ Alike (nameM C A).2 (nameM C B).2 := by
  unfold nameM
  rw [h]
  cases made C B.left with
  | nil => exact ⟨rfl, ht, rfl, h1, h2, .inr rfl⟩
  | cons d q =>
    simp only
    split
    · exact ⟨rfl, ht, rfl, h1, h2, .inl rfl⟩
    · split <;> exact ⟨rfl, ht, rfl, h1, h2, .inl rfl⟩

theorem begin_alike {endl : Int} {A B : Rs} (h : Alike A B) : (beginM endl { A with left := [] }).1 = (beginM endl { B with left := [] }).1 ∧ Alike (beginM endl { A with left := [] }).2 (beginM endl { B with left := [] }).2 := by
  unfold beginM
  simp only [h.st, h.en, h.text]
  split
  · exact ⟨rfl, rfl, rfl, rfl, rfl, .inr rfl⟩
  · exact ⟨rfl, rfl, rfl, rfl, rfl, .inl rfl⟩

theorem nextF_alike {C : List Int} {endl : Int} : ∀ (n : Nat) (A B : Rs), Alike A B → (nextF C endl n A).1 = (nextF C endl n B).1 ∧ (nextF C endl n A).2.1 = (nextF C endl n B).2.1 ∧ Alike (nextF C endl n A).2.2 (nextF C endl n B).2.2 := by
  intro n
  induction n with
  | zero => intro A B h; exact ⟨rfl, rfl, h⟩
  | succ n ih =>
    intro A B h
    rw [nextF, nextF, h.left]
    cases hm : made C B.left with
    | nil =>
      simp only
      obtain ⟨h1, h2⟩ := begin_alike (endl := endl) h
      rw [h1]
      split
      · exact ih _ _ h2
      · exact ⟨rfl, rfl, h2⟩
    | cons c r =>
      have hs : A.state = B.state := by
        rcases h.state with h1 | h1
        · exact h1
        · rw [h1, made_nil] at hm; cases hm
      have al : ∀ (l : List UInt8) (s : Nat), Alike { A with left := l, state := s } { B with left := l, state := s } := fun l s => ⟨h.text, rfl, h.st, h.en, .inl rfl⟩
      simp only
      rw [hs]
      split
      · obtain ⟨g1, g2⟩ := name_alike C (A := { A with left := r }) (B := { B with left := r }) rfl h.text h.st h.en
        rw [hs] at g1 g2
        exact ⟨by rw [g1], rfl, g2⟩
      · split
        · split
          · exact ⟨rfl, rfl, al [] B.state⟩
          · split
            · exact ⟨rfl, rfl, al [] B.state⟩
            · exact ih _ _ (al [] B.state)
        · split
          · exact ih _ _ (al r B.state)
          · split
            · exact ih _ _ (al [] B.state)
            · split
              · split
                · exact ⟨rfl, rfl, al r 2⟩
                · exact ih _ _ (al r B.state)
              · split
                · exact ⟨rfl, rfl, al r B.state⟩
                · exact ⟨rfl, rfl, al r 1⟩

theorem nextM_alike {C : List Int} {endl : Int} {A B : Rs} (h : Alike A B) : (nextM C endl A).1 = (nextM C endl B).1 ∧ (nextM C endl A).2.1 = (nextM C endl B).2.1 ∧ Alike (nextM C endl A).2.2 (nextM C endl B).2.2 := by
  unfold nextM
  rw [h.en, h.size]
  split
  · exact ⟨rfl, rfl, h⟩
  · split
    · exact ⟨rfl, rfl, h⟩
    · exact nextF_alike _ _ _ h

theorem allF_grows {C : List Int} {endl : Int} : ∀ (n : Nat) (R : Rs) (acc b : List Tok), allF C endl n R acc = (b, 0) → acc.length ≤ b.length := by
  intro n
  induction n with
  | zero => intro R acc b h; simp [allF] at h
  | succ n ih =>
    intro R acc b h
    rw [allF] at h
    split at h
    · cases h; exact Nat.le_refl _
    · split at h
      · rename_i h1 h2
        simp only [Prod.mk.injEq] at h
        exact absurd h.2 h2
      · split at h
        · simp at h
        · have := ih _ _ _ h
          simp only [List.length_append, List.length_singleton] at this
          omega

theorem allF_second {C : List Int} {endl : Int} (a : List Tok) : ∀ (m n : Nat) (A B : Rs) (pre b : List Tok), Alike A B → m + pre.length = 20001 → n + (a.length + pre.length) = 20001 → a.length + pre.length ≤ 20000 →
    allF C endl m B pre = (b, 0) → allF C endl n A (a ++ pre) = if a.length + b.length ≤ 20000 then (a ++ b, 0) else ([], 6) := by
  intro m
  induction m with
  | zero => intro n A B pre b _ _ _ _ h; simp [allF] at h
  | succ m ih =>
    intro n A B pre b hab hm hn hl h
    obtain ⟨n, rfl⟩ : ∃ k, n = k + 1 := ⟨n - 1, by omega⟩
    obtain ⟨e1, e2, e3⟩ := nextM_alike (C := C) (endl := endl) hab
    have hgrow := allF_grows _ _ _ _ h
    rw [allF] at h
    rw [allF, e1, e2]
    split at h
    · rename_i h3
      cases h
      rw [if_pos h3, if_pos hl]
    · rename_i h3
      rw [if_neg h3]
      split at h
      · rename_i h4
        simp only [Prod.mk.injEq] at h
        exact absurd h.2 h4
      · rename_i h4
        rw [if_neg h4]
        split at h
        · simp at h
        · have hg2 := allF_grows _ _ _ _ h
          simp only [List.length_append, List.length_singleton] at hg2
          split
          · rename_i h6
            rw [List.length_append] at h6
            rw [if_neg (by omega)]
          · rename_i h6
            rw [List.length_append] at h6
            have := ih n _ _ (pre ++ [(nextM C endl B).1]) b e3 (by simp; omega) (by simp; omega) (by simp; omega) h
            rw [← this, List.append_assoc]

theorem allF_first {C : List Int} {endl : Int} (hg : goodC C = true) (two : List UInt8) : ∀ (n : Nat) (R : Rs) (acc a : List Tok), Live R → n + acc.length = 20001 → allF C endl n R acc = (a, 0) →
    ∃ s k m, m + a.length = 20001 ∧ a.length ≤ 20000 ∧ allF C endl n (R.plus two) acc = allF C endl m ⟨two, [], s, k, false, false⟩ a := by
  intro n
  induction n with
  | zero => intro R acc a _ _ h; simp [allF] at h
  | succ n ih =>
    intro R acc a hL hn h
    have hM : nextM C endl R = nextF C endl (R.size + 1) R := by rw [nextM, if_neg (by rw [hg]; simp), if_neg (by rw [hL.en]; simp)]
    have hMp : nextM C endl (R.plus two) = nextF C endl ((R.plus two).size + 1) (R.plus two) := by
      rw [nextM, if_neg (by rw [hg]; simp), if_neg (by show ¬ R.ended = true; rw [hL.en]; simp)]
    have hS := nextF_step (C := C) (endl := endl) two (R.size + 1) R (Nat.lt_succ_self _) hL
    rw [← hM] at hS
    rw [allF] at h
    cases hS with
    | more h1 h2 h3 =>
      have hp := h3 _ (Nat.lt_succ_self _)
      rw [← hMp] at hp
      rw [if_neg h1] at h
      rw [allF, hp]
      simp only
      rw [if_neg h1]
      split at h
      · rename_i h4
        simp only [Prod.mk.injEq] at h
        exact absurd h.2 h4
      · rename_i h4
        rw [if_neg h4]
        split at h
        · simp at h
        · rename_i h5
          rw [if_neg h5]
          exact ih _ _ _ h2 (by simp; omega) h
    | over h1 s k h3 =>
      rw [if_pos h1] at h
      cases h
      obtain ⟨m', hm', hp⟩ := h3 _ (Nat.lt_succ_self _)
      rw [← hMp] at hp
      have hq : nextM C endl (R.plus two) = nextM C endl ⟨two, [], s, k, false, false⟩ := by
        rw [hp, nextM, if_neg (by rw [hg]; simp), if_neg (by simp)]
        exact nextF_enough _ _ _ hm' (Nat.lt_succ_self _)
      refine ⟨s, k, n + 1, hn, by omega, ?_⟩
      rw [allF, allF, hq]

theorem good_of_all {C : List Int} {endl : Int} {t : List UInt8} {a : List Tok} (h : allM C endl t = (a, 0)) : goodC C = true := by
  cases hg : goodC C with
  | true => rfl
  | false =>
    rw [allM] at h
    split at h
    · simp at h
    · rw [allF, nextM, if_pos hg] at h
      simp at h

theorem lines_all {C : List Int} {endl : Int} {one two : List UInt8} {a b : List Tok} (ha : allM C endl (one ++ [10]) = (a, 0)) (hb : allM C endl two = (b, 0)) :
    (allM C endl (one ++ [10] ++ two) = (a ++ b, 0)) ∨ (allM C endl (one ++ [10] ++ two) = ([], 6) ∧ (65536 ≤ one.length + two.length ∨ 20000 < a.length + b.length)) := by
  have hg := good_of_all ha
  by_cases hl : 65536 < (one ++ [10] ++ two).length
  · right
    refine ⟨by rw [allM, if_pos hl], .inl ?_⟩
    simp only [List.length_append, List.length_singleton] at hl
    omega
  · rw [allM] at ha hb
    split at ha
    · simp at ha
    · split at hb
      · simp at hb
      · have hL : Live (newR (one ++ [10])) := ⟨.inr ⟨one, rfl⟩, rfl, rfl⟩
        obtain ⟨s, k, m, hm, ha2, hf⟩ := allF_first hg two _ _ _ _ hL (by simp) ha
        have hsec := allF_second (C := C) (endl := endl) a 20001 m ⟨two, [], s, k, false, false⟩ (newR two) [] b ⟨rfl, rfl, rfl, rfl, .inr rfl⟩ (by simp) (by simpa using hm) (by simpa using ha2) hb
        rw [List.append_nil] at hsec
        have hall : allM C endl (one ++ [10] ++ two) = if a.length + b.length ≤ 20000 then (a ++ b, 0) else ([], 6) := by
          rw [allM, if_neg hl, ← hsec, ← hf]
          rfl
        rw [hall]
        split
        · exact .inl rfl
        · exact .inr ⟨rfl, .inr (by omega)⟩

end Go.Proofs.YtkfobimigiaknaaDoor
