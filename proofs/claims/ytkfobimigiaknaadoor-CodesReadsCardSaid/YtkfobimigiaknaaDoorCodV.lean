/-
  The plain law of two texts, one behind the other. Conditions: none; no program in sight.
-/
import Derived.Test.YtkfobimigiaknaaDoorCodU
namespace Go.Proofs.YtkfobimigiaknaaDoor
open Go.RowKit Go.Sp

/-- a text whose last line is ended -/
def EndsLF (t : List UInt8) : Prop := t = [] ∨ ∃ s, t = s ++ [10]

theorem cut_ended (two : List UInt8) : ∀ s : List UInt8, (cutAt 10 (s ++ [10] ++ two)).1 = (cutAt 10 (s ++ [10])).1 ∧ (cutAt 10 (s ++ [10] ++ two)).2.1 = (cutAt 10 (s ++ [10])).2.1 ++ two ∧ EndsLF (cutAt 10 (s ++ [10])).2.1 := by
  intro s
  induction s with
  | nil => exact ⟨rfl, by simp [cutAt], .inl (by simp [cutAt])⟩
  | cons b s ih =>
    by_cases hb : b = 10
    · subst hb
      refine ⟨by simp [cutAt], by simp [cutAt], .inr ⟨s, by simp [cutAt]⟩⟩
    · simp only [List.cons_append, cutAt, if_neg hb]
      exact ⟨by rw [ih.1], ih.2.1, ih.2.2⟩

/-- the reader whose text goes on with two -/
def Rs.plus (R : Rs) (two : List UInt8) : Rs := { R with text := R.text ++ two }

structure Live (R : Rs) : Prop where
  ends : EndsLF R.text
  st : R.stopped = false
  en : R.ended = false

theorem Live.left {R : Rs} (h : Live R) (l : List UInt8) (s : Nat) : Live { R with left := l, state := s } := ⟨h.ends, h.st, h.en⟩

theorem nextF_enough {C : List Int} {endl : Int} : ∀ (n m : Nat) (R : Rs), R.size < n → R.size < m → nextF C endl n R = nextF C endl m R := by
  intro n
  induction n with
  | zero => intro m R h; omega
  | succ n ih =>
    intro m R hn hm
    obtain ⟨m, rfl⟩ : ∃ k, m = k + 1 := ⟨m - 1, by omega⟩
    have hml := made_len C R.left
    rw [nextF, nextF]
    cases h : made C R.left with
    | nil =>
      simp only
      obtain ⟨q, hq⟩ : ∃ q, beginM endl { R with left := [] } = q := ⟨_, rfl⟩
      rw [hq]
      obtain ⟨b, Rq⟩ := q
      cases b
      · rfl
      · simp only [if_true]
        have h1 := begin_size hq
        exact ih m Rq (by simp only [Rs.size] at hn h1 ⊢; omega) (by simp only [Rs.size] at hm h1 ⊢; omega)
    | cons c r =>
      rw [h, List.length_cons] at hml
      have key : ∀ l : List UInt8, l.length ≤ r.length → nextF C endl n { R with left := l } = nextF C endl m { R with left := l } := fun l hl =>
        ih m _ (by simp only [Rs.size] at hn ⊢; omega) (by simp only [Rs.size] at hm ⊢; omega)
      simp only
      rw [key r (Nat.le_refl _), key [] (by simp)]

/-- what is left of the first text is told, or it is at its end -/
inductive Step (C : List Int) (endl : Int) (two : List UInt8) (R : Rs) (q : Tok × Int × Rs) : Prop where
  | more (h : q.2.1 ≠ 3) (hl : Live q.2.2) (hs : ∀ m, (R.plus two).size < m → nextF C endl m (R.plus two) = (q.1, q.2.1, q.2.2.plus two))
  | over (h : q.2.1 = 3) (s k : Nat) (hs : ∀ m, (R.plus two).size < m → ∃ m', (Rs.mk two [] s k false false).size < m' ∧ nextF C endl m (R.plus two) = nextF C endl m' ⟨two, [], s, k, false, false⟩)

theorem plus_left {R : Rs} {two l : List UInt8} {s : Nat} : Rs.plus { R with left := l, state := s } two = { R.plus two with left := l, state := s } := rfl

theorem nextF_step {C : List Int} {endl : Int} (two : List UInt8) : ∀ (n : Nat) (R : Rs), R.size < n → Live R → Step C endl two R (nextF C endl n R) := by
  intro n
  induction n with
  | zero => intro R h; omega
  | succ n ih =>
    intro R hn hL
    have hml := made_len C R.left
    -- one pass
    have pass : ∀ (R' : Rs), Step C endl two R' (nextF C endl n R') → (∀ m, (R.plus two).size < m + 1 → (R'.plus two).size < m ∧ nextF C endl (m + 1) (R.plus two) = nextF C endl m (R'.plus two)) → Step C endl two R (nextF C endl n R') := by
      intro R' h hp
      cases h with
      | more h1 h2 h3 =>
        refine .more h1 h2 fun m hm => ?_
        obtain ⟨m, rfl⟩ : ∃ k, m = k + 1 := ⟨m - 1, by omega⟩
        rw [(hp m hm).2]
        exact h3 m (hp m hm).1
      | over h1 s k h3 =>
        refine .over h1 s k fun m hm => ?_
        obtain ⟨m, rfl⟩ : ∃ k, m = k + 1 := ⟨m - 1, by omega⟩
        rw [(hp m hm).2]
        exact h3 m (hp m hm).1
    have hpl : (R.plus two).left = R.left := rfl
    cases h : made C R.left with
    | nil =>
      rcases hL.ends with he | ⟨s, he⟩
      · have hb := beginM_no (endl := endl) (R := { R with left := [] }) (.inr (.inr he))
        have e1 : nextF C endl (n + 1) R = (tok0, 3, { R with left := [], ended := true }) := by
          rw [nextF, h]
          simp only
          rw [hb]
          rfl
        rw [e1]
        refine .over rfl R.state R.number fun m hm => ⟨m, ?_, ?_⟩
        · simp only [Rs.size, Rs.plus, he, List.nil_append, List.length_nil] at hm ⊢; omega
        · obtain ⟨m, rfl⟩ : ∃ k, m = k + 1 := ⟨m - 1, by omega⟩
          have e2 : ({ R.plus two with left := [] } : Rs) = ⟨two, [], R.state, R.number, false, false⟩ := by
            simp only [Rs.plus, he, List.nil_append, hL.st, hL.en]
          rw [nextF, nextF, hpl, h]
          simp only [made_nil]
          rw [e2]
      · have hne : R.text ≠ [] := by rw [he]; simp
        have hb := beginM_yes (endl := endl) (R := { R with left := [] }) hL.st hL.en hne
        obtain ⟨c1, c2, c3⟩ := cut_ended two s
        have hne2 : (R.plus two).text ≠ [] := by simp [Rs.plus, he]
        have hb2 := beginM_yes (endl := endl) (R := { R.plus two with left := [] }) hL.st hL.en hne2
        obtain ⟨Rq, hRq⟩ : ∃ Rq : Rs, ({ R with text := (cutAt 10 R.text).2.1, left := lineM endl (cutAt 10 R.text).1, state := 0, number := R.number + 1 } : Rs) = Rq := ⟨_, rfl⟩
        have e3 : ({ R.plus two with text := (cutAt 10 (R.plus two).text).2.1, left := lineM endl (cutAt 10 (R.plus two).text).1, state := 0, number := R.number + 1 } : Rs) = Rq.plus two := by
          rw [← hRq]
          simp only [Rs.plus, he]
          rw [c1, c2]
        have hbq : beginM endl { R with left := [] } = (true, Rq) := by rw [← hRq]; exact hb
        have hbq2 : beginM endl { R.plus two with left := [] } = (true, Rq.plus two) := by rw [← e3]; exact hb2
        have e1 : nextF C endl (n + 1) R = nextF C endl n Rq := by
          rw [nextF, h]
          simp only
          rw [hbq]
          rfl
        rw [e1]
        have hs1 := begin_size hbq
        have hs2 := begin_size (R := R.plus two) hbq2
        have hLq : Live Rq := by
          rw [← hRq]
          exact ⟨by simp only [he]; exact c3, hL.st, hL.en⟩
        refine pass Rq (ih Rq (by simp only [Rs.size] at hn hs1 ⊢; omega) hLq) fun m hm => ⟨by simp only [Rs.size] at hm hs2 ⊢; omega, ?_⟩
        rw [nextF, hpl, h]
        simp only
        rw [hbq2]
        rfl
    | cons c r =>
      rw [h, List.length_cons] at hml
      have key : ∀ l : List UInt8, l.length ≤ r.length → (∀ m, nextF C endl (m + 1) (R.plus two) = nextF C endl m { R.plus two with left := l }) → Step C endl two R (nextF C endl n { R with left := l }) := fun l hl hq =>
        pass _ (ih _ (by simp only [Rs.size] at hn ⊢; omega) (hL.left l R.state)) fun m hm => ⟨by simp only [Rs.size, Rs.plus] at hm ⊢; omega, hq m⟩
      have last : ∀ (t : Tok) (e : Int) (l : List UInt8) (s : Nat), e ≠ 3 → (∀ m, nextF C endl (m + 1) (R.plus two) = (t, e, { R.plus two with left := l, state := s })) → Step C endl two R (t, e, { R with left := l, state := s }) := fun t e l s h3 hq =>
        .more h3 (hL.left l s) fun m hm => by
          obtain ⟨m, rfl⟩ : ∃ k, m = k + 1 := ⟨m - 1, by omega⟩
          exact hq m
      rw [nextF, h]
      simp only
      by_cases a0 : codeAt C c = 0
      · rw [if_pos a0]
        obtain ⟨l, s, e, hl⟩ := name_same C { R with left := r }
        have e2 : nameM C { R.plus two with left := r } = ((nameM C { R with left := r }).1, { R.plus two with left := l, state := s }) := by
          have g : ∀ (A B : Rs), A.left = B.left → A.state = B.state → (nameM C A).1 = (nameM C B).1 ∧ (nameM C A).2.left = (nameM C B).2.left ∧ (nameM C A).2.state = (nameM C B).2.state := by
            intro A B h1 h2
            unfold nameM
            rw [h1]
            cases made C B.left with
            | nil => exact ⟨rfl, rfl, h2⟩
            | cons d q =>
              simp only
              split
              · exact ⟨rfl, rfl, rfl⟩
              · split <;> exact ⟨rfl, rfl, rfl⟩
          obtain ⟨g1, g2, g3⟩ := g { R.plus two with left := r } { R with left := r } rfl rfl
          obtain ⟨l', s', e', _⟩ := name_same C { R.plus two with left := r }
          rw [e, e'] at g2 g3
          simp only at g2 g3
          refine Prod.ext g1 ?_
          rw [e', g2, g3]
        rw [e]
        exact last _ _ l s (by decide) fun m => by rw [nextF, hpl, h]; simp only; rw [if_pos a0, e2]
      · rw [if_neg a0]
        by_cases a5 : codeAt C c = 5
        · rw [if_pos a5]
          by_cases s0 : R.state = 0
          · rw [if_pos s0]
            exact last _ _ [] R.state (by decide) fun m => by rw [nextF, hpl, h]; simp only; rw [if_neg a0, if_pos a5, if_pos (show (R.plus two).state = 0 from s0)]; try rfl
          · rw [if_neg s0]
            by_cases s1 : R.state = 1
            · rw [if_pos s1]
              exact last _ _ [] R.state (by decide) fun m => by rw [nextF, hpl, h]; simp only; rw [if_neg a0, if_pos a5, if_neg (show ¬ (R.plus two).state = 0 from s0), if_pos (show (R.plus two).state = 1 from s1)]; try rfl
            · rw [if_neg s1]
              exact key [] (by simp) fun m => by rw [nextF, hpl, h]; simp only; rw [if_neg a0, if_pos a5, if_neg (show ¬ (R.plus two).state = 0 from s0), if_neg (show ¬ (R.plus two).state = 1 from s1)]
        · rw [if_neg a5]
          by_cases a9 : codeAt C c = 9
          · rw [if_pos a9]
            exact key r (Nat.le_refl _) fun m => by rw [nextF, hpl, h]; simp only; rw [if_neg a0, if_neg a5, if_pos a9]
          · rw [if_neg a9]
            by_cases a14 : codeAt C c = 14
            · rw [if_pos a14]
              exact key [] (by simp) fun m => by rw [nextF, hpl, h]; simp only; rw [if_neg a0, if_neg a5, if_neg a9, if_pos a14]
            · rw [if_neg a14]
              by_cases a10 : codeAt C c = 10
              · rw [if_pos a10]
                by_cases s1 : R.state = 1
                · rw [if_pos s1]
                  exact last _ _ r 2 (by decide) fun m => by rw [nextF, hpl, h]; simp only; rw [if_neg a0, if_neg a5, if_neg a9, if_neg a14, if_pos a10, if_pos (show (R.plus two).state = 1 from s1)]
                · rw [if_neg s1]
                  exact key r (Nat.le_refl _) fun m => by rw [nextF, hpl, h]; simp only; rw [if_neg a0, if_neg a5, if_neg a9, if_neg a14, if_pos a10, if_neg (show ¬ (R.plus two).state = 1 from s1)]
              · rw [if_neg a10]
                by_cases a15 : codeAt C c = 15
                · rw [if_pos a15]
                  exact last _ _ r R.state (by decide) fun m => by rw [nextF, hpl, h]; simp only; rw [if_neg a0, if_neg a5, if_neg a9, if_neg a14, if_neg a10, if_pos a15]; try rfl
                · rw [if_neg a15]
                  exact last _ _ r 1 (by decide) fun m => by rw [nextF, hpl, h]; simp only; rw [if_neg a0, if_neg a5, if_neg a9, if_neg a14, if_neg a10, if_neg a15]

end Go.Proofs.YtkfobimigiaknaaDoor
