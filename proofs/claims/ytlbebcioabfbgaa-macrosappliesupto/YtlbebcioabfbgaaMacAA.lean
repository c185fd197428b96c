/-
  What stands farther behind changes nothing. Conditions: none; no program in sight.
-/
import Derived.Test.YtlbebcioabfbgaaMacV
namespace Go.Proofs.Ytlbebcioabfbgaa
open Go.RowKit Go.Sp

theorem grp_more : ∀ (S M : List Tok) (d : Int) (p : Bool) (x : Nat × Bool), grp d p S = some x → grp d p (S ++ M) = some x := by
  intro S M
  induction S with
  | nil => intro d p x h; simp [grp] at h
  | cons t S ih =>
    intro d p x h
    rw [grp] at h
    rw [List.cons_append, grp]
    split at h
    · rename_i hz; rw [if_pos hz]; exact h
    · rename_i hz
      rw [if_neg hz]
      cases hg : grp (stepD d t) (p || isPar t) S with
      | none => rw [hg] at h; cases h
      | some y => rw [ih _ _ _ hg]; rw [hg] at h; exact h

theorem prefix_more {D S M : List Tok} (h : D.length ≤ S.length) : D.isPrefixOf (S ++ M) = D.isPrefixOf S := by
  rw [prefix_take, prefix_take, List.length_append, List.take_append_of_le_length h]
  have h1 : decide (D.length ≤ S.length + M.length) = true := by simp; omega
  have h2 : decide (D.length ≤ S.length) = true := by simpa using h
  rw [h1, h2]

theorem delR_more : ∀ (S M D : List Tok) (long : Bool) (d : Int) (wh : Nat) (op : Bool) (x : Nat × Nat × Bool), delR D long d wh op S = .ok x → delR D long d wh op (S ++ M) = .ok x := by
  intro S M D long
  induction S with
  | nil => intro d wh op x h; simp [delR] at h
  | cons t S ih =>
    intro d wh op x h
    have hle := delR_le _ _ _ _ _ _ h
    have hp : D.isPrefixOf (t :: (S ++ M)) = D.isPrefixOf (t :: S) := prefix_more (S := t :: S) (by omega)
    rw [delR] at h
    rw [List.cons_append, delR, hp]
    split at h
    · rename_i h2; rw [if_pos h2]; exact h
    · rename_i h2
      rw [if_neg h2]
      split at h
      · cases h
      · rename_i h3
        rw [if_neg h3]
        split at h
        · cases h
        · rename_i h4
          rw [if_neg h4]
          revert h
          generalize hg : delR D long (stepD d t) _ _ S = y
          intro h
          cases y with
          | error => cases h
          | ok y => rw [ih _ _ _ _ hg]; exact h

theorem spaces_more : ∀ (S M : List Tok), spaces S < S.length → spaces (S ++ M) = spaces S := by
  intro S M
  induction S with
  | nil => intro h; simp at h
  | cons t S ih =>
    intro h
    rw [spaces] at h
    rw [List.cons_append, spaces, spaces]
    split at h
    · rename_i hc
      rw [if_pos hc, if_pos hc, ih (by simpa using h)]
    · rename_i hc
      rw [if_neg hc, if_neg hc]

theorem argM_more {long : Bool} {D S : List Tok} {x : List Tok × Nat} (M : List Tok) (h : argM long D S = .ok x) : argM long D (S ++ M) = .ok x := by
  unfold argM at h ⊢
  split at h
  · rename_i hD
    rw [if_pos hD]
    unfold plainM at h
    split at h
    · cases h
    · rename_i t r hd
      have hl : (S.drop (spaces S)).length = S.length - spaces S := List.length_drop
      rw [hd, List.length_cons] at hl
      have hsp := spaces_more S M (by omega)
      unfold plainM
      rw [hsp, List.drop_append_of_le_length (by omega), hd, List.cons_append]
      simp only
      split at h
      · cases h
      · rename_i h2
        rw [if_neg h2]
        split at h
        · rename_i h1
          rw [if_pos h1]
          split at h
          · cases h
          · rename_i y hy
            have hg := grp_more _ M _ _ _ hy
            rw [List.cons_append] at hg
            rw [hg]
            simp only
            split at h
            · cases h
            · rename_i hpl
              rw [if_neg hpl]
              have hle := grp_le _ _ _ _ hy
              rw [List.length_cons] at hle
              rw [List.take_append_of_le_length (by omega)]
              exact h
        · rename_i h1
          rw [if_neg h1]
          exact h
  · rename_i hD
    rw [if_neg hD]
    unfold delM at h ⊢
    cases hd : delR D long 0 0 false S with
    | error k => rw [hd] at h; cases h
    | ok y =>
      rw [hd] at h
      have hle := delR_le _ _ _ _ _ _ hd
      rw [delR_more _ M _ _ _ _ _ _ hd]
      cases h
      simp only [Except.map]
      rw [List.take_append_of_le_length (by omega)]

theorem argsM_more {long : Bool} (M : List Tok) : ∀ (ds : List (List Tok)) (S : List Tok) (x : List (List Tok) × Nat), argsM long ds S = .ok x → argsM long ds (S ++ M) = .ok x := by
  intro ds
  induction ds with
  | nil => intro S x h; exact h
  | cons D ds ih =>
    intro S x h
    rw [argsM] at h ⊢
    split at h
    · cases h
    · rename_i y hy
      rw [argM_more M hy]
      simp only
      have hle := argM_le hy
      rw [List.drop_append_of_le_length hle.2]
      cases hr : argsM long ds (S.drop y.2) with
      | error => rw [hr] at h; cases h
      | ok z => rw [ih _ _ hr]; rw [hr] at h; exact h

theorem preM_more (M : List Tok) : ∀ (D S : List Tok), preM D S = 0 → preM D (S ++ M) = 0 := by
  intro D
  induction D with
  | nil => intro S _; rfl
  | cons x D ih =>
    intro S h
    cases S with
    | nil => simp [preM] at h
    | cons y S =>
      rw [preM] at h
      rw [List.cons_append, preM]
      split at h
      · rename_i hy; rw [if_pos hy]; exact ih _ h
      · simp at h

/-- with more behind: too many, not right, or the same -/
theorem match_more {P B L : List Tok} {long : Bool} {x : List (List Tok) × Nat} (M : List Tok) (h : matchM P B long L = .ok x) :
    (M ≠ [] ∧ (matchM P B long (L ++ M) = .error 6 ∨ matchM P B long (L ++ M) = .error 160)) ∨ matchM P B long (L ++ M) = .ok x := by
  have h0 := h
  unfold matchM at h
  split at h
  · cases h
  · rename_i hc
    have hc' : check P B = true := by simpa using hc
    split at h
    · cases h
    · rename_i h6
      split at h
      · cases h
      · rename_i hr
        have hr' : L.all rightB = true := by simpa using hr
        split at h
        · cases h
        · rename_i hp
          have hp' : preM (parts P).1 L = 0 := by simpa using hp
          by_cases hb : 20000 < (L ++ M).length
          · refine .inl ⟨?_, .inl (match_6 hc' hb)⟩
            rintro rfl
            simp at hb; omega
          · cases hm : M.all rightB
            · refine .inl ⟨?_, .inr (match_160 hc' hb (by rw [List.all_append, hm, Bool.and_false]))⟩
              rintro rfl
              simp at hm
            · right
              have h1 := preM_zero _ _ hp'
              rw [match_rest hc' hb (by rw [List.all_append, hr', hm]; rfl) (preM_more M _ _ hp'), List.drop_append_of_le_length h1]
              cases ha : argsM long (parts P).2 (L.drop (parts P).1.length) with
              | error => rw [ha] at h; cases h
              | ok y => rw [argsM_more M _ _ _ ha]; rw [ha] at h; exact h

end Go.Proofs.Ytlbebcioabfbgaa
