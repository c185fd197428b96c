/-
  The plain part of the law MacrosTogether, put together. Conditions: none; no program in sight.
-/
import Derived.Test.YtlbebcioabfbgaaMacAD
import Derived.Test.YtlbebcioabfbgaaMacAE
namespace Go.Proofs.Ytlbebcioabfbgaa
open Go.RowKit Go.Sp

theorem preM_prefix : ∀ (D S : List Tok), preM D S = 0 → D.isPrefixOf S = true := by
  intro D
  induction D with
  | nil => intro S _; rfl
  | cons x D ih =>
    intro S h
    cases S with
    | nil => simp [preM] at h
    | cons y S =>
      rw [preM] at h
      split at h
      · rename_i hy
        subst hy
        have := ih S h
        simp [this]
      · simp at h

theorem tog_init {P B L : List Tok} {long : Bool} {A : List (List Tok)} {n : Nat} (h : matchM P B long L = .ok (A, n)) :
    (parts P).1.isPrefixOf L = true ∧ (parts P).1.length ≤ n ∧ argsM long (parts P).2 (L.drop (parts P).1.length) = .ok (A, n - (parts P).1.length) ∧ A.length = (parts P).2.length ∧ n ≤ L.length := by
  have h0 := h
  unfold matchM at h
  split at h
  · cases h
  · split at h
    · cases h
    · split at h
      · cases h
      · split at h
        · cases h
        · rename_i hp
          have hp' : preM (parts P).1 L = 0 := by simpa using hp
          cases ha : argsM long (parts P).2 (L.drop (parts P).1.length) with
          | error => rw [ha] at h; cases h
          | ok y =>
            rw [ha] at h
            cases h
            have h1 := argsM_le long _ _ y ha
            have h2 := (matchM_le h0).2.1
            refine ⟨preM_prefix _ _ hp', by omega, ?_, h1.1, h2⟩
            simp

theorem tog_step {long : Bool} {ds : List (List Tok)} {L : List Tok} {A : List (List Tok)} {n i q : Nat} (hi : i < ds.length) (hA : i < A.length) (hq : q ≤ n) (h : argsM long (ds.drop i) (L.drop q) = .ok (A.drop i, n - q)) :
    ∃ m, argM long ds[i] (L.drop q) = .ok (A[i], m) ∧ argsM long (ds.drop (i + 1)) (L.drop (q + m)) = .ok (A.drop (i + 1), n - (q + m)) ∧ q + m ≤ n := by
  rw [List.drop_eq_getElem_cons hi, List.drop_eq_getElem_cons hA, argsM] at h
  split at h
  · cases h
  · rename_i y hy
    cases hr : argsM long (ds.drop (i + 1)) ((L.drop q).drop y.2) with
    | error => rw [hr] at h; cases h
    | ok z =>
      rw [hr] at h
      simp only [Except.map, Except.ok.injEq, Prod.mk.injEq, List.cons.injEq] at h
      obtain ⟨⟨h1, h2⟩, h3⟩ := h
      obtain ⟨y1, y2⟩ := y
      obtain ⟨z1, z2⟩ := z
      simp only at h1 h2 h3 hr
      subst h1 h2
      refine ⟨y2, hy, ?_, by omega⟩
      rw [List.drop_drop] at hr
      rw [hr]
      congr 2
      omega

theorem tog_end {long : Bool} {ds : List (List Tok)} {S : List Tok} {A : List (List Tok)} {u i : Nat} (hi : ds.length ≤ i) (h : argsM long (ds.drop i) S = .ok (A, u)) : u = 0 := by
  rw [List.drop_of_length_le hi] at h
  cases h; rfl

/-- the spaces that fall away ahead of an argument -/
def gap (D S : List Tok) : Nat := if D = [] then spaces S else 0

theorem arg_together {long : Bool} {D S X : List Tok} {m : Nat} (h : argM long D S = .ok (X, m)) :
    gap D S < S.length ∧ m ≤ S.length ∧
    ((brB (S.drop (gap D S)) X D = true ∧ ¬ (X.length = 0 ∧ plB (S.drop (gap D S)) X D = true) ∧ m = gap D S + (2 + X.length) + D.length ∧ (D ≠ [] → NoShorter ((S.drop (gap D S)).take (2 + X.length)) D)) ∨
     (¬ (brB (S.drop (gap D S)) X D = true ∧ ¬ (X.length = 0 ∧ plB (S.drop (gap D S)) X D = true)) ∧ plB (S.drop (gap D S)) X D = true ∧ m = gap D S + X.length + D.length ∧ (D ≠ [] → NoShorter ((S.drop (gap D S)).take (X.length + D.length)) D))) := by
  have hle := (argM_le h).2
  simp only at hle
  by_cases hD : D = []
  · subst hD
    have hg : gap [] S = spaces S := by simp [gap]
    rw [hg]
    rw [argM, if_pos rfl] at h
    obtain ⟨h1, h2⟩ := plain_together h
    simp only at h2
    have hlt : spaces S < S.length := by
      rcases Nat.lt_or_ge (spaces S) S.length with h3 | h3
      · exact h3
      · rw [List.drop_of_length_le h3] at h2
        rcases h2 with ⟨h2, -⟩ | ⟨-, h2, h4⟩
        · simp [brB] at h2
        · simp [plB] at h2
          have := h2.1
          simp [this] at h2
    refine ⟨hlt, hle, ?_⟩
    rcases h2 with ⟨h2, h3, h4⟩ | ⟨h2, h3, h4⟩
    · exact .inl ⟨h2, h3, by simpa using h4, by simp⟩
    · exact .inr ⟨by simp [h2], h3, by simpa using h4, by simp⟩
  · have hg : gap D S = 0 := by simp [gap, hD]
    have hl : 0 < D.length := List.length_pos_iff.2 hD
    rw [hg]
    rw [argM, if_neg hD] at h
    have h2 := del_together hD h
    simp only [List.drop_zero] at h2 ⊢
    rcases h2 with ⟨h2, h3, h4, h5⟩ | ⟨h2, h3, h4, h5⟩
    · exact ⟨by omega, hle, .inl ⟨h2, h3, by omega, fun _ => h5⟩⟩
    · exact ⟨by omega, hle, .inr ⟨h2, h3, by omega, fun _ => h5⟩⟩

theorem spaces_more1 {L : List Tok} {q s : Nat} (h : spaces (L.drop q) = s + 1) : ∃ h : q < L.length, L[q].cat = 10 ∧ spaces (L.drop (q + 1)) = s := by
  by_cases hq : q < L.length
  · rw [List.drop_eq_getElem_cons hq, spaces] at h
    split at h
    · rename_i hc; exact ⟨hq, hc, by omega⟩
    · cases h
  · rw [List.drop_of_length_le (by omega)] at h
    simp [spaces] at h
theorem spaces_none {L : List Tok} {q : Nat} (hq : q < L.length) (h : spaces (L.drop q) = 0) : L[q].cat ≠ 10 := by
  intro hc
  rw [List.drop_eq_getElem_cons hq, spaces, if_pos hc] at h
  omega

theorem brB_at {L X D : List Tok} {q : Nat} (hq : q < L.length) : brB (L.drop q) X D = (L[q].cat == 1 && X.isPrefixOf (L.drop (q + 1)) && (match L.drop (q + 1 + X.length) with | [] => false | u :: s => u.cat == 2 && D.isPrefixOf s)) := by
  rw [List.drop_eq_getElem_cons hq]
  simp only [brB, List.drop_drop]
  first
    | done
    | (cases List.drop (q + 1 + X.length) L <;> rfl)

theorem brB_no1 {L X D : List Tok} {q : Nat} (hq : q < L.length) (h : L[q].cat ≠ 1) : brB (L.drop q) X D = false := by
  rw [brB_at hq]; simp [h]
theorem brB_no2 {L X D : List Tok} {q : Nat} (hq : q < L.length) (h : X.isPrefixOf (L.drop (q + 1)) = false) : brB (L.drop q) X D = false := by
  rw [brB_at hq]; simp [h]
theorem brB_no3 {L X D : List Tok} {q : Nat} (hq : q < L.length) (h : ¬ q + 1 + X.length < L.length) : brB (L.drop q) X D = false := by
  rw [brB_at hq, List.drop_of_length_le (i := q + 1 + X.length) (by omega)]; simp
theorem brB_yes {L X D : List Tok} {q : Nat} (hq : q < L.length) (h : L[q].cat = 1) (h2 : X.isPrefixOf (L.drop (q + 1)) = true) (h3 : q + 1 + X.length < L.length) :
    brB (L.drop q) X D = (L[q + 1 + X.length].cat == 2 && D.isPrefixOf (L.drop (q + 2 + X.length))) := by
  rw [brB_at hq, List.drop_eq_getElem_cons h3, h, h2]
  simp only [beq_self_eq_true, Bool.true_and]
  rw [show q + 1 + X.length + 1 = q + 2 + X.length by omega]

theorem plB_at {L X D : List Tok} {q : Nat} : plB (L.drop q) X D = (X.isPrefixOf (L.drop q) && D.isPrefixOf (L.drop (q + X.length)) && (decide (D ≠ []) || X.length == 1)) := by
  rw [plB, List.drop_drop]

end Go.Proofs.Ytlbebcioabfbgaa
