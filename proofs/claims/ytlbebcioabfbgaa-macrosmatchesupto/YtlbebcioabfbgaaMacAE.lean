/-
  What is applied is balanced, but for a brace at its end. Conditions: none; no program in sight.
-/
import Derived.Test.YtlbebcioabfbgaaMacAC
namespace Go.Proofs.Ytlbebcioabfbgaa
open Go.RowKit Go.Sp

theorem match_check {P B L : List Tok} {long : Bool} {x : List (List Tok) × Nat} (h : matchM P B long L = .ok x) : check P B = true := by
  unfold matchM at h
  split at h
  · cases h
  · rename_i hc; simpa using hc

theorem subst_one (A : List (List Tok)) {t : Tok} (h : t.cat ≠ 17) : subst A [t] = [t] := by simp [subst, h]

/-- the end of what is applied -/
theorem apply_tail {P B : List Tok} {A : List (List Tok)} (h : check P B = true) (hA : ∀ a ∈ A, bal a = true) :
    (∃ t, P.getLast? = some t ∧ t.cat = 1 ∧ ∃ O, subst A B = O ++ [t] ∧ bal O = true) ∨ ((∀ t, P.getLast? = some t → t.cat ≠ 1) ∧ bal (subst A B) = true) := by
  unfold check at h
  simp only [Bool.and_eq_true, decide_eq_true_eq] at h
  obtain ⟨-, h⟩ := h
  cases hk : chkP 0 P with
  | none => rw [hk] at h; cases h
  | some n =>
    rw [hk] at h
    simp only [Bool.and_eq_true] at h
    obtain ⟨-, h⟩ := h
    unfold tailB at h
    cases hl : P.getLast? with
    | none =>
      rw [hl] at h
      exact .inr ⟨by simp, by rw [bal, subst_bal hA B 0 (by omega)]; exact h⟩
    | some t =>
      rw [hl] at h
      simp only at h
      by_cases hc : t.cat = 1
      · rw [if_pos hc] at h
        cases hb : B.getLast? with
        | none => rw [hb] at h; cases h
        | some u =>
          rw [hb] at h
          simp only [Bool.and_eq_true, decide_eq_true_eq] at h
          obtain ⟨hu, hbl⟩ := h
          subst hu
          have hB : B = B.dropLast ++ [u] := by
            have hne : B ≠ [] := by rintro rfl; simp at hb
            have h2 := List.dropLast_concat_getLast hne
            rw [List.getLast?_eq_some_getLast hne] at hb
            simp only [Option.some.injEq] at hb
            rw [← hb]; exact h2.symm
          refine .inl ⟨u, rfl, hc, subst A B.dropLast, ?_, ?_⟩
          · conv => lhs; rw [hB]
            rw [subst_append, subst_one A (by omega)]
          · rw [bal, subst_bal hA _ 0 (by omega)]; exact hbl
      · rw [if_neg hc] at h
        refine .inr ⟨fun u hu => ?_, by rw [bal, subst_bal hA B 0 (by omega)]; exact h⟩
        cases hu; exact hc

end Go.Proofs.Ytlbebcioabfbgaa
