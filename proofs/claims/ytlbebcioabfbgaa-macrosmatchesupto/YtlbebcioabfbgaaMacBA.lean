/-
  The reference's stripped, beside the program's strip. Conditions: none; no program in sight.
-/
import Derived.Test.YtlbebcioabfbgaaMacAD
namespace Go.Proofs.Ytlbebcioabfbgaa
open Go.RowKit Go.Sp

/-- one pair of braces that is all of it -/
def wrapB (X : List Tok) : Bool := decide (2 ≤ X.length) && ((X.getD 0 default).cat == 1) && ((X.getD (X.length - 1) default).cat == 2) && bal ((X.drop 1).take (X.length - 2))
def stripR (X : List Tok) : List Tok := if wrapB X = true then (X.drop 1).take (X.length - 2) else X

theorem delR_run {D : List Tok} {long : Bool} {u : Tok} (hu : u.cat = 2) : ∀ (I R : List Tok) (d : Int) (wh : Nat) (op : Bool) (y : Nat × Nat × Bool), 1 ≤ d → balF (d - 1) I = true →
    delR D long d wh op (I ++ u :: R) = .ok y → y.1 = I.length + 1 → y.2 = (wh, op) := by
  intro I
  induction I with
  | nil =>
    intro R d wh op y hd hb h hy
    have hd1 : d = 1 := by have : d - 1 = 0 := by simpa [balF] using hb
                           omega
    subst hd1
    have hs : stepD 1 u = 0 := by simp [stepD, hu]
    rw [List.nil_append, delR, if_neg (by omega), if_neg (by omega)] at h
    split at h
    · cases h
    · revert h
      rw [if_neg (by omega), if_neg (by omega), hs]
      generalize hg : delR D long 0 wh op R = z
      intro h
      cases z with
      | error => cases h
      | ok z =>
        cases h
        simp only [List.length_nil] at hy
        have hz : z.1 = 0 := by simpa using hy
        cases R with
        | nil => simp [delR] at hg
        | cons a R =>
          rw [delR] at hg
          split at hg
          · cases hg; rfl
          · split at hg
            · cases hg
            · split at hg
              · cases hg
              · revert hg
                generalize delR D long (stepD 0 a) _ _ R = q
                intro hg
                cases q with
                | error => cases hg
                | ok q => cases hg; simp at hz
  | cons t I ih =>
    intro R d wh op y hd hb h hy
    rw [balF] at hb
    split at hb
    · cases hb
    · rename_i hn
      rw [stepD_sub] at hn hb
      rw [List.cons_append, delR, if_neg (by omega), if_neg (by omega)] at h
      split at h
      · cases h
      · revert h
        rw [if_neg (by omega), if_neg (by omega)]
        generalize hg : delR D long (stepD d t) wh op (I ++ u :: R) = z
        intro h
        cases z with
        | error => cases h
        | ok z =>
          cases h
          exact ih R (stepD d t) wh op z (by omega) hb hg (by simpa using hy)

theorem strip_eq {D S : List Tok} {long : Bool} {y : Nat × Nat × Bool} (hD : D ≠ []) (h : delR D long 0 0 false S = .ok y) : strip y.2.1 y.2.2 (S.take y.1) = stripR (S.take y.1) := by
  have hle := delR_le _ _ _ _ _ _ h
  have hlen : (S.take y.1).length = y.1 := by rw [List.length_take]; omega
  have hbal := argM_bal (long := long) (D := D) (S := S) (x := (strip y.2.1 y.2.2 (S.take y.1), y.1 + D.length)) (by rw [argM, if_neg hD, delM, h]; rfl)
  simp only at hbal
  unfold strip at hbal ⊢
  unfold stripR
  split
  · rename_i hst
    rw [if_pos hst] at hbal
    rw [if_pos]
    obtain ⟨hw, ho, h2⟩ := hst
    rw [hlen] at h2
    cases S with
    | nil => simp [delR] at h
    | cons t S =>
      have hd := h
      rw [delR] at hd
      split at hd
      · cases hd; simp at hw
      · split at hd
        · cases hd
        · rename_i h3
          split at hd
          · cases hd
          · revert hd
            simp only [if_true]
            generalize hg : delR D long (stepD 0 t) (0 + 1) (t.cat == 1) S = z
            intro hd
            cases z with
            | error => cases hd
            | ok z =>
              cases hd
              simp only at hw ho h2 hle hlen hbal ⊢
              have hc2 : t.cat ≠ 2 := fun h => h3 ⟨h, rfl⟩
              have hs0 : 0 ≤ stepD 0 t := by have := (stepD_bd 0 t).2.2 hc2; omega
              obtain ⟨k1, k2, k3⟩ := delR_bal _ _ _ _ _ _ _ hs0 hg
              obtain ⟨j1, j2, -⟩ := k3 (by omega)
              rw [ho] at j1
              have hc1 : t.cat = 1 := by simpa using j1.symm
              have hs : stepD 0 t = 1 := by simp [stepD, hc1]
              rw [hs] at j2 hg
              obtain ⟨q1, q2⟩ := j2 (by omega)
              obtain ⟨u, hu, hc⟩ := delR_close _ _ _ _ _ _ _ (by omega) hg (by omega)
              rw [hlen] at hbal
              simp only [wrapB, hlen, Bool.and_eq_true, decide_eq_true_eq, beq_iff_eq]
              refine ⟨⟨⟨h2, by simpa using hc1⟩, ?_⟩, hbal⟩
              have e : (List.take (z.1 + 1) (t :: S))[z.1 + 1 - 1]? = some u := by
                rw [List.getElem?_take, if_pos (by omega)]
                obtain ⟨m, hm⟩ : ∃ m, z.1 = m + 1 := ⟨z.1 - 1, by omega⟩
                simp only [hm, Nat.add_sub_cancel] at hu ⊢
                simpa using hu
              rw [List.getD_eq_getElem?_getD, e]
              exact hc
  · rename_i hst
    split
    · rename_i hwr
      refine absurd ?_ hst
      simp only [wrapB, Bool.and_eq_true, decide_eq_true_eq, beq_iff_eq, hlen] at hwr
      obtain ⟨⟨⟨h2, hc1⟩, hc2⟩, hb⟩ := hwr
      cases S with
      | nil => simp at hle; omega
      | cons t S =>
        obtain ⟨n, hn⟩ : ∃ n, y.1 = n + 2 := ⟨y.1 - 2, by omega⟩
        rw [hn] at hc1 hc2 hb hlen
        have hSn : n < S.length := by simp only [List.length_cons] at hle; omega
        have hc1' : t.cat = 1 := by simpa using hc1
        have hS : S = S.take n ++ S[n] :: S.drop (n + 1) := by
          rw [← List.drop_eq_getElem_cons hSn, List.take_append_drop]
        have hc2' : S[n].cat = 2 := by
          have e : (List.take (n + 2) (t :: S))[n + 2 - 1]? = some S[n] := by
            rw [List.getElem?_take, if_pos (by omega)]
            simp [List.getElem?_eq_getElem hSn]
          rw [List.getD_eq_getElem?_getD, e] at hc2
          exact hc2
        have hb' : balF (1 - 1) (S.take n) = true := by
          have e : ((List.take (n + 2) (t :: S)).drop 1).take (n + 2 - 2) = S.take n := by
            rw [List.take_succ_cons, List.drop_succ_cons, List.drop_zero, List.take_take]
            congr 1; omega
          rw [e] at hb
          exact hb
        have hs : stepD 0 t = 1 := by simp [stepD, hc1']
        have hd := h
        rw [delR] at hd
        split at hd
        · cases hd; simp at hn
        · split at hd
          · cases hd
          · split at hd
            · cases hd
            · revert hd
              simp only [if_true, hs]
              generalize hg : delR D long 1 (0 + 1) (t.cat == 1) S = z
              intro hd
              cases z with
              | error => cases hd
              | ok z =>
                cases hd
                simp only at hn hlen ⊢
                rw [hS] at hg
                have := delR_run hc2' (S.take n) (S.drop (n + 1)) 1 _ _ z (by omega) hb' hg (by rw [List.length_take]; omega)
                rw [this]
                refine ⟨rfl, by simp [hc1'], by simp only [List.length_take, List.length_cons]; omega⟩
    · rfl

end Go.Proofs.Ytlbebcioabfbgaa
