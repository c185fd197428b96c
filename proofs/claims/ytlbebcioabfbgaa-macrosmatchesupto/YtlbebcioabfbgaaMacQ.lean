/-
  Match, Apply, Expand: what they answer, whole. Conditions: none; no program in sight.
-/
import Derived.Test.YtlbebcioabfbgaaMacL
import Derived.Test.YtlbebcioabfbgaaMacF
namespace Go.Proofs.Ytlbebcioabfbgaa
open Go.RowKit Go.Sp

def matchM (P B : List Tok) (long : Bool) (L : List Tok) : Except Int (List (List Tok) × Nat) :=
  if check P B = false then .error 170
  else if 20000 < L.length then .error 6
  else if L.all rightB = false then .error 160
  else if preM (parts P).1 L ≠ 0 then .error (preM (parts P).1 L)
  else (argsM long (parts P).2 (L.drop (parts P).1.length)).map fun x => (x.1, (parts P).1.length + x.2)

def applyM (P B : List Tok) (A : List (List Tok)) : Except Int (List Tok) :=
  if check P B = false then .error 170
  else if A.length ≠ count P then .error 171
  else if 20000 < sizeM A B then .error 6
  else if A.all (fun a => a.all rightB) = false then .error 160
  else .ok (subst A B)

def expandM (P B : List Tok) (long : Bool) (L : List Tok) : Except Int (List Tok) :=
  match matchM P B long L with
  | .error e => .error e
  | .ok x => match applyM P B x.1 with
    | .error e => .error e
    | .ok o => if 20000 < o.length + L.length - x.2 then .error 6 else .ok (o ++ L.drop x.2)

section
variable {P B L : List Tok} {long : Bool} {A : List (List Tok)}
theorem parts_plain (k : Nat) (h : k < P.length) (hc : P[k].cat ≠ 17) : parts (P.drop k) = (P[k] :: (parts (P.drop (k + 1))).1, (parts (P.drop (k + 1))).2) := by
  rw [List.drop_eq_getElem_cons h, parts, if_neg hc]
theorem parts_place (k : Nat) (h : k < P.length) (hc : P[k].cat = 17) : parts (P.drop k) = ([], (parts (P.drop (k + 1))).1 :: (parts (P.drop (k + 1))).2) := by
  rw [List.drop_eq_getElem_cons h, parts, if_pos hc]
theorem allQ (L : List Tok) (f : Tok → Bool) (k : Nat) (h : k < L.length) : (L.drop k).all f = (f L[k] && (L.drop (k + 1)).all f) := by
  rw [List.drop_eq_getElem_cons h, List.all_cons]
/-- as far as no place comes -/
theorem parts_upto (i : Nat) : ∀ (n : Nat), i + n ≤ P.length → (∀ j, i ≤ j → j < i + n → ∀ h : j < P.length, P[j].cat ≠ 17) →
    parts (P.drop i) = ((P.drop i).take n ++ (parts (P.drop (i + n))).1, (parts (P.drop (i + n))).2) := by
  intro n
  induction n generalizing i with
  | zero => intro _ _; simp
  | succ n ih =>
    intro hn hj
    have h1 : i < P.length := by omega
    rw [parts_plain i h1 (hj i (Nat.le_refl _) (by omega) h1), ih (i + 1) (by omega) (fun j a b h => hj j (by omega) (by omega) h), List.drop_eq_getElem_cons h1, List.take_succ_cons,
      show i + 1 + n = i + (n + 1) by omega]
    rfl
theorem parts_stop {k : Nat} (h : k = P.length ∨ ∃ h : k < P.length, P[k].cat = 17) : (parts (P.drop k)).1 = [] := by
  rcases h with rfl | ⟨h, hc⟩
  · simp [parts]
  · rw [parts_place k h hc]

theorem match_170 (h : check P B = false) : matchM P B long L = .error 170 := by rw [matchM, if_pos h]
theorem match_6 (h : check P B = true) (h2 : 20000 < L.length) : matchM P B long L = .error 6 := by rw [matchM, if_neg (by simp [h]), if_pos h2]
theorem match_160 (h : check P B = true) (h2 : ¬ 20000 < L.length) (h3 : L.all rightB = false) : matchM P B long L = .error 160 := by rw [matchM, if_neg (by simp [h]), if_neg h2, if_pos h3]
theorem match_pre {k : Int} (h : check P B = true) (h2 : ¬ 20000 < L.length) (h3 : L.all rightB = true) (hk : preM (parts P).1 L = k) (h0 : k ≠ 0) : matchM P B long L = .error k := by
  rw [matchM, if_neg (by simp [h]), if_neg h2, if_neg (by simp [h3]), if_pos (by rw [hk]; exact h0), hk]
theorem match_rest (h : check P B = true) (h2 : ¬ 20000 < L.length) (h3 : L.all rightB = true) (hk : preM (parts P).1 L = 0) :
    matchM P B long L = (argsM long (parts P).2 (L.drop (parts P).1.length)).map fun x => (x.1, (parts P).1.length + x.2) := by
  rw [matchM, if_neg (by simp [h]), if_neg h2, if_neg (by simp [h3]), if_neg (by simp [hk])]

/-- what stands when some arguments were taken -/
def argsAt (long : Bool) (acc : List (List Tok)) (used : Nat) (ds : List (List Tok)) (S : List Tok) : Except Int (List (List Tok) × Nat) := (argsM long ds S).map fun x => (acc ++ x.1, used + x.2)
theorem argsAt_nil (acc : List (List Tok)) (used : Nat) (S : List Tok) : argsAt long acc used [] S = .ok (acc, used) := by simp [argsAt, argsM, Except.map]
theorem argsAt_no {acc : List (List Tok)} {used : Nat} {D S : List Tok} {ds : List (List Tok)} {k : Int} (h : argM long D S = .error k) : argsAt long acc used (D :: ds) S = .error k := by simp [argsAt, argsM, h, Except.map]
theorem argsAt_yes {acc : List (List Tok)} {used : Nat} {D S : List Tok} {ds : List (List Tok)} {x : List Tok × Nat} (h : argM long D S = .ok x) : argsAt long acc used (D :: ds) S = argsAt long (acc ++ [x.1]) (used + x.2) ds (S.drop x.2) := by
  simp only [argsAt, argsM, h]
  cases argsM long ds (S.drop x.2) <;> simp [Except.map, Nat.add_assoc]

theorem grp_le : ∀ (S : List Tok) (d : Int) (p : Bool) (x : Nat × Bool), grp d p S = some x → x.1 ≤ S.length := by
  intro S
  induction S with
  | nil => intro d p x h; simp [grp] at h
  | cons t S ih =>
    intro d p x h
    rw [grp] at h
    split at h
    · cases h; simp
    · cases hg : grp (stepD d t) (p || isPar t) S with
      | none => rw [hg] at h; cases h
      | some y => rw [hg] at h; cases h; have := ih _ _ _ hg; simp; omega

theorem delR_le : ∀ (S D : List Tok) (d : Int) (wh : Nat) (op : Bool) (x : Nat × Nat × Bool), delR D long d wh op S = .ok x → x.1 + D.length ≤ S.length := by
  intro S D
  induction S with
  | nil => intro d wh op x h; simp [delR] at h
  | cons t S ih =>
    intro d wh op x h
    rw [delR] at h
    split at h
    · rename_i h2; cases h; have := (List.isPrefixOf_iff_prefix.1 h2.2).length_le; simpa using this
    · split at h
      · cases h
      · split at h
        · cases h
        · revert h
          generalize hg : delR D long (stepD d t) _ _ S = y
          intro h
          cases y with
          | error => cases h
          | ok y => cases h; have := ih _ _ _ _ hg; simp; omega

theorem strip_le (wh : Nat) (op : Bool) (X : List Tok) : (strip wh op X).length ≤ X.length := by
  unfold strip; split
  · rw [List.length_take, List.length_drop]; omega
  · exact Nat.le_refl _

theorem argM_le {D S : List Tok} {x : List Tok × Nat} (h : argM long D S = .ok x) : x.1.length ≤ S.length ∧ x.2 ≤ S.length := by
  unfold argM at h
  split at h
  · unfold plainM at h
    have hsp : ∀ (S : List Tok), spaces S ≤ S.length := by
      intro S
      induction S with
      | nil => simp [spaces]
      | cons t S ih => rw [spaces]; split <;> simp; exact ih
    have hl : (S.drop (spaces S)).length = S.length - spaces S := List.length_drop
    have hs := hsp S
    split at h
    · cases h
    · rename_i t r hd
      rw [hd] at hl
      simp only [List.length_cons] at hl
      split at h
      · cases h
      · split at h
        · split at h
          · cases h
          · rename_i y hy
            split at h
            · cases h
            · cases h
              have := grp_le _ _ _ _ hy
              simp only [List.length_cons] at this
              simp only [List.length_take]
              omega
        · split at h
          · cases h
          · cases h; simp; omega
  · unfold delM at h
    cases hd : delR D long 0 0 false S with
    | error k => rw [hd] at h; cases h
    | ok y =>
      rw [hd] at h
      cases h
      have := delR_le _ _ _ _ _ _ hd
      have h2 := strip_le y.2.1 y.2.2 (S.take y.1)
      rw [List.length_take] at h2
      refine ⟨?_, this⟩
      simp only
      omega
end

end Go.Proofs.Ytlbebcioabfbgaa
