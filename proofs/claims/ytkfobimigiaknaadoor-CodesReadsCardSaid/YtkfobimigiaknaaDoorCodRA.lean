/-
  The reference's reader: small functions, lines. Conditions: those that each theorem names.
-/
import Derived.Test.YtkfobimigiaknaaDoorCodX
namespace Go.Proofs.YtkfobimigiaknaaDoor
open Go.RowKit Go.Sp
variable {W w w' : World} {F F' : HProp}

/-- the worth of a digit to the base 16; -1: it is none -/
def hexI (c : UInt8) : Int := if hexB c = true then (hexN c : Int) else -1

set_option maxRecDepth 100000 in
theorem hexR_any (c : UInt8) (w : World) : Calls Tryd.prog 39 #[.int .u8 c.toNat] w fun e w' => e = .returned (.int .i64 (hexI c)) ∧ w = w' := by
  have hc : (c.toNat : Int) < 256 := by have := c.toNat_lt; omega
  by_cases h1 : 48 ≤ c.toNat ∧ c.toNat ≤ 57
  · have e1 : hexI c = (c.toNat : Int) - 48 := by
      have a1 : hexB c = true := by simp [hexB, hexD, h1]
      have a2 : hexN c = c.toNat - 48 := by simp [hexN, hexD, h1]
      rw [hexI, if_pos a1, a2]; omega
    have E := Lib.hid e1
    have i1 : (48 : Int) ≤ c.toNat := by omega
    have i2 : (c.toNat : Int) ≤ 57 := by omega
    rw [E.out]
    clear e1 E h1
    go_enter Tryd.func39, Tryd.ntmps39
    go_wp2
    go_ret
    exact ⟨by go_num, rfl⟩
  · by_cases h2 : 97 ≤ c.toNat ∧ c.toNat ≤ 102
    · have e1 : hexI c = (c.toNat : Int) - 87 := by
        have a1 : hexB c = true := by simp [hexB, hexD, h1, h2]
        have a2 : hexN c = c.toNat - 87 := by simp [hexN, hexD, h1, h2]
        rw [hexI, if_pos a1, a2]; omega
      have E := Lib.hid e1
      have i1 : (97 : Int) ≤ c.toNat := by omega
      have i2 : (c.toNat : Int) ≤ 102 := by omega
      have i3 : ¬ (c.toNat : Int) ≤ 57 := by omega
      rw [E.out]
      clear e1 E h1 h2
      go_enter Tryd.func39, Tryd.ntmps39
      go_wp2
      go_ret
      exact ⟨by go_num, rfl⟩
    · have e1 : hexI c = -1 := by
        have a1 : hexB c = false := by simp [hexB, hexD, h1, h2]
        rw [hexI, a1]; rfl
      rw [e1]
      have hps : (¬ (48 : Int) ≤ c.toNat ∧ ¬ (97 : Int) ≤ c.toNat) ∨ ((48 : Int) ≤ c.toNat ∧ ¬ (c.toNat : Int) ≤ 57 ∧ ¬ (97 : Int) ≤ c.toNat) ∨ ((48 : Int) ≤ c.toNat ∧ ¬ (c.toNat : Int) ≤ 57 ∧ (97 : Int) ≤ c.toNat ∧ ¬ (c.toNat : Int) ≤ 102) := by omega
      clear e1 h1 h2
      rcases hps with ⟨j1, j2⟩ | ⟨j1, j2, j3⟩ | ⟨j1, j2, j3, j4⟩
      all_goals
        go_enter Tryd.func39, Tryd.ntmps39
        go_wp2
        go_ret
        exact ⟨rfl, rfl⟩

/-- a text's lines, the line feeds behind them gone -/
def linesF : Nat → List UInt8 → List (List UInt8)
  | 0, _ => []
  | n + 1, l => if l = [] then [] else (cutAt 10 l).1 :: linesF n (cutAt 10 l).2.1
def linesL (l : List UInt8) : List (List UInt8) := linesF l.length l

theorem linesF_enough : ∀ (n m : Nat) (l : List UInt8), l.length ≤ n → l.length ≤ m → linesF n l = linesF m l := by
  intro n
  induction n with
  | zero =>
    intro m l hn _
    have : l = [] := List.eq_nil_of_length_eq_zero (by omega)
    subst this
    cases m <;> rfl
  | succ n ih =>
    intro m l hn hm
    by_cases hl : l = []
    · subst hl
      cases m <;> rfl
    · have h1 := cutAt_lt 10 l hl
      cases m with
      | zero => exact absurd (List.eq_nil_of_length_eq_zero (by omega)) hl
      | succ m =>
        rw [linesF, linesF, if_neg hl, if_neg hl, ih m _ (by omega) (by omega)]

theorem linesL_nil : linesL [] = [] := rfl
theorem linesL_cons (l : List UInt8) (h : l ≠ []) : linesL l = (cutAt 10 l).1 :: linesL (cutAt 10 l).2.1 := by
  have h1 := cutAt_lt 10 l h
  unfold linesL
  obtain ⟨n, hn⟩ : ∃ n, l.length = n + 1 := ⟨l.length - 1, by omega⟩
  rw [hn, linesF, if_neg h, linesF_enough n _ _ (by omega) (Nat.le_refl _)]

theorem cutAt_at (c : UInt8) : ∀ (l : List UInt8) (k : Nat), l[k]? = some c → (∀ j, j < k → l[j]? ≠ some c) → (cutAt c l).1 = l.take k ∧ (cutAt c l).2.1 = l.drop (k + 1) := by
  intro l
  induction l with
  | nil => intro k h; simp at h
  | cons b l ih =>
    intro k h hno
    cases k with
    | zero =>
      have hb : b = c := by simpa using h
      subst hb
      simp [cutAt]
    | succ k =>
      have hb : b ≠ c := fun e => hno 0 (by omega) (by simp [e])
      obtain ⟨h1, h2⟩ := ih k (by simpa using h) fun j hj he => hno (j + 1) (by omega) (by simpa using he)
      rw [cutAt, if_neg hb]
      simp [h1, h2]

theorem linesL_cut (l : List UInt8) (k : Nat) (h : l[k]? = some 10) (hno : ∀ j, j < k → l[j]? ≠ some 10) : linesL l = l.take k :: linesL (l.drop (k + 1)) := by
  obtain ⟨h1, h2⟩ := cutAt_at 10 l k h hno
  have hl : l ≠ [] := by rintro rfl; simp at h
  rw [linesL_cons l hl, h1, h2]

theorem linesL_one (l : List UInt8) (hl : l ≠ []) (hno : (10 : UInt8) ∉ l) : linesL l = [l] := by
  rw [linesL_cons l hl, cutAt_none 10 l hno, linesL_nil]

end Go.Proofs.YtkfobimigiaknaaDoor
