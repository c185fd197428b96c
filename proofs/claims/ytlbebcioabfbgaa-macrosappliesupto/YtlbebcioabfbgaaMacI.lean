/-
  Define: what it makes. Conditions: none; no program in sight.
-/
import Derived.Test.YtlbebcioabfbgaaMacH
namespace Go.Proofs.Ytlbebcioabfbgaa
open Go.RowKit Go.Sp

def brace : Tok := ⟨1, 123, ByteArray.empty⟩
def placeT (n : Nat) : Tok := ⟨17, UInt8.ofNat n, ByteArray.empty⟩

/-- the pattern: what it becomes, how many places, is it open? -/
def defP (n : Nat) : List Tok → Option (List Tok × Nat × Bool)
  | [] => some ([], n, false)
  | [t] => if t.cat = 6 then some ([brace], n, true) else some ([t], n, false)
  | t :: d :: r => if t.cat = 6 then (if digitT d = n + 1 then (defP (n + 1) r).map fun x => (placeT (n + 1) :: x.1, x.2) else none)
      else (defP n (d :: r)).map fun x => (t :: x.1, x.2)

def defB (n : Nat) : List Tok → Option (List Tok)
  | [] => some []
  | [t] => if t.cat = 6 then none else some [t]
  | t :: d :: r => if t.cat = 6 then (if d.cat = 6 then (defB n r).map fun x => d :: x else if 1 ≤ digitT d ∧ digitT d ≤ n then (defB n r).map fun x => placeT (digitT d) :: x else none)
      else (defB n (d :: r)).map fun x => t :: x

def finP (acc : List Tok) (o : Bool) (x : Option (List Tok × Nat × Bool)) : Option (List Tok × Nat × Bool) := x.map fun x => (acc ++ x.1, x.2.1, o || x.2.2)
def finB (acc : List Tok) (x : Option (List Tok)) : Option (List Tok) := x.map fun x => acc ++ x

theorem finP_0 (x : Option (List Tok × Nat × Bool)) : finP [] false x = x := by cases x <;> simp [finP]
theorem finB_0 (x : Option (List Tok)) : finB [] x = x := by cases x <;> simp [finB]

variable {P B : List Tok} {k n : Nat} {acc : List Tok} {o : Bool}

theorem defP_plain (hk : k < P.length) (h : P[k].cat ≠ 6) : finP acc o (defP n (P.drop k)) = finP (acc ++ [P[k]]) o (defP n (P.drop (k + 1))) := by
  rw [List.drop_eq_getElem_cons hk]
  cases hd : P.drop (k + 1) with
  | nil => simp [defP, h, finP]
  | cons d r =>
    rw [defP, if_neg h]
    cases defP n (d :: r) <;> simp [finP]

theorem defP_last (hk : k + 1 = P.length) (h : P[k].cat = 6) : finP acc o (defP n (P.drop k)) = finP (acc ++ [brace]) true (defP n (P.drop (k + 1))) := by
  rw [List.drop_eq_getElem_cons (by omega), List.drop_of_length_le (i := k + 1) (by omega)]
  simp [defP, h, finP]

theorem defP_place (hk : k + 1 < P.length) (h : P[k].cat = 6) (hd : digitT P[k + 1] = n + 1) : finP acc o (defP n (P.drop k)) = finP (acc ++ [placeT (n + 1)]) o (defP (n + 1) (P.drop (k + 2))) := by
  rw [List.drop_eq_getElem_cons (by omega), List.drop_eq_getElem_cons (i := k + 1) (by omega), defP, if_pos h, if_pos hd]
  cases defP (n + 1) (P.drop (k + 1 + 1)) <;> simp [finP]

theorem defP_bad (hk : k + 1 < P.length) (h : P[k].cat = 6) (hd : digitT P[k + 1] ≠ n + 1) : finP acc o (defP n (P.drop k)) = none := by
  rw [List.drop_eq_getElem_cons (by omega), List.drop_eq_getElem_cons (i := k + 1) (by omega), defP, if_pos h, if_neg hd]
  rfl

theorem defB_plain (hk : k < B.length) (h : B[k].cat ≠ 6) : finB acc (defB n (B.drop k)) = finB (acc ++ [B[k]]) (defB n (B.drop (k + 1))) := by
  rw [List.drop_eq_getElem_cons hk]
  cases hd : B.drop (k + 1) with
  | nil => simp [defB, h, finB]
  | cons d r =>
    rw [defB, if_neg h]
    cases defB n (d :: r) <;> simp [finB]

theorem defB_last (hk : k + 1 = B.length) (h : B[k].cat = 6) : finB acc (defB n (B.drop k)) = none := by
  rw [List.drop_eq_getElem_cons (by omega), List.drop_of_length_le (i := k + 1) (by omega)]
  simp [defB, h, finB]

theorem defB_hash (hk : k + 1 < B.length) (h : B[k].cat = 6) (hd : B[k + 1].cat = 6) : finB acc (defB n (B.drop k)) = finB (acc ++ [B[k + 1]]) (defB n (B.drop (k + 2))) := by
  rw [List.drop_eq_getElem_cons (by omega), List.drop_eq_getElem_cons (i := k + 1) (by omega), defB, if_pos h, if_pos hd]
  cases defB n (B.drop (k + 1 + 1)) <;> simp [finB]

theorem defB_place (hk : k + 1 < B.length) (h : B[k].cat = 6) (h2 : B[k + 1].cat ≠ 6) (hd : 1 ≤ digitT B[k + 1] ∧ digitT B[k + 1] ≤ n) :
    finB acc (defB n (B.drop k)) = finB (acc ++ [placeT (digitT B[k + 1])]) (defB n (B.drop (k + 2))) := by
  rw [List.drop_eq_getElem_cons (by omega), List.drop_eq_getElem_cons (i := k + 1) (by omega), defB, if_pos h, if_neg h2, if_pos hd]
  cases defB n (B.drop (k + 1 + 1)) <;> simp [finB]

theorem defB_bad (hk : k + 1 < B.length) (h : B[k].cat = 6) (h2 : B[k + 1].cat ≠ 6) (hd : ¬ (1 ≤ digitT B[k + 1] ∧ digitT B[k + 1] ≤ n)) : finB acc (defB n (B.drop k)) = none := by
  rw [List.drop_eq_getElem_cons (by omega), List.drop_eq_getElem_cons (i := k + 1) (by omega), defB, if_pos h, if_neg h2, if_neg hd]
  rfl

theorem digitAt_in (h : k < P.length) : digitAt P k = digitT P[k] := by simp [digitAt, h]
theorem digitAt_out (h : ¬ k < P.length) : digitAt P k = 0 := by simp [digitAt, List.getElem?_eq_none (Nat.le_of_not_lt h)]
theorem digitT_le (t : Tok) : digitT t ≤ 9 := by unfold digitT; split <;> omega
theorem placeT_chr {d : Nat} (h : d ≤ 9) : ((placeT d).chr.toNat : Int) = d := by
  simp [placeT, UInt8.toNat_ofNat']; omega

def isBrace (t : Tok) : Bool := t.cat == 1 || t.cat == 2

/-- what Define answers: the pattern, the body, Long, the error's number -/
structure Def where
  P : List Tok
  B : List Tok
  long : Bool
  e : Int

def Def.no (e : Int) : Def := ⟨[], [], false, e⟩

def bodyO (o : Bool) (B : List Tok) : List Tok := if o then B ++ [brace] else B

def define (P B : List Tok) (long : Bool) : Def :=
  if ¬ (P.length ≤ 20000 ∧ B.length ≤ 20000) then .no 6
  else if (P.all rightB && B.all rightB) = false then .no 160
  else if P.any isBrace then .no 173
  else if bal B = false then .no 173
  else match defP 0 P with
    | none => .no 170
    | some x => match defB x.2.1 B with
      | none => .no 170
      | some B' => if 20000 < (bodyO x.2.2 B').length then .no 6 else ⟨x.1, bodyO x.2.2 B', long, 0⟩

end Go.Proofs.Ytlbebcioabfbgaa
