/-
  Match, Apply, Expand: what they answer. Conditions: none; no program in sight.
-/
import Derived.Test.YtlbebcioabfbgaaMacC
namespace Go.Proofs.Ytlbebcioabfbgaa
open Go.RowKit Go.Sp

def isPar (t : Tok) : Bool := t.cat == 16 && (t.name.toList == [112, 97, 114])

def spaces : List Tok → Nat
  | [] => 0
  | t :: r => if t.cat = 10 then spaces r + 1 else 0

/-- to the end of a group: how many tokens, is a par among them? -/
def grp (d : Int) (p : Bool) : List Tok → Option (Nat × Bool)
  | [] => none
  | t :: r => if stepD d t = 0 then some (1, p || isPar t) else (grp (stepD d t) (p || isPar t) r).map fun x => (x.1 + 1, x.2)

def plainM (long : Bool) (S : List Tok) : Except Int (List Tok × Nat) :=
  match S.drop (spaces S) with
  | [] => .error 172
  | t :: r =>
    if t.cat = 2 then .error 173
    else if t.cat = 1 then
      match grp 0 false (t :: r) with
      | none => .error 172
      | some x => if x.2 && !long then .error 171 else .ok (r.take (x.1 - 2), spaces S + x.1)
    else if isPar t && !long then .error 171 else .ok ([t], spaces S + 1)

/-- with delimiters: how many tokens, how often a balanced list came to its end, and did the last one begin with a brace? -/
def delR (D : List Tok) (long : Bool) (deep : Int) (whole : Nat) (op : Bool) : List Tok → Except Int (Nat × Nat × Bool)
  | [] => .error 172
  | t :: r =>
    if ¬ 0 < deep ∧ D.isPrefixOf (t :: r) = true then .ok (0, whole, op)
    else if t.cat = 2 ∧ deep = 0 then .error 173
    else if isPar t && !long then .error 171
    else (delR D long (stepD deep t) (if deep = 0 then whole + 1 else whole) (if deep = 0 then t.cat == 1 else op) r).map fun x => (x.1 + 1, x.2)

def strip (whole : Nat) (op : Bool) (A : List Tok) : List Tok := if whole = 1 ∧ op = true ∧ 2 ≤ A.length then (A.drop 1).take (A.length - 2) else A

def delM (D : List Tok) (long : Bool) (S : List Tok) : Except Int (List Tok × Nat) :=
  (delR D long 0 0 false S).map fun x => (strip x.2.1 x.2.2 (S.take x.1), x.1 + D.length)

def argM (long : Bool) (D S : List Tok) : Except Int (List Tok × Nat) := if D = [] then plainM long S else delM D long S

def argsM (long : Bool) : List (List Tok) → List Tok → Except Int (List (List Tok) × Nat)
  | [], _ => .ok ([], 0)
  | D :: r, S => match argM long D S with
    | .error e => .error e
    | .ok x => (argsM long r (S.drop x.2)).map fun y => (x.1 :: y.1, x.2 + y.2)

/-- the tokens ahead of the first place; each place's delimiters -/
def parts : List Tok → List Tok × List (List Tok)
  | [] => ([], [])
  | t :: r => if t.cat = 17 then ([], (parts r).1 :: (parts r).2) else (t :: (parts r).1, (parts r).2)

/-- tokens that must come: 0, or the error -/
def preM : List Tok → List Tok → Int
  | [], _ => 0
  | _ :: _, [] => 172
  | x :: r, y :: s => if y = x then preM r s else 171

/-- how many tokens the text with arguments has -/
def sizeM (A : List (List Tok)) : List Tok → Nat
  | [] => 0
  | t :: r => (if t.cat = 17 then (A.getD (t.chr.toNat - 1) []).length else 1) + sizeM A r

def subst (A : List (List Tok)) : List Tok → List Tok
  | [] => []
  | t :: r => (if t.cat = 17 then A.getD (t.chr.toNat - 1) [] else [t]) ++ subst A r

theorem subst_length (A : List (List Tok)) (B : List Tok) : (subst A B).length = sizeM A B := by
  induction B with
  | nil => rfl
  | cons t r ih => simp only [subst, sizeM, List.length_append, ih]; split <;> rfl

end Go.Proofs.Ytlbebcioabfbgaa
