
/-
  A command out of a feed, as a value. Conditions: none.
-/
import Derived.Test.YtjeinldhbajknaaDvE
namespace Go.Proofs.Ytjeinldhbajknaa
open Go.RowKit Go.Sp Go.Conc

/-- the sizes of a command's numbers; those below 0 are signed -/
def sizesM (c : Nat) : List Int :=
  if 128 ≤ c ∧ c ≤ 131 then [(c : Int) - 127]
  else if c = 132 ∨ c = 137 then [4, 4]
  else if 133 ≤ c ∧ c ≤ 136 then [(c : Int) - 132]
  else if c = 139 then [4, 4, 4, 4, 4, 4, 4, 4, 4, 4, 4]
  else if 143 ≤ c ∧ c ≤ 146 then [142 - (c : Int)]
  else if 148 ≤ c ∧ c ≤ 151 then [147 - (c : Int)]
  else if 153 ≤ c ∧ c ≤ 156 then [152 - (c : Int)]
  else if 157 ≤ c ∧ c ≤ 160 then [156 - (c : Int)]
  else if 162 ≤ c ∧ c ≤ 165 then [161 - (c : Int)]
  else if 167 ≤ c ∧ c ≤ 170 then [166 - (c : Int)]
  else if 235 ≤ c ∧ c ≤ 238 then [(c : Int) - 234]
  else if 239 ≤ c ∧ c ≤ 242 then [(c : Int) - 238]
  else if 243 ≤ c ∧ c ≤ 246 then [(c : Int) - 242, 4, 4, 4, 1, 1]
  else if c = 247 then [1, 4, 4, 4, 1]
  else if c = 248 then [4, 4, 4, 4, 4, 4, 2, 2]
  else if c = 249 then [4, 1]
  else []

/-- how long its text is, if it has one -/
def textN (c : Nat) (xs : List Int) : Option Int :=
  if 239 ≤ c ∧ c ≤ 242 then some (xs.getD 0 0) else if 243 ≤ c ∧ c ≤ 246 then some (xs.getD 4 0 + xs.getD 5 0) else if c = 247 then some (xs.getD 4 0) else none
structure Cmd where
  code : Nat
  at_ : Nat
  args : List Int
  text : List UInt8
/-- what stands behind the numbers -/
def Fd.tail (c : Nat) (xs : List Int) (f : Fd) : List UInt8 × Fd :=
  match textN c xs with
  | some n => f.txt n
  | none => ([], if 249 < c then ⟨f.l, f.at_, true⟩ else f)
/-- a command -/
def Fd.cmd (f : Fd) : Cmd × Fd :=
  let r := f.next.2.args (sizesM f.next.1) []
  (⟨f.next.1, f.at_, r.1, (r.2.tail f.next.1 r.1).1⟩, (r.2.tail f.next.1 r.1).2)

theorem args_len (zs : List Int) : ∀ (acc : List Int) (f : Fd), (f.args zs acc).1.length = acc.length + zs.length := by
  induction zs with
  | nil => intro acc f; rfl
  | cons z zs ih => intro acc f; rw [Fd.args, ih]; simp only [List.length_append, List.length_cons, List.length_nil]; omega


end Go.Proofs.Ytjeinldhbajknaa
