import Derived.Test.YticljfpippbkkaaDoorMNB
/-
  Numbers out of tokens, as values. Conditions: none.
-/
namespace Go.Proofs.YticljfpippbkkaaDoor
open Go.RowKit Go.Sp

/-- what a token means -/
def meansM (S : TabS) (x : Tok) : Mean := if x.cat = 16 then lookN S.names x.name else if x.cat = 13 then lookN S.names ⟨#[x.chr]⟩ else mean0
/-- letters of a keyword -/
def keyGo : List UInt8 → List Tok → Option (List Tok)
  | [], l => some l
  | _ :: _, [] => none
  | c :: cs, x :: l => if (x.cat = 11 ∨ x.cat = 12) ∧ (x.chr = c ∨ x.chr = c - 97 + 65) then keyGo cs l else none
def blanksM : List Tok → List Tok
  | [] => []
  | x :: l => if blankB x = true then blanksM l else x :: l
/-- a keyword, and what is left behind it -/
def keyM (w : List UInt8) (l : List Tok) : Option (List Tok) := keyGo w (blanksM l)
def signsM : List Tok → Bool → Bool × List Tok
  | [], m => (m, [])
  | x :: l, m => if otherB x 45 = true then signsM l (!m) else if blankB x = true ∨ otherB x 43 = true then signsM l m else (m, x :: l)
def digitM (x : Tok) (base : Int) : Option Int :=
  if x.cat = 12 ∧ 48 ≤ (x.chr.toNat : Int) ∧ (x.chr.toNat : Int) ≤ 57 ∧ (x.chr.toNat : Int) - 48 < base then some ((x.chr.toNat : Int) - 48)
  else if base = 16 ∧ (x.cat = 12 ∨ x.cat = 11) ∧ 65 ≤ (x.chr.toNat : Int) ∧ (x.chr.toNat : Int) ≤ 70 then some ((x.chr.toNat : Int) - 65 + 10)
  else none
def minM (a b : Int) : Int := if b < a then b else a
def maxM (a b : Int) : Int := if a < b then b else a
/-- digits, the number, how many -/
def digitsM (base : Int) : List Tok → Int → Int → Int × Int × List Tok
  | [], n, k => (n, k, [])
  | x :: l, n, k => match digitM x base with
    | some d => digitsM base l (minM (n * base + d) 1099511627776) (k + 1)
    | none => (n, k, x :: l)
/-- digits to a base: the number, an error, what is left -/
def basedM (base : Int) (l : List Tok) : Int × Int × List Tok :=
  let r := digitsM base l 0 0
  if r.2.1 = 0 then (0, 180, r.2.2) else if 2147483647 < r.1 then (0, 20, optM r.2.2) else (r.1, 0, optM r.2.2)
def quotedM : List Tok → Int × Int × List Tok
  | [] => (0, 180, [])
  | x :: l => if x.cat = 16 then (if x.name.size = 1 then ((x.name.data.getD 0 0).toNat, 0, optM l) else (0, 180, x :: l)) else (x.chr.toNat, 0, optM l)
/-- an integer that is not of digits to the base 10: the number, does one come, an error, what is left -/
def plainM (S : TabS) : List Tok → Int × Bool × Int × List Tok
  | [] => (0, false, 0, [])
  | x :: l =>
    if (meansM S x).kind = 3 then ((meansM S x).code, true, 0, l)
    else if otherB x 96 = true then ((quotedM l).1, true, (quotedM l).2.1, (quotedM l).2.2)
    else if otherB x 39 = true then ((basedM 8 l).1, true, (basedM 8 l).2.1, (basedM 8 l).2.2)
    else if otherB x 34 = true then ((basedM 16 l).1, true, (basedM 16 l).2.1, (basedM 16 l).2.2)
    else (0, false, 0, x :: l)
def turnM (n : Int) (m : Bool) : Int := if m = true then wrap64 (-n) else n
/-- a register as a number -/
def worthM (S : TabS) (c i : Int) : Int := if c = 3 then (getV S c i).g.nat else (getV S c i).n
/-- a register's class that a meaning tells; 0: none -/
def classM (m : Mean) : Int := if m.kind = 1 then (if m.text = ⟨#[99, 111, 117, 110, 116]⟩ then 1 else if m.text = ⟨#[100, 105, 109, 101, 110]⟩ then 2 else if m.text = ⟨#[115, 107, 105, 112]⟩ then 3 else 0) else 0
/-- what follows a register's name -/
def regEnd (c : Int) (r : Int × Int × List Tok) : Int × Int × Bool × Int × List Tok :=
  if r.2.1 ≠ 0 then (0, 0, false, r.2.1, r.2.2) else if r.1 < 0 ∨ 256 ≤ r.1 then (0, 0, false, 11, r.2.2) else (c, r.1, true, 0, r.2.2)
/-- an integer behind signs, where no register comes -/
def intPlain (S : TabS) (m : Bool) (l : List Tok) : Int × Int × List Tok :=
  let p := plainM S l
  if p.2.1 = false ∧ p.2.2.1 = 0 then
    (if (basedM 10 p.2.2.2).2.1 ≠ 0 then (0, (basedM 10 p.2.2.2).2.1, (basedM 10 p.2.2.2).2.2) else (turnM (basedM 10 p.2.2.2).1 m, 0, (basedM 10 p.2.2.2).2.2))
  else if p.2.2.1 ≠ 0 then (0, p.2.2.1, p.2.2.2) else (turnM p.1 m, 0, p.2.2.2)
/-- an integer behind signs, where a register's answer is known -/
def intEnd (S : TabS) (m : Bool) (r : Int × Int × Bool × Int × List Tok) : Int × Int × List Tok :=
  if r.2.2.2.1 ≠ 0 then (0, r.2.2.2.1, r.2.2.2.2)
  else if r.2.2.1 = true then (turnM (worthM S r.1 r.2.1) m, 0, r.2.2.2.2)
  else intPlain S m r.2.2.2.2
/-- a register: its class, its number, does one come, an error, what is left -/
def regM (S : TabS) : Nat → List Tok → Int × Int × Bool × Int × List Tok
  | 0, l => (0, 0, false, 0, l)
  | _ + 1, [] => (0, 0, false, 0, [])
  | n + 1, x :: l =>
    if (meansM S x).kind = 4 ∧ (meansM S x).cls ≤ 3 then ((meansM S x).cls, (meansM S x).code, true, 0, l)
    else if classM (meansM S x) = 0 then (0, 0, false, 0, x :: l)
    else regEnd (classM (meansM S x)) (intEnd S (signsM l false).1 (regM S n (signsM l false).2))
def registerM (S : TabS) (l : List Tok) : Int × Int × Bool × Int × List Tok := regM S (l.length + 1) l
/-- an integer: the number, an error, what is left -/
def integerM (S : TabS) (l : List Tok) : Int × Int × List Tok := intEnd S (signsM l false).1 (registerM S (signsM l false).2)

theorem signs_len : ∀ (l : List Tok) (m : Bool), (signsM l m).2.length ≤ l.length
  | [], _ => Nat.le_refl _
  | x :: l, m => by
    unfold signsM
    split
    · have := signs_len l (!m); simp only [List.length_cons]; omega
    · split
      · have := signs_len l m; simp only [List.length_cons]; omega
      · exact Nat.le_refl _
theorem regM_more (S : TabS) : ∀ (n k : Nat) (l : List Tok), l.length < n → l.length < k → regM S n l = regM S k l
  | 0, _, _, h, _ => by omega
  | _ + 1, 0, _, _, h => by omega
  | n + 1, k + 1, [], _, _ => rfl
  | n + 1, k + 1, x :: l, h1, h2 => by
    have hs := signs_len l false
    simp only [List.length_cons] at h1 h2
    unfold regM
    rw [regM_more S n k _ (by omega) (by omega)]
theorem registerM_nil (S : TabS) : registerM S [] = (0, 0, false, 0, []) := rfl
theorem registerM_cons (S : TabS) (x : Tok) (l : List Tok) : registerM S (x :: l) = if (meansM S x).kind = 4 ∧ (meansM S x).cls ≤ 3 then ((meansM S x).cls, (meansM S x).code, true, 0, l)
    else if classM (meansM S x) = 0 then (0, 0, false, 0, x :: l) else regEnd (classM (meansM S x)) (integerM S l) := by
  unfold registerM integerM registerM
  rw [regM, regM_more S ((x :: l).length) ((signsM l false).2.length + 1) _ (by have := signs_len l false; simp only [List.length_cons]; omega) (by omega)]

/-! ### dimensions -/
structure Fac where
  i : Int
  f : Int
  minus : Bool
/-- digits behind a point -/
def fracGo : List Tok → List UInt8 × List Tok
  | [] => ([], [])
  | x :: l => match digitM x 10 with
    | some _ => (x.chr :: (fracGo l).1, (fracGo l).2)
    | none => ([], x :: l)
def decGo : List UInt8 → Int
  | [] => 0
  | c :: t => (decGo t + 131072 * ((c.toNat : Int) - 48)).tdiv 10
def decsM (t : List UInt8) : Int := (decGo (t.take 17) + 1).tdiv 2
/-- digits with a point among them: the factor, do some come, what is left -/
def decimalM (l : List Tok) : Fac × Bool × List Tok :=
  let r := digitsM 10 l 0 0
  match r.2.2 with
  | [] => (⟨r.1, 0, false⟩, decide (0 < r.2.1), [])
  | c :: l2 => if otherB c 46 = true ∨ otherB c 44 = true then (⟨r.1, decsM (fracGo l2).1, false⟩, decide (0 < r.2.1 + ((fracGo l2).1.length : Int)), (fracGo l2).2)
    else (⟨r.1, 0, false⟩, decide (0 < r.2.1), c :: l2)
/-- where neither a register nor an error has come -/
def facPlain (S : TabS) (minus : Bool) (l : List Tok) : Fac × Bool × Int × List Tok :=
  let p := plainM S l
  if p.2.2.1 ≠ 0 then (⟨0, 0, false⟩, false, p.2.2.1, p.2.2.2)
  else if p.2.1 = true then (⟨p.1, 0, minus⟩, false, 0, p.2.2.2)
  else
    let d := decimalM p.2.2.2
    if d.2.1 = true then (⟨d.1.i, d.1.f, minus⟩, false, 0, d.2.2) else (d.1, false, 180, d.2.2)
/-- a factor: is it all, an error, what is left -/
def factorM (S : TabS) (minus : Bool) (l : List Tok) : Fac × Bool × Int × List Tok :=
  let r := registerM S l
  if r.2.2.2.1 ≠ 0 then (⟨0, 0, false⟩, false, r.2.2.2.1, r.2.2.2.2)
  else if r.2.2.1 = true then
    let n := turnM (worthM S r.1 r.2.1) minus
    (if r.1 ≠ 1 then (⟨n, 0, false⟩, true, 0, r.2.2.2.2) else (⟨maxM n (wrap64 (-n)), 0, decide (n < 0)⟩, false, 0, r.2.2.2.2))
  else facPlain S minus r.2.2.2.2
def dimM (n : Int) : Int × Int := if n < -1073741823 ∨ 1073741823 < n then (0, 20) else (n, 0)
def filB : List UInt8 := [102, 105, 108]
def elB : List UInt8 := [108]
/-- the order of fil; 0: none comes -/
def filM (l : List Tok) : Int × List Tok :=
  match keyM filB l with
  | none => (0, l)
  | some l1 => match keyM elB l1 with
    | none => (1, l1)
    | some l2 => match keyM elB l2 with
      | none => (2, l2)
      | some l3 => (3, l3)
def farB (x : Int) : Bool := decide (x < -2147483647) || decide (2147483647 < x)
def fracM (v f : Int) : Int × Int := if farB v = true ∨ farB f = true then (0, 11) else if f < 0 then (0, 1) else dimM ((wrap64 (v * f)).tdiv 65536)
def timesM (x : Fac) (v : Int) : Int × Int :=
  if v = 0 then (0, 0) else if 2147483647 < x.i then (0, 20)
  else if (fracM v x.f).2 ≠ 0 then (0, 20)
  else if (1099511627776 : Int).tdiv (maxM v (wrap64 (-v))) < x.i then (0, 20)
  else dimM (turnM (wrap64 (wrap64 (x.i * v) + (fracM v x.f).1)) x.minus)
def measureM (x : Fac) (n d : Int) : Int × Int :=
  if 2147483647 < x.i then (0, 20)
  else
    let g := (wrap64 (wrap64 (n * x.f) + wrap64 (65536 * (wrap64 (x.i * n)).tmod d))).tdiv d
    dimM (turnM (wrap64 (wrap64 (65536 * wrap64 ((wrap64 (x.i * n)).tdiv d + g.tdiv 65536)) + g.tmod 65536)) x.minus)
def spM (x : Fac) : Int × Int := if 2147483647 < x.i then (0, 20) else dimM (turnM x.i x.minus)
/-- the units in their order: name, numerator, denominator -/
def unitsL : List (List UInt8 × Int × Int) :=
  [([112, 116], 1, 1), ([105, 110], 7227, 100), ([112, 99], 12, 1), ([99, 109], 7227, 254), ([109, 109], 7227, 2540), ([98, 112], 7227, 7200), ([100, 100], 1238, 1157), ([99, 99], 14856, 1157), ([115, 112], 0, 0)]
def measuredM (x : Fac) (u : List UInt8 × Int × Int) : Int × Int := if u.2.2 = 0 then spM x else measureM x u.2.1 u.2.2
/-- the first unit that comes -/
def unitGo (x : Fac) (l1 : List Tok) : List (List UInt8 × Int × Int) → Option (Int × Int × List Tok)
  | [] => none
  | u :: us => match keyM u.1 l1 with
    | some l2 => some ((measuredM x u).1, (measuredM x u).2, optM l2)
    | none => unitGo x l1 us
def unitM (S : TabS) (x : Fac) (l : List Tok) : Int × Int × List Tok :=
  let r := registerM S (blanksM l)
  if r.2.2.2.1 ≠ 0 then (0, r.2.2.2.1, r.2.2.2.2)
  else if r.2.2.1 = true then ((timesM x (worthM S r.1 r.2.1)).1, (timesM x (worthM S r.1 r.2.1)).2, r.2.2.2.2)
  else match unitGo x (blanksM l) unitsL with
    | some y => y
    | none => (0, 21, l)
/-- behind a factor -/
def sizeEnd (S : TabS) (fils : Bool) (x : Fac) (l : List Tok) : Int × Int × Int × List Tok :=
  if fils = true ∧ 0 < (filM l).1 then
    (if 2147483647 < x.i then (0, 0, 20, optM (filM l).2)
     else ((dimM (turnM (wrap64 (wrap64 (x.i * 65536) + x.f)) x.minus)).1, (filM l).1, (dimM (turnM (wrap64 (wrap64 (x.i * 65536) + x.f)) x.minus)).2, optM (filM l).2))
  else ((unitM S x l).1, 0, (unitM S x l).2.1, (unitM S x l).2.2)
/-- a dimension: the number, its order, an error, what is left -/
def sizeM (S : TabS) (minus fils : Bool) (l : List Tok) : Int × Int × Int × List Tok :=
  let r := factorM S minus l
  if r.2.2.1 ≠ 0 then (0, 0, r.2.2.1, r.2.2.2)
  else if r.2.1 = true then ((dimM r.1.i).1, 0, (dimM r.1.i).2, r.2.2.2)
  else sizeEnd S fils r.1 r.2.2.2
def dimenM (S : TabS) (l : List Tok) : Int × Int × List Tok :=
  let r := sizeM S (signsM l false).1 false (signsM l false).2
  (r.1, r.2.2.1, r.2.2.2)
def partM (S : TabS) (w : List UInt8) (l : List Tok) : Int × Int × Int × List Tok :=
  match keyM w l with
  | none => (0, 0, 0, l)
  | some l1 =>
    let r := sizeM S (signsM l1 false).1 true (signsM l1 false).2
    (r.1, if r.1 = 0 then 0 else r.2.1, r.2.2.1, r.2.2.2)
def skipB (m : Mean) : Bool := (decide (m.kind = 4) && decide (m.cls = 3)) || (decide (m.kind = 1) && decide (m.text = ⟨#[115, 107, 105, 112]⟩))
def glz : Gl := ⟨0, 0, 0, 0, 0⟩
/-- the negative of a glue -/
def negG (g : Gl) : Gl := if glueB g = true then ⟨-g.nat, -g.stretch, -g.shrink, if g.stretch = 0 then 0 else g.so, if g.shrink = 0 then 0 else g.ko⟩ else glz
def headM (S : TabS) : List Tok → Bool
  | [] => false
  | x :: _ => skipB (meansM S x)
def plusB : List UInt8 := [112, 108, 117, 115]
def minusB : List UInt8 := [109, 105, 110, 117, 115]

/-- glue that a register tells (negative: by neg), or its natural size: is it all, an error, what is left -/
def startM (S : TabS) (minus : Bool) (l : List Tok) : Gl × Bool × Int × List Tok :=
  if headM S l = true then
    let r := registerM S l
    if r.2.2.2.1 ≠ 0 then (glz, false, r.2.2.2.1, r.2.2.2.2)
    else (if minus = true then negG (getV S 3 r.2.1).g else (getV S 3 r.2.1).g, true, 0, r.2.2.2.2)
  else
    let r := sizeM S minus false l
    (⟨r.1, 0, 0, 0, 0⟩, false, r.2.2.1, r.2.2.2)
def glueEnd (S : TabS) (n : Int) (l : List Tok) : Gl × Int × List Tok :=
  let p := partM S plusB l
  if p.2.2.1 ≠ 0 then (glz, p.2.2.1, p.2.2.2)
  else
    let q := partM S minusB p.2.2.2
    if q.2.2.1 ≠ 0 then (glz, q.2.2.1, q.2.2.2) else (⟨n, p.1, q.1, p.2.1, q.2.1⟩, 0, q.2.2.2)
def glueM (S : TabS) (l : List Tok) : Gl × Int × List Tok :=
  let r := startM S (signsM l false).1 (signsM l false).2
  if r.2.2.1 ≠ 0 ∨ r.2.1 = true then (r.1, r.2.2.1, r.2.2.2) else glueEnd S r.1.nat r.2.2.2
theorem blanks_len : ∀ (l : List Tok), (blanksM l).length ≤ l.length
  | [] => Nat.le_refl _
  | x :: l => by
    unfold blanksM
    split
    · have := blanks_len l; simp only [List.length_cons]; omega
    · exact Nat.le_refl _
theorem keyGo_len : ∀ (w : List UInt8) (l l' : List Tok), keyGo w l = some l' → l'.length ≤ l.length
  | [], l, l', h => by simp [keyGo] at h; rw [h]; exact Nat.le_refl _
  | _ :: _, [], l', h => by simp [keyGo] at h
  | c :: cs, x :: l, l', h => by
    unfold keyGo at h
    split at h
    · have := keyGo_len cs l l' h; simp only [List.length_cons]; omega
    · cases h
theorem keyM_len {w : List UInt8} {l l' : List Tok} (h : keyM w l = some l') : l'.length ≤ l.length := Nat.le_trans (keyGo_len w _ l' h) (blanks_len l)
theorem digits_len (base : Int) : ∀ (l : List Tok) (n k : Int), (digitsM base l n k).2.2.length ≤ l.length
  | [], _, _ => Nat.le_refl _
  | x :: l, n, k => by
    unfold digitsM
    cases digitM x base with
    | none => exact Nat.le_refl _
    | some d => have := digits_len base l (minM (n * base + d) 1099511627776) (k + 1); simp only [List.length_cons]; omega
theorem opt_len : ∀ l : List Tok, (optM l).length ≤ l.length
  | [] => Nat.le_refl _
  | x :: l => by
    rw [optM]
    split
    · simp
    · exact Nat.le_refl _
theorem based_len (base : Int) (l : List Tok) : (basedM base l).2.2.length ≤ l.length := by
  have h1 := digits_len base l 0 0
  have h2 := opt_len (digitsM base l 0 0).2.2
  unfold basedM
  simp only
  split
  · exact h1
  · split <;> (simp only; omega)
theorem quoted_len : ∀ l : List Tok, (quotedM l).2.2.length ≤ l.length
  | [] => Nat.le_refl _
  | x :: l => by
    have := opt_len l
    rw [quotedM]
    split
    · split <;> simp only [List.length_cons] <;> omega
    · simp only [List.length_cons]; omega
theorem plain_len (S : TabS) : ∀ l : List Tok, (plainM S l).2.2.2.length ≤ l.length
  | [] => Nat.le_refl _
  | x :: l => by
    have h1 := quoted_len l
    have h2 := based_len 8 l
    have h3 := based_len 16 l
    rw [plainM]
    repeat' split
    all_goals simp only [List.length_cons]; omega
theorem intPlain_len (S : TabS) (m : Bool) (l : List Tok) : (intPlain S m l).2.2.length ≤ l.length := by
  have h1 := plain_len S l
  have h2 := based_len 10 (plainM S l).2.2.2
  unfold intPlain
  simp only
  repeat' split
  all_goals (simp only; omega)
theorem intEnd_len (S : TabS) (m : Bool) (r : Int × Int × Bool × Int × List Tok) : (intEnd S m r).2.2.length ≤ r.2.2.2.2.length := by
  have h1 := intPlain_len S m r.2.2.2.2
  unfold intEnd
  repeat' split
  all_goals (first | exact Nat.le_refl _ | exact h1)
theorem regM_len (S : TabS) : ∀ (n : Nat) (l : List Tok), (regM S n l).2.2.2.2.length ≤ l.length
  | 0, _ => Nat.le_refl _
  | _ + 1, [] => Nat.le_refl _
  | n + 1, x :: l => by
    have h1 := signs_len l false
    have h2 := regM_len S n (signsM l false).2
    have h3 := intEnd_len S (signsM l false).1 (regM S n (signsM l false).2)
    unfold regM regEnd
    repeat' split
    all_goals (simp only [List.length_cons]; omega)
theorem register_len (S : TabS) (l : List Tok) : (registerM S l).2.2.2.2.length ≤ l.length := regM_len S _ l
theorem integer_len (S : TabS) (l : List Tok) : (integerM S l).2.2.length ≤ l.length := by
  have h1 := signs_len l false
  have h2 := register_len S (signsM l false).2
  have h3 := intEnd_len S (signsM l false).1 (registerM S (signsM l false).2)
  unfold integerM
  omega
theorem frac_len : ∀ l : List Tok, (fracGo l).2.length ≤ l.length ∧ (fracGo l).1.length ≤ l.length
  | [] => ⟨Nat.le_refl _, Nat.le_refl _⟩
  | x :: l => by
    have := frac_len l
    unfold fracGo
    cases digitM x 10 with
    | none => exact ⟨Nat.le_refl _, Nat.zero_le _⟩
    | some d => simp only [List.length_cons]; omega
theorem decimal_len (l : List Tok) : (decimalM l).2.2.length ≤ l.length := by
  have h1 := digits_len 10 l 0 0
  unfold decimalM
  simp only
  cases h : (digitsM 10 l 0 0).2.2 with
  | nil => simp
  | cons c l2 =>
    rw [h] at h1
    have := frac_len l2
    simp only [List.length_cons] at h1
    simp only
    split <;> simp only [List.length_cons] <;> omega
theorem facPlain_len (S : TabS) (m : Bool) (l : List Tok) : (facPlain S m l).2.2.2.length ≤ l.length := by
  have h1 := plain_len S l
  have h2 := decimal_len (plainM S l).2.2.2
  unfold facPlain
  simp only
  repeat' split
  all_goals (simp only; omega)
theorem factor_len (S : TabS) (m : Bool) (l : List Tok) : (factorM S m l).2.2.2.length ≤ l.length := by
  have h1 := register_len S l
  have h2 := facPlain_len S m (registerM S l).2.2.2.2
  unfold factorM
  simp only
  split
  · exact h1
  · split
    · split <;> exact h1
    · exact Nat.le_trans h2 h1
theorem fil_len (l : List Tok) : (filM l).2.length ≤ l.length := by
  unfold filM
  cases h1 : keyM filB l with
  | none => exact Nat.le_refl _
  | some l1 =>
    have k1 := keyM_len h1
    simp only
    cases h2 : keyM elB l1 with
    | none => exact k1
    | some l2 =>
      have k2 := keyM_len h2
      simp only
      cases h3 : keyM elB l2 with
      | none => show l2.length ≤ l.length; omega
      | some l3 => have k3 := keyM_len h3; show l3.length ≤ l.length; omega
theorem unitGo_len (x : Fac) (l : List Tok) : ∀ (us : List (List UInt8 × Int × Int)) (y : Int × Int × List Tok), unitGo x l us = some y → y.2.2.length ≤ l.length
  | [], y, h => by simp [unitGo] at h
  | u :: us, y, h => by
    unfold unitGo at h
    cases hk : keyM u.1 l with
    | none => rw [hk] at h; exact unitGo_len x l us y h
    | some l2 =>
      rw [hk] at h
      simp only [Option.some.injEq] at h
      subst h
      exact Nat.le_trans (opt_len l2) (keyM_len hk)
theorem unit_len (S : TabS) (x : Fac) (l : List Tok) : (unitM S x l).2.2.length ≤ l.length := by
  have h1 := register_len S (blanksM l)
  have h2 := blanks_len l
  unfold unitM
  simp only
  split
  · simp only; omega
  · split
    · simp only; omega
    · cases h : unitGo x (blanksM l) unitsL with
      | none => exact Nat.le_refl _
      | some y => have := unitGo_len x (blanksM l) unitsL y h; simp only; omega
theorem size_len (S : TabS) (m fils : Bool) (l : List Tok) : (sizeM S m fils l).2.2.2.length ≤ l.length := by
  have h1 := factor_len S m l
  have h2 := unit_len S (factorM S m l).1 (factorM S m l).2.2.2
  have h3 := fil_len (factorM S m l).2.2.2
  have h4 := opt_len (filM (factorM S m l).2.2.2).2
  unfold sizeM sizeEnd
  simp only
  repeat' split
  all_goals (simp only; omega)
theorem part_len (S : TabS) (w : List UInt8) (l : List Tok) : (partM S w l).2.2.2.length ≤ l.length := by
  unfold partM
  cases h : keyM w l with
  | none => exact Nat.le_refl _
  | some l1 =>
    have h1 := keyM_len h
    have h2 := signs_len l1 false
    have h3 := size_len S (signsM l1 false).1 true (signsM l1 false).2
    simp only
    omega

end Go.Proofs.YticljfpippbkkaaDoor
