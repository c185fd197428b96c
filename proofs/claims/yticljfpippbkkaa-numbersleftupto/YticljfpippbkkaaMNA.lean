import Derived.Test.YticljfpippbkkaaMNB
/-
  Numbers out of tokens, as values. Conditions: none.
-/
namespace Go.Proofs.Yticljfpippbkkaa
open Go.RowKit Go.Sp

/-- what a token means -/
def meansM (S : TabS) (x : Tok) : Mean := if x.cat = 16 then lookN S.names x.name else if x.cat = 13 then lookN S.names ⟨#[x.chr]⟩ else mean0
/-- letters of a keyword -/
def keyGo : List UInt8 → List Tok → Option (List Tok)
  | [], l => some l
  | _ :: _, [] => none
  | c :: cs, x :: l => if (x.cat = 11 ∨ x.cat = 12) ∧ (x.chr = c ∨ x.chr = c - 97 + 65) then keyGo cs l else none
def blanksM : List Tok → List Tok
  | [] => []
  | x :: l => if blankB x = true then blanksM l else x :: l
/-- a keyword, and what is left behind it -/
def keyM (w : List UInt8) (l : List Tok) : Option (List Tok) := keyGo w (blanksM l)
def signsM : List Tok → Bool → Bool × List Tok
  | [], m => (m, [])
  | x :: l, m => if otherB x 45 = true then signsM l (!m) else if blankB x = true ∨ otherB x 43 = true then signsM l m else (m, x :: l)
def digitM (x : Tok) (base : Int) : Option Int :=
  if x.cat = 12 ∧ 48 ≤ (x.chr.toNat : Int) ∧ (x.chr.toNat : Int) ≤ 57 ∧ (x.chr.toNat : Int) - 48 < base then some ((x.chr.toNat : Int) - 48)
  else if base = 16 ∧ (x.cat = 12 ∨ x.cat = 11) ∧ 65 ≤ (x.chr.toNat : Int) ∧ (x.chr.toNat : Int) ≤ 70 then some ((x.chr.toNat : Int) - 65 + 10)
  else none
def minM (a b : Int) : Int := if b < a then b else a
def maxM (a b : Int) : Int := if a < b then b else a
/-- digits, the number, how many -/
def digitsM (base : Int) : List Tok → Int → Int → Int × Int × List Tok
  | [], n, k => (n, k, [])
  | x :: l, n, k => match digitM x base with
    | some d => digitsM base l (minM (n * base + d) 1099511627776) (k + 1)
    | none => (n, k, x :: l)
/-- digits to a base: the number, an error, what is left -/
def basedM (base : Int) (l : List Tok) : Int × Int × List Tok :=
  let r := digitsM base l 0 0
  if r.2.1 = 0 then (0, 180, r.2.2) else if 2147483647 < r.1 then (0, 20, optM r.2.2) else (r.1, 0, optM r.2.2)
def quotedM : List Tok → Int × Int × List Tok
  | [] => (0, 180, [])
  | x :: l => if x.cat = 16 then (if x.name.size = 1 then ((x.name.data.getD 0 0).toNat, 0, optM l) else (0, 180, x :: l)) else (x.chr.toNat, 0, optM l)
/-- an integer that is not of digits to the base 10: the number, does one come, an error, what is left -/
def plainM (S : TabS) : List Tok → Int × Bool × Int × List Tok
  | [] => (0, false, 0, [])
  | x :: l =>
    if (meansM S x).kind = 3 then ((meansM S x).code, true, 0, l)
    else if otherB x 96 = true then ((quotedM l).1, true, (quotedM l).2.1, (quotedM l).2.2)
    else if otherB x 39 = true then ((basedM 8 l).1, true, (basedM 8 l).2.1, (basedM 8 l).2.2)
    else if otherB x 34 = true then ((basedM 16 l).1, true, (basedM 16 l).2.1, (basedM 16 l).2.2)
    else (0, false, 0, x :: l)
def turnM (n : Int) (m : Bool) : Int := if m = true then wrap64 (-n) else n
/-- a register as a number -/
def worthM (S : TabS) (c i : Int) : Int := if c = 3 then (getV S c i).g.nat else (getV S c i).n
/-- a register's class that a meaning tells; 0: none -/
def classM (m : Mean) : Int := if m.kind = 1 then (if m.text = ⟨#[99, 111, 117, 110, 116]⟩ then 1 else if m.text = ⟨#[100, 105, 109, 101, 110]⟩ then 2 else if m.text = ⟨#[115, 107, 105, 112]⟩ then 3 else 0) else 0
/-- what follows a register's name -/
def regEnd (c : Int) (r : Int × Int × List Tok) : Int × Int × Bool × Int × List Tok :=
  if r.2.1 ≠ 0 then (0, 0, false, r.2.1, r.2.2) else if r.1 < 0 ∨ 256 ≤ r.1 then (0, 0, false, 11, r.2.2) else (c, r.1, true, 0, r.2.2)
/-- an integer behind signs, where no register comes -/
def intPlain (S : TabS) (m : Bool) (l : List Tok) : Int × Int × List Tok :=
  let p := plainM S l
  if p.2.1 = false ∧ p.2.2.1 = 0 then
    (if (basedM 10 p.2.2.2).2.1 ≠ 0 then (0, (basedM 10 p.2.2.2).2.1, (basedM 10 p.2.2.2).2.2) else (turnM (basedM 10 p.2.2.2).1 m, 0, (basedM 10 p.2.2.2).2.2))
  else if p.2.2.1 ≠ 0 then (0, p.2.2.1, p.2.2.2) else (turnM p.1 m, 0, p.2.2.2)
/-- an integer behind signs, where a register's answer is known -/
def intEnd (S : TabS) (m : Bool) (r : Int × Int × Bool × Int × List Tok) : Int × Int × List Tok :=
  if r.2.2.2.1 ≠ 0 then (0, r.2.2.2.1, r.2.2.2.2)
  else if r.2.2.1 = true then (turnM (worthM S r.1 r.2.1) m, 0, r.2.2.2.2)
  else intPlain S m r.2.2.2.2
/-- a register: its class, its number, does one come, an error, what is left -/
def regM (S : TabS) : Nat → List Tok → Int × Int × Bool × Int × List Tok
  | 0, l => (0, 0, false, 0, l)
  | _ + 1, [] => (0, 0, false, 0, [])
  | n + 1, x :: l =>
    if (meansM S x).kind = 4 ∧ (meansM S x).cls ≤ 3 then ((meansM S x).cls, (meansM S x).code, true, 0, l)
    else if classM (meansM S x) = 0 then (0, 0, false, 0, x :: l)
    else regEnd (classM (meansM S x)) (intEnd S (signsM l false).1 (regM S n (signsM l false).2))
def registerM (S : TabS) (l : List Tok) : Int × Int × Bool × Int × List Tok := regM S (l.length + 1) l
/-- an integer: the number, an error, what is left -/
def integerM (S : TabS) (l : List Tok) : Int × Int × List Tok := intEnd S (signsM l false).1 (registerM S (signsM l false).2)

theorem signs_len : ∀ (l : List Tok) (m : Bool), (signsM l m).2.length ≤ l.length
  | [], _ => Nat.le_refl _
  | x :: l, m => by
    unfold signsM
    split
    · have := signs_len l (!m); simp only [List.length_cons]; omega
    · split
      · have := signs_len l m; simp only [List.length_cons]; omega
      · exact Nat.le_refl _
theorem regM_more (S : TabS) : ∀ (n k : Nat) (l : List Tok), l.length < n → l.length < k → regM S n l = regM S k l
  | 0, _, _, h, _ => by omega
  | _ + 1, 0, _, _, h => by omega
  | n + 1, k + 1, [], _, _ => rfl
  | n + 1, k + 1, x :: l, h1, h2 => by
    have hs := signs_len l false
    simp only [List.length_cons] at h1 h2
    unfold regM
    rw [regM_more S n k _ (by omega) (by omega)]
theorem registerM_nil (S : TabS) : registerM S [] = (0, 0, false, 0, []) := rfl
theorem registerM_cons (S : TabS) (x : Tok) (l : List Tok) : registerM S (x :: l) = if (meansM S x).kind = 4 ∧ (meansM S x).cls ≤ 3 then ((meansM S x).cls, (meansM S x).code, true, 0, l)
    else if classM (meansM S x) = 0 then (0, 0, false, 0, x :: l) else regEnd (classM (meansM S x)) (integerM S l) := by
  unfold registerM integerM registerM
  rw [regM, regM_more S ((x :: l).length) ((signsM l false).2.length + 1) _ (by have := signs_len l false; simp only [List.length_cons]; omega) (by omega)]

/-! ### dimensions -/
structure Fac where
  i : Int
  f : Int
  minus : Bool
/-- digits behind a point -/
def fracGo : List Tok → List UInt8 × List Tok
  | [] => ([], [])
  | x :: l => match digitM x 10 with
    | some _ => (x.chr :: (fracGo l).1, (fracGo l).2)
    | none => ([], x :: l)
def decGo : List UInt8 → Int
  | [] => 0
  | c :: t => (decGo t + 131072 * ((c.toNat : Int) - 48)).tdiv 10
def decsM (t : List UInt8) : Int := (decGo (t.take 17) + 1).tdiv 2
/-- digits with a point among them: the factor, do some come, what is left -/
def decimalM (l : List Tok) : Fac × Bool × List Tok :=
  let r := digitsM 10 l 0 0
  match r.2.2 with
  | [] => (⟨r.1, 0, false⟩, decide (0 < r.2.1), [])
  | c :: l2 => if otherB c 46 = true ∨ otherB c 44 = true then (⟨r.1, decsM (fracGo l2).1, false⟩, decide (0 < r.2.1 + ((fracGo l2).1.length : Int)), (fracGo l2).2)
    else (⟨r.1, 0, false⟩, decide (0 < r.2.1), c :: l2)
/-- where neither a register nor an error has come -/
def facPlain (S : TabS) (minus : Bool) (l : List Tok) : Fac × Bool × Int × List Tok :=
  let p := plainM S l
  if p.2.2.1 ≠ 0 then (⟨0, 0, false⟩, false, p.2.2.1, p.2.2.2)
  else if p.2.1 = true then (⟨p.1, 0, minus⟩, false, 0, p.2.2.2)
  else
    let d := decimalM p.2.2.2
    if d.2.1 = true then (⟨d.1.i, d.1.f, minus⟩, false, 0, d.2.2) else (d.1, false, 180, d.2.2)
/-- a factor: is it all, an error, what is left -/
def factorM (S : TabS) (minus : Bool) (l : List Tok) : Fac × Bool × Int × List Tok :=
  let r := registerM S l
  if r.2.2.2.1 ≠ 0 then (⟨0, 0, false⟩, false, r.2.2.2.1, r.2.2.2.2)
  else if r.2.2.1 = true then
    let n := turnM (worthM S r.1 r.2.1) minus
    (if r.1 ≠ 1 then (⟨n, 0, false⟩, true, 0, r.2.2.2.2) else (⟨maxM n (wrap64 (-n)), 0, decide (n < 0)⟩, false, 0, r.2.2.2.2))
  else facPlain S minus r.2.2.2.2
def dimM (n : Int) : Int × Int := if n < -1073741823 ∨ 1073741823 < n then (0, 20) else (n, 0)
def filB : List UInt8 := [102, 105, 108]
def elB : List UInt8 := [108]
/-- the order of fil; 0: none comes -/
def filM (l : List Tok) : Int × List Tok :=
  match keyM filB l with
  | none => (0, l)
  | some l1 => match keyM elB l1 with
    | none => (1, l1)
    | some l2 => match keyM elB l2 with
      | none => (2, l2)
      | some l3 => (3, l3)
def farB (x : Int) : Bool := decide (x < -2147483647) || decide (2147483647 < x)
def fracM (v f : Int) : Int × Int := if farB v = true ∨ farB f = true then (0, 11) else if f < 0 then (0, 1) else dimM ((wrap64 (v * f)).tdiv 65536)
def timesM (x : Fac) (v : Int) : Int × Int :=
  if v = 0 then (0, 0) else if 2147483647 < x.i then (0, 20)
  else if (fracM v x.f).2 ≠ 0 then (0, 20)
  else if (1099511627776 : Int).tdiv (maxM v (wrap64 (-v))) < x.i then (0, 20)
  else dimM (turnM (wrap64 (wrap64 (x.i * v) + (fracM v x.f).1)) x.minus)
def measureM (x : Fac) (n d : Int) : Int × Int :=
  if 2147483647 < x.i then (0, 20)
  else
    let g := (wrap64 (wrap64 (n * x.f) + wrap64 (65536 * (wrap64 (x.i * n)).tmod d))).tdiv d
    dimM (turnM (wrap64 (wrap64 (65536 * wrap64 ((wrap64 (x.i * n)).tdiv d + g.tdiv 65536)) + g.tmod 65536)) x.minus)
def spM (x : Fac) : Int × Int := if 2147483647 < x.i then (0, 20) else dimM (turnM x.i x.minus)
/-- the units in their order: name, numerator, denominator -/
def unitsL : List (List UInt8 × Int × Int) :=
  [([112, 116], 1, 1), ([105, 110], 7227, 100), ([112, 99], 12, 1), ([99, 109], 7227, 254), ([109, 109], 7227, 2540), ([98, 112], 7227, 7200), ([100, 100], 1238, 1157), ([99, 99], 14856, 1157), ([115, 112], 0, 0)]
def measuredM (x : Fac) (u : List UInt8 × Int × Int) : Int × Int := if u.2.2 = 0 then spM x else measureM x u.2.1 u.2.2
/-- the first unit that comes -/
def unitGo (x : Fac) (l1 : List Tok) : List (List UInt8 × Int × Int) → Option (Int × Int × List Tok)
  | [] => none
  | u :: us => match keyM u.1 l1 with
    | some l2 => some ((measuredM x u).1, (measuredM x u).2, optM l2)
    | none => unitGo x l1 us
def unitM (S : TabS) (x : Fac) (l : List Tok) : Int × Int × List Tok :=
  let r := registerM S (blanksM l)
  if r.2.2.2.1 ≠ 0 then (0, r.2.2.2.1, r.2.2.2.2)
  else if r.2.2.1 = true then ((timesM x (worthM S r.1 r.2.1)).1, (timesM x (worthM S r.1 r.2.1)).2, r.2.2.2.2)
  else match unitGo x (blanksM l) unitsL with
    | some y => y
    | none => (0, 21, l)
/-- behind a factor -/
def sizeEnd (S : TabS) (fils : Bool) (x : Fac) (l : List Tok) : Int × Int × Int × List Tok :=
  if fils = true ∧ 0 < (filM l).1 then
    (if 2147483647 < x.i then (0, 0, 20, optM (filM l).2)
     else ((dimM (turnM (wrap64 (wrap64 (x.i * 65536) + x.f)) x.minus)).1, (filM l).1, (dimM (turnM (wrap64 (wrap64 (x.i * 65536) + x.f)) x.minus)).2, optM (filM l).2))
  else ((unitM S x l).1, 0, (unitM S x l).2.1, (unitM S x l).2.2)
/-- a dimension: the number, its order, an error, what is left -/
def sizeM (S : TabS) (minus fils : Bool) (l : List Tok) : Int × Int × Int × List Tok :=
  let r := factorM S minus l
  if r.2.2.1 ≠ 0 then (0, 0, r.2.2.1, r.2.2.2)
  else if r.2.1 = true then ((dimM r.1.i).1, 0, (dimM r.1.i).2, r.2.2.2)
  else sizeEnd S fils r.1 r.2.2.2
def dimenM (S : TabS) (l : List Tok) : Int × Int × List Tok :=
  let r := sizeM S (signsM l false).1 false (signsM l false).2
  (r.1, r.2.2.1, r.2.2.2)
def partM (S : TabS) (w : List UInt8) (l : List Tok) : Int × Int × Int × List Tok :=
  match keyM w l with
  | none => (0, 0, 0, l)
  | some l1 =>
    let r := sizeM S (signsM l1 false).1 true (signsM l1 false).2
    (r.1, if r.1 = 0 then 0 else r.2.1, r.2.2.1, r.2.2.2)
def skipB (m : Mean) : Bool := (decide (m.kind = 4) && decide (m.cls = 3)) || (decide (m.kind = 1) && decide (m.text = ⟨#[115, 107, 105, 112]⟩))
def glz : Gl := ⟨0, 0, 0, 0, 0⟩
/-- the negative of a glue -/
def negG (g : Gl) : Gl := if glueB g = true then ⟨-g.nat, -g.stretch, -g.shrink, if g.stretch = 0 then 0 else g.so, if g.shrink = 0 then 0 else g.ko⟩ else glz
def headM (S : TabS) : List Tok → Bool
  | [] => false
  | x :: _ => skipB (meansM S x)
def plusB : List UInt8 := [112, 108, 117, 115]
def minusB : List UInt8 := [109, 105, 110, 117, 115]

/-- glue that a register tells (negative: by neg), or its natural size: is it all, an error, what is left -/
def startM (S : TabS) (minus : Bool) (l : List Tok) : Gl × Bool × Int × List Tok :=
  if headM S l = true then
    let r := registerM S l
    if r.2.2.2.1 ≠ 0 then (glz, false, r.2.2.2.1, r.2.2.2.2)
    else (if minus = true then negG (getV S 3 r.2.1).g else (getV S 3 r.2.1).g, true, 0, r.2.2.2.2)
  else
    let r := sizeM S minus false l
    (⟨r.1, 0, 0, 0, 0⟩, false, r.2.2.1, r.2.2.2)
def glueEnd (S : TabS) (n : Int) (l : List Tok) : Gl × Int × List Tok :=
  let p := partM S plusB l
  if p.2.2.1 ≠ 0 then (glz, p.2.2.1, p.2.2.2)
  else
    let q := partM S minusB p.2.2.2
    if q.2.2.1 ≠ 0 then (glz, q.2.2.1, q.2.2.2) else (⟨n, p.1, q.1, p.2.1, q.2.1⟩, 0, q.2.2.2)
def glueM (S : TabS) (l : List Tok) : Gl × Int × List Tok :=
  let r := startM S (signsM l false).1 (signsM l false).2
  if r.2.2.1 ≠ 0 ∨ r.2.1 = true then (r.1, r.2.2.1, r.2.2.2) else glueEnd S r.1.nat r.2.2.2
theorem blanks_len : ∀ (l : List Tok), (blanksM l).length ≤ l.length
  | [] => Nat.le_refl _
  | x :: l => by
    unfold blanksM
    split
    · have := blanks_len l; simp only [List.length_cons]; omega
    · exact Nat.le_refl _
theorem keyGo_len : ∀ (w : List UInt8) (l l' : List Tok), keyGo w l = some l' → l'.length ≤ l.length
  | [], l, l', h => by simp [keyGo] at h; rw [h]; exact Nat.le_refl _
  | _ :: _, [], l', h => by simp [keyGo] at h
  | c :: cs, x :: l, l', h => by
    unfold keyGo at h
    split at h
    · have := keyGo_len cs l l' h; simp only [List.length_cons]; omega
    · cases h
theorem keyM_len {w : List UInt8} {l l' : List Tok} (h : keyM w l = some l') : l'.length ≤ l.length := Nat.le_trans (keyGo_len w _ l' h) (blanks_len l)
theorem digits_len (base : Int) : ∀ (l : List Tok) (n k : Int), (digitsM base l n k).2.2.length ≤ l.length
  | [], _, _ => Nat.le_refl _
  | x :: l, n, k => by
    unfold digitsM
    cases digitM x base with
    | none => exact Nat.le_refl _
    | some d => have := digits_len base l (minM (n * base + d) 1099511627776) (k + 1); simp only [List.length_cons]; omega
theorem opt_len : ∀ l : List Tok, (optM l).length ≤ l.length
  | [] => Nat.le_refl _
  | x :: l => by
    rw [optM]
    split
    · simp
    · exact Nat.le_refl _
theorem based_len (base : Int) (l : List Tok) : (basedM base l).2.2.length ≤ l.length := by
  have h1 := digits_len base l 0 0
  have h2 := opt_len (digitsM base l 0 0).2.2
  unfold basedM
  simp only
  split
  · exact h1
  · split <;> (simp only; omega)
theorem quoted_len : ∀ l : List Tok, (quotedM l).2.2.length ≤ l.length
  | [] => Nat.le_refl _
  | x :: l => by
    have := opt_len l
    rw [quotedM]
    split
    · split <;> simp only [List.length_cons] <;> omega
    · simp only [List.length_cons]; omega
theorem plain_len (S : TabS) : ∀ l : List Tok, (plainM S l).2.2.2.length ≤ l.length
  | [] => Nat.le_refl _
  | x :: l => by
    have h1 := quoted_len l
    have h2 := based_len 8 l
    have h3 := based_len 16 l
    rw [plainM]
    repeat' split
    all_goals simp only [List.length_cons]; omega
theorem intPlain_len (S : TabS) (m : Bool) (l : List Tok) : (intPlain S m l).2.2.length ≤ l.length := by
  have h1 := plain_len S l
  have h2 := based_len 10 (plainM S l).2.2.2
  unfold intPlain
  simp only
  repeat' split
  all_goals (simp only; omega)
theorem intEnd_len (S : TabS) (m : Bool) (r : Int × Int × Bool × Int × List Tok) : (intEnd S m r).2.2.length ≤ r.2.2.2.2.length := by
  have h1 := intPlain_len S m r.2.2.2.2
  unfold intEnd
  repeat' split
  all_goals (first | exact Nat.le_refl _ | exact h1)
theorem regM_len (S : TabS) : ∀ (n : Nat) (l : List Tok), (regM S n l).2.2.2.2.length ≤ l.length
  | 0, _ => Nat.le_refl _
  | _ + 1, [] => Nat.le_refl _
  | n + 1, x :: l => by
    have h1 := signs_len l false
    have h2 := regM_len S n (signsM l false).2
    have h3 := intEnd_len S (signsM l false).1 (regM S n (signsM l false).2)
    unfold regM regEnd
    repeat' split
    all_goals (simp only [List.length_cons]; omega)
theorem register_len (S : TabS) (l : List Tok) : (registerM S l).2.2.2.2.length ≤ l.length := regM_len S _ l
theorem integer_len (S : TabS) (l : List Tok) : (integerM S l).2.2.length ≤ l.length := by
  have h1 := signs_len l false
  have h2 := register_len S (signsM l false).2
  have h3 := intEnd_len S (signsM l false).1 (registerM S (signsM l false).2)
  unfold integerM
  omega
theorem frac_len : ∀ l : List Tok, (fracGo l).2.length ≤ l.length ∧ (fracGo l).1.length ≤ l.length
  | [] => ⟨Nat.le_refl _, Nat.le_refl _⟩
  | x :: l => by
    have := frac_len l
    unfold fracGo
    cases digitM x 10 with
    | none => exact ⟨Nat.le_refl _, Nat.zero_le _⟩
    | some d => simp only [List.length_cons]; omega
theorem decimal_len (l : List Tok) : (decimalM l).2.2.length ≤ l.length := by
  have h1 := digits_len 10 l 0 0
  unfold decimalM
  simp only
  cases h : (digitsM 10 l 0 0).2.2 with
  | nil => simp
  | cons c l2 =>
    rw [h] at h1
    have := frac_len l2
    simp only [List.length_cons] at h1
    simp only
    split <;> simp only [List.length_cons] <;> omega
theorem facPlain_len (S : TabS) (m : Bool) (l : List Tok) : (facPlain S m l).2.2.2.length ≤ l.length := by
  have h1 := plain_len S l
  have h2 := decimal_len (plainM S l).2.2.2
  unfold facPlain
  simp only
  repeat' split
  all_goals (simp only; omega)
theorem factor_len (S : TabS) (m : Bool) (l : List Tok) : (factorM S m l).2.2.2.length ≤ l.length := by
  have h1 := register_len S l
  have h2 := facPlain_len S m (registerM S l).2.2.2.2
  unfold factorM
  simp only
  split
  · exact h1
  · split
    · split <;> exact h1
    · exact Nat.le_trans h2 h1
theorem fil_len (l : List Tok) : (filM l).2.length ≤ l.length := by
  unfold filM
  cases h1 : keyM filB l with
  | none => exact Nat.le_refl _
  | some l1 =>
    have k1 := keyM_len h1
    simp only
    cases h2 : keyM elB l1 with
    | none => exact k1
    | some l2 =>
      have k2 := keyM_len h2
      simp only
      cases h3 : keyM elB l2 with
      | none => show l2.length ≤ l.length; omega
      | some l3 => have k3 := keyM_len h3; show l3.length ≤ l.length; omega
theorem unitGo_len (x : Fac) (l : List Tok) : ∀ (us : List (List UInt8 × Int × Int)) (y : Int × Int × List Tok), unitGo x l us = some y → y.2.2.length ≤ l.length
  | [], y, h => by simp [unitGo] at h
  | u :: us, y, h => by
    unfold unitGo at h
    cases hk : keyM u.1 l with
    | none => rw [hk] at h; exact unitGo_len x l us y h
    | some l2 =>
      rw [hk] at h
      simp only [Option.some.injEq] at h
      subst h
      exact Nat.le_trans (opt_len l2) (keyM_len hk)
theorem unit_len (S : TabS) (x : Fac) (l : List Tok) : (unitM S x l).2.2.length ≤ l.length := by
  have h1 := register_len S (blanksM l)
  have h2 := blanks_len l
  unfold unitM
  simp only
  split
  · simp only; omega
  · split
    · simp only; omega
    · cases h : unitGo x (blanksM l) unitsL with
      | none => exact Nat.le_refl _
      | some y => have := unitGo_len x (blanksM l) unitsL y h; simp only; omega
theorem size_len (S : TabS) (m fils : Bool) (l : List Tok) : (sizeM S m fils l).2.2.2.length ≤ l.length := by
  have h1 := factor_len S m l
  have h2 := unit_len S (factorM S m l).1 (factorM S m l).2.2.2
  have h3 := fil_len (factorM S m l).2.2.2
  have h4 := opt_len (filM (factorM S m l).2.2.2).2
  unfold sizeM sizeEnd
  simp only
  repeat' split
  all_goals (simp only; omega)
theorem part_len (S : TabS) (w : List UInt8) (l : List Tok) : (partM S w l).2.2.2.length ≤ l.length := by
  unfold partM
  cases h : keyM w l with
  | none => exact Nat.le_refl _
  | some l1 =>
    have h1 := keyM_len h
    have h2 := signs_len l1 false
    have h3 := size_len S (signsM l1 false).1 true (signsM l1 false).2
    simp only
    omega

end Go.Proofs.Yticljfpippbkkaa

/-
  What is left is an end of the tokens; those that were passed, read alone, give the same answer (plain). Conditions: none.
-/
namespace Go.Proofs.Yticljfpippbkkaa
open Go.RowKit Go.Sp

/-! ### what is left is an end -/
theorem blanks_suf : ∀ (l : List Tok), blanksM l <:+ l
  | [] => List.suffix_refl _
  | x :: l => by
    rw [blanksM]
    split
    · exact (blanks_suf l).trans (List.suffix_cons x l)
    · exact List.suffix_refl _
theorem signs_suf : ∀ (l : List Tok) (m : Bool), (signsM l m).2 <:+ l
  | [], _ => List.suffix_refl _
  | x :: l, m => by
    rw [signsM]
    split
    · exact (signs_suf l _).trans (List.suffix_cons x l)
    · split
      · exact (signs_suf l _).trans (List.suffix_cons x l)
      · exact List.suffix_refl _
theorem keyGo_suf : ∀ (w : List UInt8) (l l' : List Tok), keyGo w l = some l' → l' <:+ l
  | [], l, l', h => by simp [keyGo] at h; rw [h]; exact List.suffix_refl _
  | _ :: _, [], l', h => by simp [keyGo] at h
  | c :: cs, x :: l, l', h => by
    unfold keyGo at h
    split at h
    · exact (keyGo_suf cs l l' h).trans (List.suffix_cons x l)
    · cases h
theorem key_suf {w : List UInt8} {l l' : List Tok} (h : keyM w l = some l') : l' <:+ l := (keyGo_suf w _ l' h).trans (blanks_suf l)
theorem digits_suf (base : Int) : ∀ (l : List Tok) (n k : Int), (digitsM base l n k).2.2 <:+ l
  | [], _, _ => List.suffix_refl _
  | x :: l, n, k => by
    unfold digitsM
    cases digitM x base with
    | none => exact List.suffix_refl _
    | some d => exact (digits_suf base l _ _).trans (List.suffix_cons x l)
theorem opt_suf : ∀ l : List Tok, optM l <:+ l
  | [] => List.suffix_refl _
  | x :: l => by
    rw [optM]
    split
    · exact List.suffix_cons x l
    · exact List.suffix_refl _
theorem based_suf (base : Int) (l : List Tok) : (basedM base l).2.2 <:+ l := by
  have h1 := digits_suf base l 0 0
  have h2 := (opt_suf (digitsM base l 0 0).2.2).trans h1
  unfold basedM
  simp only
  split
  · exact h1
  · split <;> exact h2
theorem quoted_suf : ∀ l : List Tok, (quotedM l).2.2 <:+ l
  | [] => List.suffix_refl _
  | x :: l => by
    have := (opt_suf l).trans (List.suffix_cons x l)
    rw [quotedM]
    split
    · split
      · exact this
      · exact List.suffix_refl _
    · exact this
theorem plain_suf (S : TabS) : ∀ l : List Tok, (plainM S l).2.2.2 <:+ l
  | [] => List.suffix_refl _
  | x :: l => by
    have h0 := List.suffix_cons x l
    have h1 := (quoted_suf l).trans h0
    have h2 := (based_suf 8 l).trans h0
    have h3 := (based_suf 16 l).trans h0
    rw [plainM]
    repeat' split
    all_goals (first | exact h0 | exact h1 | exact h2 | exact h3 | exact List.suffix_refl _)
theorem intPlain_suf (S : TabS) (m : Bool) (l : List Tok) : (intPlain S m l).2.2 <:+ l := by
  have h1 := plain_suf S l
  have h2 := (based_suf 10 (plainM S l).2.2.2).trans h1
  unfold intPlain
  simp only
  repeat' split
  all_goals (first | exact h1 | exact h2)
theorem intEnd_suf (S : TabS) (m : Bool) (r : Int × Int × Bool × Int × List Tok) : (intEnd S m r).2.2 <:+ r.2.2.2.2 := by
  have h1 := intPlain_suf S m r.2.2.2.2
  unfold intEnd
  repeat' split
  all_goals (first | exact List.suffix_refl _ | exact h1)
theorem regM_suf (S : TabS) : ∀ (n : Nat) (l : List Tok), (regM S n l).2.2.2.2 <:+ l
  | 0, _ => List.suffix_refl _
  | _ + 1, [] => List.suffix_refl _
  | n + 1, x :: l => by
    have h0 := List.suffix_cons x l
    have h4 := ((intEnd_suf S (signsM l false).1 (regM S n (signsM l false).2)).trans ((regM_suf S n (signsM l false).2).trans (signs_suf l false))).trans h0
    unfold regM regEnd
    repeat' split
    all_goals (first | exact h0 | exact h4 | exact List.suffix_refl _)
theorem register_suf (S : TabS) (l : List Tok) : (registerM S l).2.2.2.2 <:+ l := regM_suf S _ l
theorem integer_suf (S : TabS) (l : List Tok) : (integerM S l).2.2 <:+ l :=
  ((intEnd_suf S (signsM l false).1 (registerM S (signsM l false).2)).trans (register_suf S (signsM l false).2)).trans (signs_suf l false)
theorem frac_suf : ∀ l : List Tok, (fracGo l).2 <:+ l
  | [] => List.suffix_refl _
  | x :: l => by
    unfold fracGo
    cases digitM x 10 with
    | none => exact List.suffix_refl _
    | some d => exact (frac_suf l).trans (List.suffix_cons x l)
theorem decimal_suf (l : List Tok) : (decimalM l).2.2 <:+ l := by
  have h1 := digits_suf 10 l 0 0
  unfold decimalM
  simp only
  cases h : (digitsM 10 l 0 0).2.2 with
  | nil => exact List.nil_suffix
  | cons c l2 =>
    rw [h] at h1
    simp only
    split
    · exact ((frac_suf l2).trans (List.suffix_cons c l2)).trans h1
    · exact h1
theorem facPlain_suf (S : TabS) (m : Bool) (l : List Tok) : (facPlain S m l).2.2.2 <:+ l := by
  have h1 := plain_suf S l
  have h2 := (decimal_suf (plainM S l).2.2.2).trans h1
  unfold facPlain
  simp only
  repeat' split
  all_goals (first | exact h1 | exact h2)
theorem factor_suf (S : TabS) (m : Bool) (l : List Tok) : (factorM S m l).2.2.2 <:+ l := by
  have h1 := register_suf S l
  have h2 := (facPlain_suf S m (registerM S l).2.2.2.2).trans h1
  unfold factorM
  simp only
  split
  · exact h1
  · split
    · split <;> exact h1
    · exact h2
theorem fil_suf (l : List Tok) : (filM l).2 <:+ l := by
  unfold filM
  cases h1 : keyM filB l with
  | none => exact List.suffix_refl _
  | some l1 =>
    have k1 := key_suf h1
    simp only
    cases h2 : keyM elB l1 with
    | none => exact k1
    | some l2 =>
      have k2 := (key_suf h2).trans k1
      simp only
      cases h3 : keyM elB l2 with
      | none => exact k2
      | some l3 => exact (key_suf h3).trans k2
theorem unitGo_suf (x : Fac) (l : List Tok) : ∀ (us : List (List UInt8 × Int × Int)) (y : Int × Int × List Tok), unitGo x l us = some y → y.2.2 <:+ l
  | [], y, h => by simp [unitGo] at h
  | u :: us, y, h => by
    unfold unitGo at h
    cases hk : keyM u.1 l with
    | none => rw [hk] at h; exact unitGo_suf x l us y h
    | some l2 =>
      rw [hk] at h
      simp only [Option.some.injEq] at h
      subst h
      exact (opt_suf l2).trans (key_suf hk)
theorem unit_suf (S : TabS) (x : Fac) (l : List Tok) : (unitM S x l).2.2 <:+ l := by
  have h2 := blanks_suf l
  have h1 := (register_suf S (blanksM l)).trans h2
  unfold unitM
  simp only
  split
  · exact h1
  · split
    · exact h1
    · cases h : unitGo x (blanksM l) unitsL with
      | none => exact List.suffix_refl _
      | some y => exact (unitGo_suf x (blanksM l) unitsL y h).trans h2
theorem sizeEnd_suf (S : TabS) (fils : Bool) (x : Fac) (l : List Tok) : (sizeEnd S fils x l).2.2.2 <:+ l := by
  have h2 := unit_suf S x l
  have h4 := (opt_suf (filM l).2).trans (fil_suf l)
  unfold sizeEnd
  repeat' split
  all_goals (first | exact h4 | exact h2)
theorem size_suf (S : TabS) (m fils : Bool) (l : List Tok) : (sizeM S m fils l).2.2.2 <:+ l := by
  have h1 := factor_suf S m l
  have h2 := (sizeEnd_suf S fils (factorM S m l).1 (factorM S m l).2.2.2).trans h1
  unfold sizeM
  simp only
  repeat' split
  all_goals (first | exact h1 | exact h2)
theorem part_suf (S : TabS) (w : List UInt8) (l : List Tok) : (partM S w l).2.2.2 <:+ l := by
  unfold partM
  cases h : keyM w l with
  | none => exact List.suffix_refl _
  | some l1 => exact ((size_suf S _ true (signsM l1 false).2).trans (signs_suf l1 false)).trans (key_suf h)
theorem start_suf (S : TabS) (m : Bool) (l : List Tok) : (startM S m l).2.2.2 <:+ l := by
  have h1 := register_suf S l
  have h2 := size_suf S m false l
  unfold startM
  simp only
  repeat' split
  all_goals (first | exact h1 | exact h2)
theorem glueEnd_suf (S : TabS) (n : Int) (l : List Tok) : (glueEnd S n l).2.2 <:+ l := by
  have h1 := part_suf S plusB l
  have h2 := (part_suf S minusB (partM S plusB l).2.2.2).trans h1
  unfold glueEnd
  simp only
  repeat' split
  all_goals (first | exact h1 | exact h2)
theorem glue_suf (S : TabS) (l : List Tok) : (glueM S l).2.2 <:+ l := by
  have h0 := signs_suf l false
  have h1 := (start_suf S (signsM l false).1 (signsM l false).2).trans h0
  have h2 := (glueEnd_suf S (startM S (signsM l false).1 (signsM l false).2).1.nat (startM S (signsM l false).1 (signsM l false).2).2.2.2).trans h1
  unfold glueM
  simp only
  split
  · exact h1
  · exact h2

/-! ### the tokens that were passed, and one that stops -/
/-- without the last d tokens, and z behind -/
def cutZ (z : Tok) (d : Nat) (l : List Tok) : List Tok := l.take (l.length - d) ++ [z]
theorem cut_all {z : Tok} {d : Nat} {l : List Tok} (h : l.length ≤ d) : cutZ z d l = [z] := by
  rw [cutZ, Nat.sub_eq_zero_of_le h]; rfl
theorem cut_cons {z x : Tok} {d : Nat} {l : List Tok} (h : d ≤ l.length) : cutZ z d (x :: l) = x :: cutZ z d l := by
  rw [cutZ, cutZ, List.length_cons, show l.length + 1 - d = (l.length - d) + 1 by omega]; rfl
/-- a token that means nothing -/
structure Stops (S : TabS) (z : Tok) : Prop where
  cat : z.cat = 16
  size : z.name.size ≠ 1
  means : meansM S z = mean0
section
variable {S : TabS} {z : Tok} (hz : Stops S z) {d : Nat}
include hz

theorem stop_blank : blankB z = false := by unfold blankB; rw [hz.cat]; rfl
theorem stop_other (c : UInt8) : otherB z c = false := by unfold otherB; rw [hz.cat]; rfl
theorem stop_digit (b : Int) : digitM z b = none := by
  unfold digitM
  rw [hz.cat, if_neg (by simp), if_neg (by simp)]
theorem blanks_cut : ∀ (l : List Tok), blanksM (cutZ z d l) = if d ≤ (blanksM l).length then cutZ z d (blanksM l) else [z]
  | [] => by
    rw [show blanksM [] = [] from rfl, cut_all (Nat.zero_le _), blanksM, if_neg (by rw [stop_blank hz]; simp)]
    split <;> rfl
  | x :: l => by
    rcases Nat.lt_or_ge l.length d with h | h
    · rw [cut_all (l := x :: l) (by simp only [List.length_cons]; omega), blanksM, if_neg (by rw [stop_blank hz]; simp)]
      split
      · rename_i h2
        have h3 := blanks_len (x :: l)
        simp only [List.length_cons] at h3
        rw [cut_all (by omega)]
      · rfl
    · rw [cut_cons h, blanksM, blanksM]
      split
      · exact blanks_cut l
      · rw [if_pos (by simp only [List.length_cons]; omega), cut_cons h]
theorem stop_signs (m : Bool) : signsM [z] m = (m, [z]) := by
  rw [signsM, if_neg (by rw [stop_other hz]; simp), if_neg (by rw [stop_other hz, stop_blank hz]; simp)]
theorem stop_opt : optM [z] = [z] := by rw [optM, if_neg (by rw [stop_blank hz]; simp)]
theorem stop_digits (b n k : Int) : digitsM b [z] n k = (n, k, [z]) := by rw [digitsM, stop_digit hz]
theorem stop_quoted : quotedM [z] = (0, 180, [z]) := by rw [quotedM, if_pos hz.cat, if_neg hz.size]
theorem stop_frac : fracGo [z] = ([], [z]) := by rw [fracGo, stop_digit hz]
theorem signs_cut : ∀ (l : List Tok) (m : Bool), d ≤ (signsM l m).2.length → signsM (cutZ z d l) m = ((signsM l m).1, cutZ z d (signsM l m).2)
  | [], m, h => by
    rw [cut_all (Nat.zero_le _), stop_signs hz, signsM, cut_all (Nat.zero_le _)]
  | x :: l, m, h => by
    rcases Nat.lt_or_ge l.length d with h1 | h1
    · rw [cut_all (l := x :: l) (by simp only [List.length_cons]; omega), stop_signs hz]
      rw [signsM] at h ⊢
      split
      · rename_i h2
        rw [if_pos h2] at h
        have := signs_len l (!m); omega
      · rename_i h2
        rw [if_neg h2] at h
        split
        · rename_i h3
          rw [if_pos h3] at h
          have := signs_len l m; omega
        · rw [cut_all (by simp only [List.length_cons]; omega)]
    · rw [cut_cons h1]
      rw [signsM] at h ⊢
      rw [signsM]
      split
      · rename_i h2
        rw [if_pos h2] at h
        exact signs_cut l _ h
      · rename_i h2
        rw [if_neg h2] at h
        split
        · rename_i h3
          rw [if_pos h3] at h
          exact signs_cut l _ h
        · rw [cut_cons h1]
theorem keyGo_cut : ∀ (w : List UInt8) (l : List Tok), (∀ l', keyGo w l = some l' → d ≤ l'.length → keyGo w (cutZ z d l) = some (cutZ z d l')) ∧ (keyGo w l = none → keyGo w (cutZ z d l) = none)
  | [], l => by
    refine ⟨fun l' h hd => ?_, fun h => by simp [keyGo] at h⟩
    simp only [keyGo, Option.some.injEq] at h ⊢
    rw [h]
  | c :: cs, [] => by
    refine ⟨fun l' h hd => by simp [keyGo] at h, fun _ => ?_⟩
    rw [cut_all (Nat.zero_le _), keyGo, if_neg (by rw [hz.cat]; simp)]
  | c :: cs, x :: l => by
    have ih := keyGo_cut cs l
    rcases Nat.lt_or_ge l.length d with h1 | h1
    · rw [cut_all (l := x :: l) (by simp only [List.length_cons]; omega)]
      refine ⟨fun l' h hd => ?_, fun _ => by rw [keyGo, if_neg (by rw [hz.cat]; simp)]⟩
      rw [keyGo] at h
      split at h
      · have := keyGo_len cs l l' h; omega
      · cases h
    · rw [cut_cons h1, keyGo, keyGo]
      split
      · exact ih
      · refine ⟨fun l' h => ?_, fun _ => rfl⟩
        cases h
theorem key_none {w : List UInt8} (hw : w ≠ []) {l : List Tok} (h : keyM w l = none) : keyM w (cutZ z d l) = none := by
  unfold keyM at h ⊢
  rw [blanks_cut hz l]
  split
  · exact (keyGo_cut hz w _).2 h
  · cases w with
    | nil => exact absurd rfl hw
    | cons c cs => rw [keyGo, if_neg (by rw [hz.cat]; simp)]
theorem key_some {w : List UInt8} {l l' : List Tok} (h : keyM w l = some l') (hd : d ≤ l'.length) : keyM w (cutZ z d l) = some (cutZ z d l') := by
  unfold keyM at h ⊢
  rw [blanks_cut hz l, if_pos (Nat.le_trans hd (keyGo_len w _ l' h))]
  exact (keyGo_cut hz w _).1 l' h hd
theorem digits_cut (base : Int) : ∀ (l : List Tok) (n k : Int), d ≤ (digitsM base l n k).2.2.length → digitsM base (cutZ z d l) n k = ((digitsM base l n k).1, (digitsM base l n k).2.1, cutZ z d (digitsM base l n k).2.2)
  | [], n, k, h => by
    rw [cut_all (Nat.zero_le _), stop_digits hz, digitsM, cut_all (Nat.zero_le _)]
  | x :: l, n, k, h => by
    rcases Nat.lt_or_ge l.length d with h1 | h1
    · rw [cut_all (l := x :: l) (by simp only [List.length_cons]; omega), stop_digits hz]
      rw [digitsM] at h ⊢
      cases hd : digitM x base with
      | some y =>
        rw [hd] at h
        have := digits_len base l (minM (n * base + y) 1099511627776) (k + 1)
        simp only at h
        omega
      | none => simp only; rw [cut_all (by simp only [List.length_cons]; omega)]
    · rw [cut_cons h1]
      rw [digitsM] at h ⊢
      rw [digitsM]
      cases hd : digitM x base with
      | some y =>
        rw [hd] at h
        exact digits_cut base l _ _ h
      | none => simp only; rw [cut_cons h1]
theorem opt_cut : ∀ l : List Tok, d ≤ (optM l).length → optM (cutZ z d l) = cutZ z d (optM l)
  | [], _ => by rw [cut_all (Nat.zero_le _), stop_opt hz, optM, cut_all (Nat.zero_le _)]
  | x :: l, h => by
    rcases Nat.lt_or_ge l.length d with h1 | h1
    · rw [cut_all (l := x :: l) (by simp only [List.length_cons]; omega), stop_opt hz]
      rw [optM] at h ⊢
      split
      · rename_i h2; rw [if_pos h2] at h; omega
      · rw [cut_all (by simp only [List.length_cons]; omega)]
    · rw [cut_cons h1, optM, optM]
      split
      · rfl
      · rw [cut_cons h1]
theorem based_cut (base : Int) (l : List Tok) (h : d ≤ (basedM base l).2.2.length) : basedM base (cutZ z d l) = ((basedM base l).1, (basedM base l).2.1, cutZ z d (basedM base l).2.2) := by
  have h1 : d ≤ (digitsM base l 0 0).2.2.length := by
    have h2 := opt_len (digitsM base l 0 0).2.2
    unfold basedM at h
    simp only at h
    split at h
    · exact h
    · split at h <;> (simp only at h; omega)
  unfold basedM at h ⊢
  rw [digits_cut hz base l 0 0 h1]
  simp only at h ⊢
  split
  · rfl
  · rename_i h3
    rw [if_neg h3] at h
    split
    · rename_i h4
      rw [if_pos h4] at h
      rw [opt_cut hz _ h]
    · rename_i h4
      rw [if_neg h4] at h
      rw [opt_cut hz _ h]
theorem quoted_cut : ∀ l : List Tok, d ≤ (quotedM l).2.2.length → quotedM (cutZ z d l) = ((quotedM l).1, (quotedM l).2.1, cutZ z d (quotedM l).2.2)
  | [], _ => by rw [cut_all (Nat.zero_le _), stop_quoted hz, quotedM, cut_all (Nat.zero_le _)]
  | x :: l, h => by
    rcases Nat.lt_or_ge l.length d with h1 | h1
    · have h2 := opt_len l
      rw [cut_all (l := x :: l) (by simp only [List.length_cons]; omega), stop_quoted hz]
      rw [quotedM] at h ⊢
      split
      · rename_i h3
        rw [if_pos h3] at h
        split
        · rename_i h4; rw [if_pos h4] at h; simp only at h; omega
        · rw [cut_all (by simp only [List.length_cons]; omega)]
      · rename_i h3
        rw [if_neg h3] at h
        simp only at h
        omega
    · rw [cut_cons h1]
      rw [quotedM] at h ⊢
      rw [quotedM]
      split
      · rename_i h3
        rw [if_pos h3] at h
        split
        · rename_i h4; rw [if_pos h4] at h; rw [opt_cut hz _ h]
        · rw [cut_cons h1]
      · rename_i h3
        rw [if_neg h3] at h
        rw [opt_cut hz _ h]
theorem stop_plain : plainM S [z] = (0, false, 0, [z]) := by
  rw [plainM, hz.means, if_neg (by simp [mean0]), if_neg (by rw [stop_other hz]; simp), if_neg (by rw [stop_other hz]; simp), if_neg (by rw [stop_other hz]; simp)]
theorem plain_cut : ∀ l : List Tok, d ≤ (plainM S l).2.2.2.length → plainM S (cutZ z d l) = ((plainM S l).1, (plainM S l).2.1, (plainM S l).2.2.1, cutZ z d (plainM S l).2.2.2)
  | [], _ => by rw [cut_all (Nat.zero_le _), stop_plain hz, plainM, cut_all (Nat.zero_le _)]
  | x :: l, h => by
    have k1 := quoted_len l
    have k2 := based_len 8 l
    have k3 := based_len 16 l
    rcases Nat.lt_or_ge l.length d with h1 | h1
    · rw [cut_all (l := x :: l) (by simp only [List.length_cons]; omega), stop_plain hz]
      rw [plainM] at h ⊢
      split
      · rename_i h2; rw [if_pos h2] at h; simp only at h; omega
      · rename_i h2
        rw [if_neg h2] at h
        split
        · rename_i h2; rw [if_pos h2] at h; simp only at h; omega
        · rename_i h2
          rw [if_neg h2] at h
          split
          · rename_i h2; rw [if_pos h2] at h; simp only at h; omega
          · rename_i h2
            rw [if_neg h2] at h
            split
            · rename_i h2; rw [if_pos h2] at h; simp only at h; omega
            · rw [cut_all (by simp only [List.length_cons]; omega)]
    · rw [cut_cons h1]
      rw [plainM] at h ⊢
      rw [plainM]
      split
      · rfl
      · rename_i h2
        rw [if_neg h2] at h
        split
        · rename_i h2; rw [if_pos h2] at h; rw [quoted_cut hz l h]
        · rename_i h2
          rw [if_neg h2] at h
          split
          · rename_i h2; rw [if_pos h2] at h; rw [based_cut hz 8 l h]
          · rename_i h2
            rw [if_neg h2] at h
            split
            · rename_i h2; rw [if_pos h2] at h; rw [based_cut hz 16 l h]
            · rw [cut_cons h1]
theorem intPlain_cut (m : Bool) (l : List Tok) (h : d ≤ (intPlain S m l).2.2.length) : intPlain S m (cutZ z d l) = ((intPlain S m l).1, (intPlain S m l).2.1, cutZ z d (intPlain S m l).2.2) := by
  have k2 := based_len 10 (plainM S l).2.2.2
  have h1 : d ≤ (plainM S l).2.2.2.length := by
    unfold intPlain at h
    simp only at h
    repeat' split at h
    all_goals (simp only at h; omega)
  unfold intPlain at h ⊢
  rw [plain_cut hz l h1]
  simp only at h ⊢
  split
  · rename_i h2
    rw [if_pos h2] at h
    have h3 : d ≤ (basedM 10 (plainM S l).2.2.2).2.2.length := by split at h <;> exact h
    rw [based_cut hz 10 _ h3]
    split <;> rfl
  · split <;> rfl
theorem intEnd_cut (m : Bool) (r : Int × Int × Bool × Int × List Tok) (h : d ≤ (intEnd S m r).2.2.length) :
    intEnd S m (r.1, r.2.1, r.2.2.1, r.2.2.2.1, cutZ z d r.2.2.2.2) = ((intEnd S m r).1, (intEnd S m r).2.1, cutZ z d (intEnd S m r).2.2) := by
  unfold intEnd at h ⊢
  simp only at h ⊢
  split
  · rfl
  · rename_i h2
    rw [if_neg h2] at h
    split
    · rfl
    · rename_i h2
      rw [if_neg h2] at h
      exact intPlain_cut hz m _ h
theorem stop_reg : ∀ n, regM S n [z] = (0, 0, false, 0, [z])
  | 0 => rfl
  | n + 1 => by
    rw [regM, hz.means, if_neg (by simp [mean0]), if_pos (by simp [classM, mean0])]
theorem regM_cut : ∀ (n k : Nat) (l : List Tok), l.length < n → (cutZ z d l).length < k → d ≤ (regM S n l).2.2.2.2.length →
    regM S k (cutZ z d l) = ((regM S n l).1, (regM S n l).2.1, (regM S n l).2.2.1, (regM S n l).2.2.2.1, cutZ z d (regM S n l).2.2.2.2)
  | 0, _, _, h, _, _ => by omega
  | n + 1, k, [], _, hk, h => by rw [cut_all (Nat.zero_le _), stop_reg hz, regM, cut_all (Nat.zero_le _)]
  | n + 1, k, x :: l, hn, hk, h => by
    rcases Nat.lt_or_ge l.length d with h1 | h1
    · have q1 := signs_len l false
      have q2 := regM_len S n (signsM l false).2
      have q3 := intEnd_len S (signsM l false).1 (regM S n (signsM l false).2)
      rw [cut_all (l := x :: l) (by simp only [List.length_cons]; omega), stop_reg hz]
      rw [regM] at h ⊢
      split
      · rename_i h2; rw [if_pos h2] at h; simp only at h; omega
      · rename_i h2
        rw [if_neg h2] at h
        split
        · rw [cut_all (by simp only [List.length_cons]; omega)]
        · rename_i h2
          rw [if_neg h2] at h
          unfold regEnd at h
          repeat' split at h
          all_goals (simp only at h; omega)
    · rw [cut_cons h1] at hk ⊢
      cases k with
      | zero => omega
      | succ k =>
        rw [regM] at h ⊢
        rw [regM]
        split
        · rfl
        · rename_i h2
          rw [if_neg h2] at h
          split
          · rw [cut_cons h1]
          · rename_i h2
            rw [if_neg h2] at h
            have h3 : d ≤ (intEnd S (signsM l false).1 (regM S n (signsM l false).2)).2.2.length := by
              unfold regEnd at h
              repeat' split at h
              all_goals exact h
            have h4 : d ≤ (regM S n (signsM l false).2).2.2.2.2.length := Nat.le_trans h3 (intEnd_len S _ _)
            have h5 : d ≤ (signsM l false).2.length := Nat.le_trans h4 (regM_len S n _)
            simp only [List.length_cons] at hn hk
            have h6 := signs_len l false
            have h7 := signs_len (cutZ z d l) false
            rw [signs_cut hz l false h5] at h7 ⊢
            simp only at h7
            rw [regM_cut n k (signsM l false).2 (by omega) (by omega) h4]
            simp only
            rw [intEnd_cut hz _ _ h3]
            unfold regEnd
            simp only
            split
            · rfl
            · split <;> rfl
theorem register_cut (l : List Tok) (h : d ≤ (registerM S l).2.2.2.2.length) :
    registerM S (cutZ z d l) = ((registerM S l).1, (registerM S l).2.1, (registerM S l).2.2.1, (registerM S l).2.2.2.1, cutZ z d (registerM S l).2.2.2.2) :=
  regM_cut hz _ _ l (Nat.lt_succ_self _) (Nat.lt_succ_self _) h
theorem frac_cut : ∀ l : List Tok, d ≤ (fracGo l).2.length → fracGo (cutZ z d l) = ((fracGo l).1, cutZ z d (fracGo l).2)
  | [], _ => by rw [cut_all (Nat.zero_le _), stop_frac hz, fracGo, cut_all (Nat.zero_le _)]
  | x :: l, h => by
    rcases Nat.lt_or_ge l.length d with h1 | h1
    · rw [cut_all (l := x :: l) (by simp only [List.length_cons]; omega), stop_frac hz]
      rw [fracGo] at h ⊢
      cases hd : digitM x 10 with
      | some y =>
        rw [hd] at h
        have := frac_len l
        simp only at h
        omega
      | none => simp only; rw [cut_all (by simp only [List.length_cons]; omega)]
    · rw [cut_cons h1]
      rw [fracGo] at h ⊢
      rw [fracGo]
      cases hd : digitM x 10 with
      | some y =>
        rw [hd] at h
        simp only at h ⊢
        rw [frac_cut l h]
      | none => simp only; rw [cut_cons h1]
theorem decimal_cut (l : List Tok) (h : d ≤ (decimalM l).2.2.length) : decimalM (cutZ z d l) = ((decimalM l).1, (decimalM l).2.1, cutZ z d (decimalM l).2.2) := by
  have h1 : d ≤ (digitsM 10 l 0 0).2.2.length := by
    unfold decimalM at h
    simp only at h
    cases hr : (digitsM 10 l 0 0).2.2 with
    | nil => rw [hr] at h; simp only at h; exact h
    | cons c l2 =>
      rw [hr] at h
      have := frac_len l2
      simp only at h
      simp only [List.length_cons]
      split at h
      · simp only at h; omega
      · simp only [List.length_cons] at h; omega
  unfold decimalM at h ⊢
  rw [digits_cut hz 10 l 0 0 h1]
  simp only at h ⊢
  cases hr : (digitsM 10 l 0 0).2.2 with
  | nil => rw [cut_all (Nat.zero_le _)]; simp only; rw [if_neg (by rw [stop_other hz, stop_other hz]; simp)]
  | cons c l2 =>
    rw [hr] at h
    have hf := frac_len l2
    rcases Nat.lt_or_ge l2.length d with h2 | h2
    · rw [cut_all (l := c :: l2) (by simp only [List.length_cons]; omega)]
      simp only at h ⊢
      rw [if_neg (by rw [stop_other hz, stop_other hz]; simp)]
      split
      · rename_i h3; rw [if_pos h3] at h; simp only at h; omega
      · rw [cut_all (by simp only [List.length_cons]; omega)]
    · rw [cut_cons h2]
      simp only at h ⊢
      split
      · rename_i h3
        rw [if_pos h3] at h
        rw [frac_cut hz l2 h]
      · rw [cut_cons h2]
theorem facPlain_cut (m : Bool) (l : List Tok) (h : d ≤ (facPlain S m l).2.2.2.length) :
    facPlain S m (cutZ z d l) = ((facPlain S m l).1, (facPlain S m l).2.1, (facPlain S m l).2.2.1, cutZ z d (facPlain S m l).2.2.2) := by
  have k2 := decimal_len (plainM S l).2.2.2
  have h1 : d ≤ (plainM S l).2.2.2.length := by
    unfold facPlain at h
    simp only at h
    repeat' split at h
    all_goals (simp only at h; omega)
  unfold facPlain at h ⊢
  rw [plain_cut hz l h1]
  simp only at h ⊢
  split
  · rfl
  · rename_i h2
    rw [if_neg h2] at h
    split
    · rfl
    · rename_i h2
      rw [if_neg h2] at h
      have h3 : d ≤ (decimalM (plainM S l).2.2.2).2.2.length := by split at h <;> exact h
      rw [decimal_cut hz _ h3]
      simp only
      split <;> rfl
theorem factor_cut (m : Bool) (l : List Tok) (h : d ≤ (factorM S m l).2.2.2.length) :
    factorM S m (cutZ z d l) = ((factorM S m l).1, (factorM S m l).2.1, (factorM S m l).2.2.1, cutZ z d (factorM S m l).2.2.2) := by
  have k2 := facPlain_len S m (registerM S l).2.2.2.2
  have h1 : d ≤ (registerM S l).2.2.2.2.length := by
    unfold factorM at h
    simp only at h
    split at h
    · exact h
    · split at h
      · split at h <;> exact h
      · omega
  unfold factorM at h ⊢
  rw [register_cut hz l h1]
  simp only at h ⊢
  split
  · rfl
  · rename_i h2
    rw [if_neg h2] at h
    split
    · split <;> rfl
    · rename_i h2
      rw [if_neg h2] at h
      exact facPlain_cut hz m _ h
theorem fil_cut (l : List Tok) (h : d ≤ (filM l).2.length) : filM (cutZ z d l) = ((filM l).1, cutZ z d (filM l).2) := by
  unfold filM at h ⊢
  cases h1 : keyM filB l with
  | none => rw [key_none hz (by simp [filB]) h1]
  | some l1 =>
    rw [h1] at h
    simp only at h
    cases h2 : keyM elB l1 with
    | none =>
      rw [h2] at h
      rw [key_some hz h1 h]
      simp only [h2]
      rw [key_none hz (by simp [elB]) h2]
    | some l2 =>
      rw [h2] at h
      simp only at h
      have q2 := keyM_len h2
      cases h3 : keyM elB l2 with
      | none =>
        rw [h3] at h
        simp only at h
        rw [key_some hz h1 (by omega)]
        simp only [h2]
        rw [key_some hz h2 h]
        simp only [h3]
        rw [key_none hz (by simp [elB]) h3]
      | some l3 =>
        rw [h3] at h
        simp only at h
        have q3 := keyM_len h3
        rw [key_some hz h1 (by omega)]
        simp only [h2]
        rw [key_some hz h2 (by omega)]
        simp only [h3]
        rw [key_some hz h3 h]
theorem unitGo_cut (x : Fac) (l l' : List Tok) (hn : ∀ w, w ≠ [] → keyM w l = none → keyM w l' = none) (hs : ∀ w r, keyM w l = some r → d ≤ r.length → keyM w l' = some (cutZ z d r)) :
    ∀ (us : List (List UInt8 × Int × Int)), (∀ u ∈ us, u.1 ≠ []) → (unitGo x l us = none → unitGo x l' us = none) ∧
      ∀ y, unitGo x l us = some y → d ≤ y.2.2.length → unitGo x l' us = some (y.1, y.2.1, cutZ z d y.2.2)
  | [], _ => ⟨fun _ => rfl, fun y h => by simp [unitGo] at h⟩
  | u :: us, hu => by
    have ih := unitGo_cut x l l' hn hs us (fun v hv => hu v (List.mem_cons_of_mem _ hv))
    unfold unitGo
    cases hk : keyM u.1 l with
    | none => rw [hn u.1 (hu u (List.mem_cons_self ..)) hk]; exact ih
    | some l2 =>
      refine ⟨(fun h => (nomatch h)), fun y h hd => ?_⟩
      simp only [Option.some.injEq] at h
      subst h
      simp only at hd ⊢
      rw [hs _ _ hk (Nat.le_trans hd (opt_len l2))]
      simp only
      rw [opt_cut hz _ hd]
omit hz in
theorem units_ne : ∀ u ∈ unitsL, u.1 ≠ [] := by
  intro u hu
  simp only [unitsL, List.mem_cons, List.not_mem_nil, or_false] at hu
  rcases hu with rfl | rfl | rfl | rfl | rfl | rfl | rfl | rfl | rfl <;> simp
theorem unit_cut (x : Fac) (l : List Tok) (h : d ≤ (unitM S x l).2.2.length) : unitM S x (cutZ z d l) = ((unitM S x l).1, (unitM S x l).2.1, cutZ z d (unitM S x l).2.2) := by
  have k1 := register_len S (blanksM l)
  have hB := blanks_cut hz (d := d) l
  unfold unitM at h ⊢
  rcases Nat.lt_or_ge (blanksM l).length d with hb | hb
  · rw [if_neg (by omega)] at hB
    rw [hB]
    simp only at h ⊢
    rw [show registerM S [z] = (0, 0, false, 0, [z]) from stop_reg hz _]
    simp only [ne_eq, not_true_eq_false, if_false, Bool.false_eq_true]
    have hq : ∀ w : List UInt8, w ≠ [] → keyM w [z] = none := fun w hw => by
      unfold keyM
      rw [blanksM, if_neg (by rw [stop_blank hz]; simp)]
      cases w with
      | nil => exact absurd rfl hw
      | cons c cs => rw [keyGo, if_neg (by rw [hz.cat]; simp)]
    have hg2 : unitGo x [z] unitsL = none := by
      have : ∀ us : List (List UInt8 × Int × Int), (∀ u ∈ us, u.1 ≠ []) → unitGo x [z] us = none := by
        intro us
        induction us with
        | nil => intro _; rfl
        | cons u us ih =>
          intro hu
          rw [unitGo, hq _ (hu u (List.mem_cons_self ..))]
          exact ih fun v hv => hu v (List.mem_cons_of_mem _ hv)
      exact this unitsL units_ne
    rw [hg2]
    by_cases h2 : (registerM S (blanksM l)).2.2.2.1 = 0
    · rw [if_neg (by simpa using h2)] at h ⊢
      by_cases h3 : (registerM S (blanksM l)).2.2.1 = true
      · rw [if_pos h3] at h; simp only at h; omega
      · rw [if_neg h3] at h ⊢
        cases hg : unitGo x (blanksM l) unitsL with
        | some y =>
          rw [hg] at h
          simp only at h
          have := unitGo_len x (blanksM l) unitsL y hg
          omega
        | none => rfl
    · rw [if_pos h2] at h; simp only at h; omega
  · rw [if_pos hb] at hB
    rw [hB]
    have hug := unitGo_cut hz (d := d) x (blanksM l) (cutZ z d (blanksM l)) (fun w hw h0 => key_none hz hw h0) (fun w r h0 hd => key_some hz h0 hd) unitsL (units_ne)
    simp only at h ⊢
    by_cases h1 : d ≤ (registerM S (blanksM l)).2.2.2.2.length
    · rw [register_cut hz _ h1]
      simp only
      split
      · rfl
      · rename_i h2
        rw [if_neg h2] at h
        split
        · rfl
        · rename_i h3
          rw [if_neg h3] at h
          cases hg : unitGo x (blanksM l) unitsL with
          | some y =>
            rw [hg] at h
            rw [hug.2 y hg h]
          | none => rw [hug.1 hg]
    · exfalso
      have hr : (registerM S (blanksM l)).2.2.2.1 = 0 → (registerM S (blanksM l)).2.2.1 = false → (registerM S (blanksM l)).2.2.2.2 = blanksM l := by
        cases hbl : blanksM l with
        | nil => intro _ _; rfl
        | cons y t =>
          rw [registerM_cons]
          split
          · intro _ h; cases h
          · split
            · intro _ _; rfl
            · unfold regEnd
              split
              · intro h; simp only at h; rename_i hne; exact absurd h hne
              · split
                · intro h; simp at h
                · intro _ h; cases h
      split at h
      · exact h1 h
      · rename_i h2
        split at h
        · exact h1 h
        · rename_i h3
          simp only [Decidable.not_not] at h2
          rw [hr h2 (by simpa using h3)] at h1
          exact h1 hb
theorem sizeEnd_cut (fils : Bool) (x : Fac) (l : List Tok) (h : d ≤ (sizeEnd S fils x l).2.2.2.length) :
    sizeEnd S fils x (cutZ z d l) = ((sizeEnd S fils x l).1, (sizeEnd S fils x l).2.1, (sizeEnd S fils x l).2.2.1, cutZ z d (sizeEnd S fils x l).2.2.2) := by
  unfold sizeEnd at h ⊢
  have hfil : fils = true ∧ 0 < (filM l).1 → d ≤ (optM (filM l).2).length := fun hf => by
    rw [if_pos hf] at h
    split at h <;> exact h
  by_cases hf : fils = true ∧ 0 < (filM l).1
  · have h1 := hfil hf
    have h2 := Nat.le_trans h1 (opt_len _)
    rw [fil_cut hz l h2, if_pos hf, if_pos hf]
    simp only
    rw [opt_cut hz _ h1]
    split <;> rfl
  · rw [if_neg hf] at h ⊢
    simp only at h ⊢
    have h2 : ¬ (fils = true ∧ 0 < (filM (cutZ z d l)).1) := by
      intro hc
      apply hf
      refine ⟨hc.1, ?_⟩
      have h3 : (filM l).1 = 0 → (filM (cutZ z d l)).1 = 0 := by
        intro h0
        have h4 : keyM filB l = none := by
          unfold filM at h0
          cases hk : keyM filB l with
          | none => rfl
          | some l1 =>
            rw [hk] at h0
            simp only at h0
            cases hk2 : keyM elB l1 with
            | none => rw [hk2] at h0; simp at h0
            | some l2 =>
              rw [hk2] at h0
              simp only at h0
              cases hk3 : keyM elB l2 with
              | none => rw [hk3] at h0; simp at h0
              | some l3 => rw [hk3] at h0; simp at h0
        unfold filM
        rw [key_none hz (by simp [filB]) h4]
      have h5 : 0 ≤ (filM l).1 := by
        unfold filM
        repeat' split
        all_goals simp
      rcases Int.lt_or_eq_of_le h5 with h6 | h6
      · exact h6
      · have := h3 h6.symm
        omega
    rw [if_neg h2, unit_cut hz x l h]
theorem size_cut (m fils : Bool) (l : List Tok) (h : d ≤ (sizeM S m fils l).2.2.2.length) :
    sizeM S m fils (cutZ z d l) = ((sizeM S m fils l).1, (sizeM S m fils l).2.1, (sizeM S m fils l).2.2.1, cutZ z d (sizeM S m fils l).2.2.2) := by
  have k2 := (sizeEnd_suf S fils (factorM S m l).1 (factorM S m l).2.2.2).length_le
  have h1 : d ≤ (factorM S m l).2.2.2.length := by
    unfold sizeM at h
    simp only at h
    repeat' split at h
    all_goals (first | exact h | omega)
  unfold sizeM at h ⊢
  rw [factor_cut hz m l h1]
  simp only at h ⊢
  split
  · rfl
  · rename_i h2
    rw [if_neg h2] at h
    split
    · rfl
    · rename_i h2
      rw [if_neg h2] at h
      exact sizeEnd_cut hz fils _ _ h
theorem part_cut {w : List UInt8} (hw : w ≠ []) (l : List Tok) (h : d ≤ (partM S w l).2.2.2.length) :
    partM S w (cutZ z d l) = ((partM S w l).1, (partM S w l).2.1, (partM S w l).2.2.1, cutZ z d (partM S w l).2.2.2) := by
  unfold partM at h ⊢
  cases hk : keyM w l with
  | none => rw [key_none hz hw hk]
  | some l1 =>
    rw [hk] at h
    simp only at h
    have h1 := (size_suf S (signsM l1 false).1 true (signsM l1 false).2).length_le
    have h2 := signs_len l1 false
    rw [key_some hz hk (by omega)]
    simp only
    rw [signs_cut hz l1 false (by omega)]
    simp only
    rw [size_cut hz _ true _ h]
theorem stop_head : headM S [z] = false := by rw [headM, hz.means]; simp [skipB, mean0]
omit hz in
theorem head_eats (l : List Tok) (h : headM S l = true) : (registerM S l).2.2.2.2.length < l.length := by
  cases l with
  | nil => cases h
  | cons x t =>
    have h1 := integer_len S t
    rw [registerM_cons]
    simp only [headM, skipB, Bool.or_eq_true, Bool.and_eq_true, decide_eq_true_eq] at h
    split
    · simp
    · split
      · rename_i h2 h3
        rcases h with ⟨h4, h5⟩ | ⟨h4, h5⟩
        · exact absurd ⟨h4, by omega⟩ h2
        · exfalso
          unfold classM at h3
          rw [if_pos h4, h5] at h3
          simp at h3
      · unfold regEnd
        repeat' split
        all_goals (simp only [List.length_cons]; omega)
theorem start_cut (m : Bool) (l : List Tok) (h : d ≤ (startM S m l).2.2.2.length) :
    startM S m (cutZ z d l) = ((startM S m l).1, (startM S m l).2.1, (startM S m l).2.2.1, cutZ z d (startM S m l).2.2.2) := by
  by_cases hh : headM S l = true
  · have h1 := head_eats l hh
    have h2 : d ≤ (registerM S l).2.2.2.2.length := by
      unfold startM at h
      rw [if_pos hh] at h
      simp only at h
      split at h <;> exact h
    have h3 : headM S (cutZ z d l) = true := by
      cases l with
      | nil => cases hh
      | cons x t => rw [cut_cons (by simp only [List.length_cons] at h1; omega)]; exact hh
    unfold startM
    rw [if_pos hh, if_pos h3, register_cut hz l h2]
    simp only
    split <;> rfl
  · have h3 : ¬ headM S (cutZ z d l) = true := by
      cases l with
      | nil => rw [cut_all (Nat.zero_le _), stop_head hz]; simp
      | cons x t =>
        rcases Nat.lt_or_ge t.length d with h4 | h4
        · rw [cut_all (by simp only [List.length_cons]; omega), stop_head hz]; simp
        · rw [cut_cons h4]; exact hh
    unfold startM at h ⊢
    rw [if_neg hh] at h ⊢
    rw [if_neg h3]
    simp only at h ⊢
    rw [size_cut hz m false l h]
theorem glueEnd_cut (n : Int) (l : List Tok) (h : d ≤ (glueEnd S n l).2.2.length) : glueEnd S n (cutZ z d l) = ((glueEnd S n l).1, (glueEnd S n l).2.1, cutZ z d (glueEnd S n l).2.2) := by
  have k2 := part_len S minusB (partM S plusB l).2.2.2
  have h1 : d ≤ (partM S plusB l).2.2.2.length := by
    unfold glueEnd at h
    simp only at h
    repeat' split at h
    all_goals (simp only at h; omega)
  unfold glueEnd at h ⊢
  rw [part_cut hz (by simp [plusB]) l h1]
  simp only at h ⊢
  split
  · rfl
  · rename_i h2
    rw [if_neg h2] at h
    have h3 : d ≤ (partM S minusB (partM S plusB l).2.2.2).2.2.2.length := by split at h <;> exact h
    rw [part_cut hz (by simp [minusB]) _ h3]
    simp only
    split <;> rfl
theorem glue_cut (l : List Tok) (h : d ≤ (glueM S l).2.2.length) : glueM S (cutZ z d l) = ((glueM S l).1, (glueM S l).2.1, cutZ z d (glueM S l).2.2) := by
  have k2 := (glueEnd_suf S (startM S (signsM l false).1 (signsM l false).2).1.nat (startM S (signsM l false).1 (signsM l false).2).2.2.2).length_le
  have h1 : d ≤ (startM S (signsM l false).1 (signsM l false).2).2.2.2.length := by
    unfold glueM at h
    simp only at h
    split at h
    · exact h
    · omega
  have h2 : d ≤ (signsM l false).2.length := Nat.le_trans h1 (start_suf S _ _).length_le
  unfold glueM at h ⊢
  rw [signs_cut hz l false h2]
  simp only
  rw [start_cut hz _ _ h1]
  simp only at h ⊢
  split
  · rfl
  · rename_i h3
    rw [if_neg h3] at h
    exact glueEnd_cut hz _ _ h
end

/-! ### an error has no answer -/
theorem dimM_err {n : Int} (h : (dimM n).2 ≠ 0) : (dimM n).1 = 0 := by
  unfold dimM at h ⊢
  split
  · rfl
  · rename_i h2; rw [if_neg h2] at h; exact absurd rfl h
theorem times_err {x : Fac} {v : Int} (h : (timesM x v).2 ≠ 0) : (timesM x v).1 = 0 := by
  unfold timesM at h ⊢
  repeat' split
  all_goals (first | rfl | skip)
  repeat rw [if_neg (by assumption)] at h
  exact dimM_err h
theorem measured_err {x : Fac} {u : List UInt8 × Int × Int} (h : (measuredM x u).2 ≠ 0) : (measuredM x u).1 = 0 := by
  unfold measuredM at h ⊢
  split
  · rename_i h1
    rw [if_pos h1] at h
    unfold spM at h ⊢
    split
    · rfl
    · rename_i h2; rw [if_neg h2] at h; exact dimM_err h
  · rename_i h1
    rw [if_neg h1] at h
    unfold measureM at h ⊢
    split
    · rfl
    · rename_i h2; rw [if_neg h2] at h; exact dimM_err h
theorem unitGo_err (x : Fac) (l : List Tok) : ∀ (us : List (List UInt8 × Int × Int)) (y : Int × Int × List Tok), unitGo x l us = some y → y.2.1 ≠ 0 → y.1 = 0
  | [], y, h, _ => by simp [unitGo] at h
  | u :: us, y, h, he => by
    unfold unitGo at h
    cases hk : keyM u.1 l with
    | none => rw [hk] at h; exact unitGo_err x l us y h he
    | some l2 =>
      rw [hk] at h
      simp only [Option.some.injEq] at h
      subst h
      exact measured_err he
theorem unit_err {S : TabS} {x : Fac} {l : List Tok} (h : (unitM S x l).2.1 ≠ 0) : (unitM S x l).1 = 0 := by
  unfold unitM at h ⊢
  simp only at h ⊢
  split
  · rfl
  · rename_i h1
    rw [if_neg h1] at h
    split
    · rename_i h2
      rw [if_pos h2] at h
      exact times_err h
    · rename_i h2
      rw [if_neg h2] at h
      cases hg : unitGo x (blanksM l) unitsL with
      | none => rfl
      | some y => rw [hg] at h; exact unitGo_err x _ _ y hg h
theorem size_err {S : TabS} {m fils : Bool} {l : List Tok} (h : (sizeM S m fils l).2.2.1 ≠ 0) : (sizeM S m fils l).1 = 0 := by
  unfold sizeM sizeEnd at h ⊢
  simp only at h ⊢
  split
  · rfl
  · rename_i h1
    rw [if_neg h1] at h
    split
    · rename_i h2
      rw [if_pos h2] at h
      exact dimM_err h
    · rename_i h2
      rw [if_neg h2] at h
      split
      · rename_i h3
        rw [if_pos h3] at h
        split
        · rfl
        · rename_i h4
          rw [if_neg h4] at h
          exact dimM_err h
      · rename_i h3
        rw [if_neg h3] at h
        exact unit_err h
theorem glue_err {S : TabS} {l : List Tok} (h : (glueM S l).2.1 ≠ 0) : (glueM S l).1 = glz := by
  unfold glueM at h ⊢
  simp only at h ⊢
  split
  · rename_i h1
    rw [if_pos h1] at h
    unfold startM at h ⊢
    simp only at h ⊢
    split
    · rename_i h2
      rw [if_pos h2] at h
      split
      · rfl
      · rename_i h3
        rw [if_neg h3] at h
        exact absurd rfl h
    · rename_i h2
      rw [if_neg h2] at h
      rw [size_err h]
      rfl
  · rename_i h1
    rw [if_neg h1] at h
    unfold glueEnd at h ⊢
    simp only at h ⊢
    split
    · rfl
    · rename_i h2
      rw [if_neg h2] at h
      split
      · rfl
      · rename_i h3
        rw [if_neg h3] at h
        exact absurd rfl h

end Go.Proofs.Yticljfpippbkkaa
