
/-
  The reader's model: lines, characters, names, tokens. Conditions: none; no program in sight.
-/
import Derived.Test.YtpcdbeicpmjooaaDoorCodB
import Derived.Test.YtpcdbeicpmjooaaDoorCodesV
namespace Go.Proofs.YtpcdbeicpmjooaaDoor
open Go.RowKit Go.Sp

/-- what two characters alike and a third stand for, ahead of what follows -/
def hexS (e : UInt8) (r : List UInt8) : List UInt8 := match r with
  | [] => [e ^^^ 64]
  | f :: s => if hexB e = true ∧ hexB f = true then UInt8.ofNat (16 * hexN e + hexN f) :: s else (e ^^^ 64) :: f :: s

/-- what stands for a character is put in its place, once -/
def step1 (C : List Int) : List UInt8 → Option (List UInt8)
  | [] => none
  | [_] => none
  | [_, _] => none
  | c :: d :: e :: r => if codeAt C c = 7 ∧ d = c ∧ e.toNat < 128 then some (hexS e r) else none

def madeF (C : List Int) : Nat → List UInt8 → List UInt8
  | 0, l => l
  | n + 1, l => match step1 C l with
    | none => l
    | some l' => madeF C n l'

def made (C : List Int) (l : List UInt8) : List UInt8 := madeF C l.length l

/-- Letters, as far as they come -/
def lettersF (C : List Int) : Nat → List UInt8 → List UInt8 × List UInt8
  | 0, l => ([], l)
  | n + 1, l => match made C l with
    | [] => ([], [])
    | d :: r => if codeAt C d = 11 then (d :: (lettersF C n r).1, (lettersF C n r).2) else ([], d :: r)

structure Rs where
  text : List UInt8
  left : List UInt8
  state : Nat
  number : Nat
  stopped : Bool
  ended : Bool

/-- a name, behind its escape -/
def nameM (C : List Int) (R : Rs) : List UInt8 × Rs :=
  match made C R.left with
  | [] => ([], { R with left := [] })
  | c :: r =>
    if codeAt C c = 11 then (c :: (lettersF C (r.length + 1) r).1, { R with left := (lettersF C (r.length + 1) r).2, state := 2 })
    else if codeAt C c = 10 then ([c], { R with left := r, state := 2 }) else ([c], { R with left := r, state := 1 })

/-- the next line -/
def lineM (endl : Int) (l : List UInt8) : List UInt8 := if 0 ≤ endl ∧ endl ≤ 255 then Lib.trimRightB l 32 ++ [UInt8.ofNat endl.toNat] else Lib.trimRightB l 32
def beginM (endl : Int) (R : Rs) : Bool × Rs :=
  if R.stopped = true ∨ R.ended = true ∨ R.text = [] then (false, { R with ended := true })
  else (true, { R with text := (cutAt 10 R.text).2.1, left := lineM endl (cutAt 10 R.text).1, state := 0, number := R.number + 1 })

def tok0 : Tok := ⟨0, 0, ByteArray.empty⟩
def blankT : Tok := ⟨10, 32, ByteArray.empty⟩
def nameT (l : List UInt8) : Tok := ⟨16, 0, ⟨l.toArray⟩⟩
def charT (k : Int) (c : UInt8) : Tok := ⟨k, c, ByteArray.empty⟩

/-- a token and an error; what the reader is then -/
def nextF (C : List Int) (endl : Int) : Nat → Rs → Tok × Int × Rs
  | 0, R => (tok0, 3, R)
  | n + 1, R => match made C R.left with
    | [] => if (beginM endl { R with left := [] }).1 = true then nextF C endl n (beginM endl { R with left := [] }).2 else (tok0, 3, (beginM endl { R with left := [] }).2)
    | c :: r =>
      if codeAt C c = 0 then (nameT (nameM C { R with left := r }).1, 0, (nameM C { R with left := r }).2)
      else if codeAt C c = 5 then (if R.state = 0 then (nameT [112, 97, 114], 0, { R with left := [] }) else if R.state = 1 then (blankT, 0, { R with left := [] }) else nextF C endl n { R with left := [] })
      else if codeAt C c = 9 then nextF C endl n { R with left := r }
      else if codeAt C c = 14 then nextF C endl n { R with left := [] }
      else if codeAt C c = 10 then (if R.state = 1 then (blankT, 0, { R with left := r, state := 2 }) else nextF C endl n { R with left := r })
      else if codeAt C c = 15 then (tok0, 160, { R with left := r })
      else (charT (codeAt C c) c, 0, { R with left := r, state := 1 })

def Rs.size (R : Rs) : Nat := 3 * R.text.length + R.left.length

def goodC (C : List Int) : Bool := C.all fun x => decide (0 ≤ x ∧ x ≤ 15)

def nextM (C : List Int) (endl : Int) (R : Rs) : Tok × Int × Rs :=
  if goodC C = false then (tok0, 1, R) else if R.ended = true then (tok0, 3, R) else nextF C endl (R.size + 1) R

def newR (text : List UInt8) : Rs := ⟨text, [], 0, 0, false, false⟩

theorem hexS_len (e : UInt8) (r : List UInt8) : (hexS e r).length ≤ r.length + 1 := by
  cases r with
  | nil => simp [hexS]
  | cons f s => simp only [hexS]; split <;> simp

theorem step1_len (C : List Int) : ∀ (l l' : List UInt8), step1 C l = some l' → l'.length + 2 ≤ l.length := by
  intro l l' h
  match l, h with
  | c :: d :: e :: r, h =>
    simp only [step1] at h
    split at h
    · cases h
      have := hexS_len e r
      simp only [List.length_cons]
      omega
    · cases h

theorem madeF_len (C : List Int) : ∀ (n : Nat) (l : List UInt8), (madeF C n l).length ≤ l.length := by
  intro n
  induction n with
  | zero => intro l; exact Nat.le_refl _
  | succ n ih =>
    intro l
    rw [madeF]
    cases h : step1 C l with
    | none => exact Nat.le_refl _
    | some l' => have := step1_len C l l' h; have := ih l'; simp only; omega
theorem made_len (C : List Int) (l : List UInt8) : (made C l).length ≤ l.length := madeF_len C _ l

theorem madeF_enough (C : List Int) : ∀ (n m : Nat) (l : List UInt8), l.length ≤ n → l.length ≤ m → madeF C n l = madeF C m l := by
  intro n
  induction n with
  | zero =>
    intro m l hn _
    have : l = [] := List.eq_nil_of_length_eq_zero (by omega)
    subst this
    cases m <;> rfl
  | succ n ih =>
    intro m l hn hm
    cases m with
    | zero =>
      have : l = [] := List.eq_nil_of_length_eq_zero (by omega)
      subst this
      rfl
    | succ m =>
      rw [madeF, madeF]
      cases h : step1 C l with
      | none => rfl
      | some l' => have := step1_len C l l' h; exact ih m l' (by omega) (by omega)

theorem step1_code (C : List Int) {c : UInt8} {r : List UInt8} (h : codeAt C c ≠ 7) : step1 C (c :: r) = none := by
  match r with
  | [] => rfl
  | [_] => rfl
  | d :: e :: r => rw [step1, if_neg (fun h2 => h h2.1)]
theorem step1_short (C : List Int) {l : List UInt8} (h : l.length < 3) : step1 C l = none := by
  match l, h with
  | [], _ => rfl
  | [_], _ => rfl
  | [_, _], _ => rfl
theorem step1_other (C : List Int) {c d e : UInt8} {r : List UInt8} (h : d ≠ c ∨ 128 ≤ e.toNat) : step1 C (c :: d :: e :: r) = none := by
  rw [step1, if_neg]
  rintro ⟨_, h2, h3⟩
  rcases h with h | h
  · exact h h2
  · omega
theorem step1_yes (C : List Int) {c e : UInt8} {r : List UInt8} (h : codeAt C c = 7) (h2 : e.toNat < 128) : step1 C (c :: c :: e :: r) = some (hexS e r) := by
  rw [step1, if_pos ⟨h, rfl, h2⟩]

theorem made_none (C : List Int) {l : List UInt8} (h : step1 C l = none) : made C l = l := by
  unfold made
  cases hl : l.length with
  | zero => rfl
  | succ n => rw [madeF, h]
theorem made_some (C : List Int) {l l' : List UInt8} (h : step1 C l = some l') : made C l = made C l' := by
  have h1 := step1_len C l l' h
  unfold made
  obtain ⟨n, hn⟩ : ∃ n, l.length = n + 1 := ⟨l.length - 1, by omega⟩
  rw [hn, madeF, h]
  exact madeF_enough C _ _ _ (by omega) (Nat.le_refl _)

end Go.Proofs.YtpcdbeicpmjooaaDoor
