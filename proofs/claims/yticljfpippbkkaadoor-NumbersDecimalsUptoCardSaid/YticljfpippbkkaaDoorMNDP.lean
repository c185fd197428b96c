import Derived.Test.YticljfpippbkkaaDoorMNKW
import Derived.WalkKit
import Derived.Test.YticljfpippbkkaaDoorMLA
/-
  NumbersDecimals, the plain part: what is printed is read as it was. Conditions: none.
-/
namespace Go.Proofs.YticljfpippbkkaaDoor
open Go.RowKit Go.Sp

/-- a digit -/
def digC (d : Nat) : UInt8 := if d < 10 then UInt8.ofNat (48 + d) else UInt8.ofNat (55 + d)
def basF (b : Nat) : Nat → Nat → List UInt8
  | 0, _ => []
  | f + 1, n => if n < b then [digC n] else basF b f (n / b) ++ [digC (n % b)]
/-- a number to a base -/
def basB (b n : Nat) : List UInt8 := basF b (n + 1) n
theorem basF_more (b : Nat) (hb : 2 ≤ b) : ∀ (f g n : Nat), n < f → n < g → basF b f n = basF b g n
  | 0, _, _, h, _ => by omega
  | _ + 1, 0, _, _, h => by omega
  | f + 1, g + 1, n, h1, h2 => by
    unfold basF
    split
    · rfl
    · have : n / b < n := Nat.div_lt_self (by omega) (by omega)
      rw [basF_more b hb f g (n / b) (by omega) (by omega)]
theorem basB_lt {b n : Nat} (h : n < b) : basB b n = [digC n] := by unfold basB basF; rw [if_pos h]
theorem basB_ge {b n : Nat} (hb : 2 ≤ b) (h : ¬ n < b) : basB b n = basB b (n / b) ++ [digC (n % b)] := by
  have : n / b < n := Nat.div_lt_self (by omega) (by omega)
  unfold basB
  rw [basF, if_neg h, basF_more b hb n (n / b + 1) (n / b) (by omega) (by omega)]
theorem dig_bas : (∀ d : Nat, d < 8 → digitM (tokOf (digC d)) 8 = some (d : Int)) ∧ (∀ d : Nat, d < 16 → digitM (tokOf (digC d)) 16 = some (d : Int)) := by decide +kernel

theorem digits_bas (b : Nat) (hb : 2 ≤ b) (hd : ∀ d : Nat, d < b → digitM (tokOf (digC d)) b = some (d : Int)) (n : Nat) : n ≤ 2147483647 → ∀ (k : Int) (rest : List Tok), digitsM b ((basB b n).map tokOf ++ rest) 0 k = digitsM b rest n (k + (basB b n).length) := by
  induction n using Nat.strongRecOn with
  | _ n ih =>
  intro hn k rest
  by_cases h10 : n < b
  · rw [basB_lt h10]
    simp only [List.map_cons, List.map_nil, List.cons_append, List.nil_append, List.length_singleton]
    rw [digitsM, hd n h10]
    simp only
    rw [show minM (0 * (b : Int) + (n : Int)) 1099511627776 = n by unfold minM; rw [if_neg (by omega)]; omega]
    rfl
  · have hlt : n / b < n := Nat.div_lt_self (by omega) (by omega)
    rw [basB_ge hb h10, List.map_append, List.append_assoc, ih (n / b) hlt (by omega)]
    simp only [List.map_cons, List.map_nil, List.cons_append, List.nil_append, List.length_append, List.length_singleton]
    rw [digitsM, hd (n % b) (Nat.mod_lt _ (by omega))]
    simp only
    have hdm : ((n / b : Nat) : Int) * (b : Int) + ((n % b : Nat) : Int) = n := by
      have := Nat.div_add_mod n b
      rw [Nat.mul_comm] at this
      exact_mod_cast this
    rw [show minM (((n / b : Nat) : Int) * (b : Int) + ((n % b : Nat) : Int)) 1099511627776 = n by rw [hdm]; unfold minM; rw [if_neg (by omega)]]
    rw [show k + ((basB b (n / b)).length : Int) + 1 = k + (((basB b (n / b)).length + 1 : Nat) : Int) by omega]
theorem basB_ne {b n : Nat} (hb : 2 ≤ b) : (basB b n).length ≠ 0 := by
  by_cases h : n < b
  · rw [basB_lt h]; simp
  · rw [basB_ge hb h]; simp

def minB (m : Bool) : List UInt8 := if m = true then [45] else []
theorem space_no : ∀ b : Int, digitM (tokOf 32) b = none := by
  intro b
  have h1 : (tokOf 32).cat = 10 := by decide
  unfold digitM
  rw [h1]
  simp
theorem based_end (b : Nat) (n : Nat) (hn : n ≤ 2147483647) (ds : List UInt8) (hl : ds.length ≠ 0) (tail : List Tok) (h : ∀ rest, digitsM b (ds.map tokOf ++ rest) 0 0 = digitsM b rest n (0 + ds.length)) :
    basedM b ((ds ++ [32]).map tokOf ++ tail) = ((n : Int), 0, tail) := by
  have h0 := h (tokOf 32 :: tail)
  have h1 : digitsM b (tokOf 32 :: tail) n (0 + ds.length) = ((n : Int), (0 + (ds.length : Int)), tokOf 32 :: tail) := by rw [digitsM, space_no]
  have e : (ds ++ [32]).map tokOf ++ tail = ds.map tokOf ++ (tokOf 32 :: tail) := by simp
  unfold basedM
  rw [e, h0, h1]
  have h2 : ¬ (0 + (ds.length : Int) = 0) := by omega
  have h3 : ¬ (2147483647 < (n : Int)) := by omega
  simp only [h2, h3, if_false]
  rfl

theorem signs_min (m : Bool) (x : Tok) (l : List Tok) (h1 : otherB x 45 = false) (h2 : otherB x 43 = false) (h3 : blankB x = false) : signsM ((minB m).map tokOf ++ (x :: l)) false = (m, x :: l) := by
  cases m
  · show signsM (x :: l) false = _
    rw [signsM]
    simp [h1, h2, h3]
  · show signsM (tokOf 45 :: x :: l) false = _
    rw [signsM, if_pos (by decide), signsM]
    simp [h1, h2, h3]
theorem tok_cat (c : UInt8) : (tokOf c).cat = 11 ∨ (tokOf c).cat = 10 ∨ (tokOf c).cat = 12 := by
  unfold tokOf
  simp only
  split
  · exact .inl rfl
  · split
    · exact .inr (.inl rfl)
    · exact .inr (.inr rfl)
theorem mean_plain (S : TabS) (c : UInt8) : meansM S (tokOf c) = mean0 := by
  have h := tok_cat c
  unfold meansM
  rw [if_neg (by omega), if_neg (by omega)]
theorem reg_plain (S : TabS) (c : UInt8) (l : List Tok) : registerM S (tokOf c :: l) = (0, 0, false, 0, tokOf c :: l) := by
  rw [registerM_cons, mean_plain, if_neg (by decide), if_pos (by decide)]
/-- a number behind signs, to the base 10 -/
theorem int_dec (S : TabS) (m : Bool) (n : Nat) (hn : n ≤ 2147483647) (tail : List Tok) : integerM S ((minB m ++ (decB n ++ [32])).map tokOf ++ tail) = (turnM n m, 0, tail) := by
  obtain ⟨d, t, hd, ht⟩ := decB_head n
  have hno := dig_not d hd
  have hb := based_end 10 n hn (decB n) (by rw [ht]; simp) tail (fun rest => digits_dec n hn 0 rest)
  have hL : (decB n ++ [32]).map tokOf ++ tail = tokOf (UInt8.ofNat (48 + d)) :: ((t ++ [32]).map tokOf ++ tail) := by rw [ht]; simp
  have hs : signsM ((minB m ++ (decB n ++ [32])).map tokOf ++ tail) false = (m, (decB n ++ [32]).map tokOf ++ tail) := by
    rw [List.map_append, List.append_assoc, hL]
    exact signs_min m _ _ hno.1.1 hno.1.2.1 hno.1.2.2
  have hr : registerM S ((decB n ++ [32]).map tokOf ++ tail) = (0, 0, false, 0, (decB n ++ [32]).map tokOf ++ tail) := by rw [hL]; exact reg_plain ..
  have hp : plainM S ((decB n ++ [32]).map tokOf ++ tail) = (0, false, 0, (decB n ++ [32]).map tokOf ++ tail) := by
    rw [hL, plainM, mean_plain]
    generalize UInt8.ofNat (48 + d) = c at *
    simp [hno, mean0]
  unfold integerM
  rw [hs]
  simp only
  rw [hr]
  have hb' : basedM 10 ((decB n ++ [32]).map tokOf ++ tail) = ((n : Int), 0, tail) := hb
  generalize (decB n ++ [32]).map tokOf ++ tail = Z at *
  simp [intEnd, intPlain, hp, hb']
/-- a number behind signs, to the bases 8 and 16 -/
theorem int_bas (S : TabS) (m : Bool) (n : Nat) (hn : n ≤ 2147483647) (tail : List Tok) (b : Nat) (c : UInt8) (h : (b = 8 ∧ c = 39) ∨ (b = 16 ∧ c = 34)) :
    integerM S ((minB m ++ (c :: (basB b n ++ [32]))).map tokOf ++ tail) = (turnM n m, 0, tail) := by
  have hb2 : 2 ≤ b := by omega
  have hd : ∀ d : Nat, d < b → digitM (tokOf (digC d)) b = some (d : Int) := by
    rcases h with ⟨rfl, -⟩ | ⟨rfl, -⟩
    · exact dig_bas.1
    · exact dig_bas.2
  have hb := based_end b n hn (basB b n) (basB_ne hb2) tail (fun rest => digits_bas b hb2 hd n hn 0 rest)
  have e1 : (minB m ++ (c :: (basB b n ++ [32]))).map tokOf ++ tail = (minB m).map tokOf ++ (tokOf c :: ((basB b n ++ [32]).map tokOf ++ tail)) := by simp
  generalize (basB b n ++ [32]).map tokOf ++ tail = Z at *
  have hc : (otherB (tokOf c) 45 = false ∧ otherB (tokOf c) 43 = false ∧ blankB (tokOf c) = false) ∧ otherB (tokOf c) 96 = false := by
    rcases h with ⟨-, rfl⟩ | ⟨-, rfl⟩ <;> decide
  have hs : signsM ((minB m ++ (c :: (basB b n ++ [32]))).map tokOf ++ tail) false = (m, tokOf c :: Z) := by
    rw [e1]
    exact signs_min m _ _ hc.1.1 hc.1.2.1 hc.1.2.2
  have hp : plainM S (tokOf c :: Z) = ((n : Int), true, 0, tail) := by
    rw [plainM, mean_plain, if_neg (by decide), if_neg (by rw [hc.2]; decide)]
    rcases h with ⟨rfl, rfl⟩ | ⟨rfl, rfl⟩
    · rw [if_pos (by decide)]
      have : basedM 8 Z = ((n : Int), 0, tail) := hb
      rw [this]
    · rw [if_neg (by decide), if_pos (by decide)]
      have : basedM 16 Z = ((n : Int), 0, tail) := hb
      rw [this]
  unfold integerM
  rw [hs]
  simp only
  rw [reg_plain]
  simp [intEnd, intPlain, hp]
end Go.Proofs.YticljfpippbkkaaDoor

/-
  Digits behind a point: what is printed of a part of a point is read as it was. Conditions: none.
-/
namespace Go.Proofs.YticljfpippbkkaaDoor

/-- digits that are printed -/
def fracN : Nat → Nat → Nat → List Nat
  | 0, _, _ => []
  | f + 1, x, d => ((if 65536 < d then x + 32768 - 50000 else x) / 65536) :: (if 10 * ((if 65536 < d then x + 32768 - 50000 else x) % 65536) ≤ d * 10 then [] else fracN f (10 * ((if 65536 < d then x + 32768 - 50000 else x) % 65536)) (d * 10))
def decN : List Nat → Nat
  | [] => 0
  | c :: t => (decN t + 131072 * c) / 10
def okD (ds : List Nat) (f : Nat) : Bool := ds.all (fun d => Nat.blt d 10) && Nat.beq ((decN ds + 1) / 2) f && Nat.blt 0 ds.length
def digsF (f : Nat) : List Nat := fracN 6 (10 * f + 5) 10
def rt (f : Nat) : Bool := okD (digsF f) f
set_option maxRecDepth 100000
theorem rt_0 : ∀ a, a < 16 → ∀ b, b < 256 → rt (0 + (256 * a + b)) = true := by decide +kernel
theorem rt_1 : ∀ a, a < 16 → ∀ b, b < 256 → rt (4096 + (256 * a + b)) = true := by decide +kernel
theorem rt_2 : ∀ a, a < 16 → ∀ b, b < 256 → rt (8192 + (256 * a + b)) = true := by decide +kernel
theorem rt_3 : ∀ a, a < 16 → ∀ b, b < 256 → rt (12288 + (256 * a + b)) = true := by decide +kernel
theorem rt_4 : ∀ a, a < 16 → ∀ b, b < 256 → rt (16384 + (256 * a + b)) = true := by decide +kernel
theorem rt_5 : ∀ a, a < 16 → ∀ b, b < 256 → rt (20480 + (256 * a + b)) = true := by decide +kernel
theorem rt_6 : ∀ a, a < 16 → ∀ b, b < 256 → rt (24576 + (256 * a + b)) = true := by decide +kernel
theorem rt_7 : ∀ a, a < 16 → ∀ b, b < 256 → rt (28672 + (256 * a + b)) = true := by decide +kernel
theorem rt_8 : ∀ a, a < 16 → ∀ b, b < 256 → rt (32768 + (256 * a + b)) = true := by decide +kernel
theorem rt_9 : ∀ a, a < 16 → ∀ b, b < 256 → rt (36864 + (256 * a + b)) = true := by decide +kernel
theorem rt_10 : ∀ a, a < 16 → ∀ b, b < 256 → rt (40960 + (256 * a + b)) = true := by decide +kernel
theorem rt_11 : ∀ a, a < 16 → ∀ b, b < 256 → rt (45056 + (256 * a + b)) = true := by decide +kernel
theorem rt_12 : ∀ a, a < 16 → ∀ b, b < 256 → rt (49152 + (256 * a + b)) = true := by decide +kernel
theorem rt_13 : ∀ a, a < 16 → ∀ b, b < 256 → rt (53248 + (256 * a + b)) = true := by decide +kernel
theorem rt_14 : ∀ a, a < 16 → ∀ b, b < 256 → rt (57344 + (256 * a + b)) = true := by decide +kernel
theorem rt_15 : ∀ a, a < 16 → ∀ b, b < 256 → rt (61440 + (256 * a + b)) = true := by decide +kernel
theorem rt_ok (f : Nat) (h : f < 65536) : rt f = true := by
  obtain ⟨c, hc⟩ : ∃ c, f / 4096 = c := ⟨_, rfl⟩
  obtain ⟨a, ha⟩ : ∃ a, f % 4096 / 256 = a := ⟨_, rfl⟩
  obtain ⟨b, hb⟩ : ∃ b, f % 256 = b := ⟨_, rfl⟩
  have hf : f = 4096 * c + (256 * a + b) := by omega
  have ha2 : a < 16 := by omega
  have hb2 : b < 256 := by omega
  have hc2 : c < 16 := by omega
  clear hc ha hb h
  subst hf
  match c, hc2 with
  | 0, _ => exact rt_0 a ha2 b hb2
  | 1, _ => exact rt_1 a ha2 b hb2
  | 2, _ => exact rt_2 a ha2 b hb2
  | 3, _ => exact rt_3 a ha2 b hb2
  | 4, _ => exact rt_4 a ha2 b hb2
  | 5, _ => exact rt_5 a ha2 b hb2
  | 6, _ => exact rt_6 a ha2 b hb2
  | 7, _ => exact rt_7 a ha2 b hb2
  | 8, _ => exact rt_8 a ha2 b hb2
  | 9, _ => exact rt_9 a ha2 b hb2
  | 10, _ => exact rt_10 a ha2 b hb2
  | 11, _ => exact rt_11 a ha2 b hb2
  | 12, _ => exact rt_12 a ha2 b hb2
  | 13, _ => exact rt_13 a ha2 b hb2
  | 14, _ => exact rt_14 a ha2 b hb2
  | 15, _ => exact rt_15 a ha2 b hb2
  | n + 16, h => exact absurd h (by omega)
end Go.Proofs.YticljfpippbkkaaDoor

/-
  NumbersDecimals, the plain part of dimensions. Conditions: none.
-/
namespace Go.Proofs.YticljfpippbkkaaDoor
open Go.RowKit Go.Sp

def chD (d : Nat) : UInt8 := UInt8.ofNat (48 + d)
theorem chD_nat {d : Nat} (h : d < 10) : (chD d).toNat = 48 + d := by unfold chD; rw [UInt8.toNat_ofNat']; omega
def fracB (f : Nat) : List UInt8 := (digsF f).map chD
theorem decGo_bytes : ∀ ds : List Nat, (∀ d ∈ ds, d < 10) → decGo (ds.map chD) = (decN ds : Int)
  | [], _ => rfl
  | d :: ds, h => by
    have h1 := decGo_bytes ds fun x hx => h x (List.mem_cons_of_mem _ hx)
    have h2 := h d (List.mem_cons_self ..)
    rw [List.map_cons, decGo, h1, chD_nat h2, decN, Int.tdiv_eq_ediv_of_nonneg (by omega)]
    omega
theorem fracN_len : ∀ (f x d : Nat), (fracN f x d).length ≤ f
  | 0, _, _ => Nat.le_refl _
  | f + 1, x, d => by
    rw [fracN, List.length_cons]
    apply Nat.succ_le_succ
    generalize (if 65536 < d then x + 32768 - 50000 else x) = y
    split
    · exact Nat.zero_le _
    · exact fracN_len f _ _
theorem digsF_len (f : Nat) : (digsF f).length ≤ 6 := fracN_len _ _ _
theorem okD_spec {ds : List Nat} {f : Nat} (h : okD ds f = true) (hl : ds.length ≤ 6) : (∀ d ∈ ds, d < 10) ∧ decsM (ds.map chD) = f ∧ 0 < (ds.map chD).length := by
  unfold okD at h
  simp only [Bool.and_eq_true, List.all_eq_true, Nat.blt_eq] at h
  obtain ⟨⟨h2, h3⟩, h4⟩ := h
  have h3 := Nat.eq_of_beq_eq_true h3
  refine ⟨h2, ?_, by rw [List.length_map]; exact h4⟩
  unfold decsM
  rw [List.take_of_length_le (by rw [List.length_map]; omega), decGo_bytes _ h2, Int.tdiv_eq_ediv_of_nonneg (by omega)]
  omega
theorem frac_ok (f : Nat) (h : f < 65536) : (∀ d ∈ digsF f, d < 10) ∧ decsM (fracB f) = f ∧ 0 < (fracB f).length := okD_spec (rt_ok f h) (digsF_len f)
theorem tok_dig : ∀ d : Nat, d < 10 → digitM (tokOf (chD d)) 10 = some (d : Int) ∧ (tokOf (chD d)).chr = chD d := by decide +kernel
theorem fracGo_text : ∀ (ds : List Nat), (∀ d ∈ ds, d < 10) → ∀ rest : List Tok, (∀ x l, rest = x :: l → digitM x 10 = none) → fracGo ((ds.map chD).map tokOf ++ rest) = (ds.map chD, rest)
  | [], _, rest, hr => by
    cases rest with
    | nil => rfl
    | cons x l => show fracGo (x :: l) = _; rw [fracGo, hr x l rfl]; rfl
  | d :: ds, h, rest, hr => by
    have h1 := fracGo_text ds (fun x hx => h x (List.mem_cons_of_mem _ hx)) rest hr
    have h2 := tok_dig d (h d (List.mem_cons_self ..))
    simp only [List.map_cons, List.cons_append] at h1 ⊢
    rw [fracGo, h2.1]
    simp only
    rw [h1, h2.2]

theorem wrS (x : Int) (h : -1000000000000 ≤ x ∧ x ≤ 1000000000000) : wrap64 x = x := wrap64_id _ (by omega) (by omega)
theorem pt_value (m : Bool) (q f : Nat) (hf : f < 65536) (hs : 65536 * q + f ≤ 1073741823) : measuredM ⟨q, f, m⟩ ([112, 116], 1, 1) = (if m = true then -((65536 * q + f : Nat) : Int) else ((65536 * q + f : Nat) : Int), 0) := by
  have b1 : -1000000000000 ≤ (q : Int) * 1 ∧ (q : Int) * 1 ≤ 1000000000000 := by omega
  have b2 : -1000000000000 ≤ 1 * (f : Int) ∧ 1 * (f : Int) ≤ 1000000000000 := by omega
  have b4 : -1000000000000 ≤ (f : Int) + 0 ∧ (f : Int) + 0 ≤ 1000000000000 := by omega
  have b7 : -1000000000000 ≤ (q : Int) + 0 ∧ (q : Int) + 0 ≤ 1000000000000 := by omega
  have b8 : -1000000000000 ≤ 65536 * (q : Int) ∧ 65536 * (q : Int) ≤ 1000000000000 := by omega
  have b9 : -1000000000000 ≤ 65536 * (q : Int) + f ∧ 65536 * (q : Int) + f ≤ 1000000000000 := by omega
  have b10 : -1000000000000 ≤ -(65536 * (q : Int) + f) ∧ -(65536 * (q : Int) + f) ≤ 1000000000000 := by omega
  have c1 : ¬ 2147483647 < (q : Int) := by omega
  have c2 : ¬ (65536 * (q : Int) + f < -1073741823 ∨ 1073741823 < 65536 * (q : Int) + f) := by omega
  have c3 : ¬ (-(65536 * (q : Int) + f) < -1073741823 ∨ 1073741823 < -(65536 * (q : Int) + f)) := by omega
  have w5 : (f : Int).tdiv 65536 = 0 := by rw [Int.tdiv_eq_ediv_of_nonneg (by omega)]; omega
  have w6 : (f : Int).tmod 65536 = f := by rw [Int.tmod_eq_emod_of_nonneg (by omega)]; omega
  have e0 : ((65536 * q + f : Nat) : Int) = 65536 * (q : Int) + f := by omega
  rw [e0]
  have w1 : wrap64 ((q : Int) * 1) = q := (wrS _ b1).trans (Int.mul_one _)
  have w2 : wrap64 (1 * (f : Int)) = f := (wrS _ b2).trans (Int.one_mul _)
  have w3 : wrap64 0 = 0 := wrS 0 (by omega)
  have w4 : wrap64 ((f : Int) + 0) = f := (wrS _ b4).trans (Int.add_zero _)
  have w7 : wrap64 ((q : Int) + 0) = q := (wrS _ b7).trans (Int.add_zero _)
  unfold measuredM
  rw [if_neg (by decide)]
  unfold measureM
  simp only
  rw [if_neg c1, w1, Int.tmod_one, Int.mul_zero, w3, w2, w4, Int.tdiv_one, Int.tdiv_one, w5, w6, w7, wrS _ b8, wrS _ b9]
  cases m
  · simp only [turnM, if_false, Bool.false_eq_true]
    unfold dimM
    rw [if_neg c2]
  · simp only [turnM, if_true]
    rw [wrS _ b10]
    unfold dimM
    rw [if_neg c3]

/-- a dimension as it is printed -/
def prtB (m : Bool) (q f : Nat) : List UInt8 := minB m ++ (decB q ++ (46 :: fracB f))
theorem dimen_text (m : Bool) (q f : Nat) (hf : f < 65536) (hs : 65536 * q + f ≤ 1073741823) (tail : List Tok) :
    dimenM newS ((prtB m q f ++ [112, 116, 32]).map tokOf ++ tail) = (if m = true then -((65536 * q + f : Nat) : Int) else ((65536 * q + f : Nat) : Int), 0, tail) ∧
    UnitP newS (factorM newS (signsM ((prtB m q f ++ [112, 116, 32]).map tokOf ++ tail) false).1 (signsM ((prtB m q f ++ [112, 116, 32]).map tokOf ++ tail) false).2).1 (factorM newS (signsM ((prtB m q f ++ [112, 116, 32]).map tokOf ++ tail) false).1 (signsM ((prtB m q f ++ [112, 116, 32]).map tokOf ++ tail) false).2).2.2.2 := by
  obtain ⟨d, t, hd, ht⟩ := decB_head q
  have hno := dig_not d hd
  obtain ⟨hfd, hfv, hfl⟩ := frac_ok f hf
  obtain ⟨R, hR⟩ : ∃ R, tokOf 112 :: tokOf 116 :: tokOf 32 :: tail = R := ⟨_, rfl⟩
  obtain ⟨Z, hZ⟩ : ∃ Z, (decB q).map tokOf ++ (tokOf 46 :: ((fracB f).map tokOf ++ R)) = Z := ⟨_, rfl⟩
  have hL : Z = tokOf (UInt8.ofNat (48 + d)) :: (t.map tokOf ++ (tokOf 46 :: ((fracB f).map tokOf ++ R))) := by rw [← hZ, ht]; rfl
  have hsg : signsM ((prtB m q f ++ [112, 116, 32]).map tokOf ++ tail) false = (m, Z) := by
    have e : (prtB m q f ++ [112, 116, 32]).map tokOf ++ tail = (minB m).map tokOf ++ Z := by rw [← hZ, ← hR]; simp [prtB]
    rw [e, hL]
    exact signs_min m _ _ hno.1.1 hno.1.2.1 hno.1.2.2
  have hr : registerM newS Z = (0, 0, false, 0, Z) := by rw [hL]; exact reg_plain ..
  have hp : plainM newS Z = (0, false, 0, Z) := by
    rw [hL, plainM, mean_plain]
    generalize UInt8.ofNat (48 + d) = c at *
    simp [hno, mean0]
  have hdg : digitsM 10 Z 0 0 = ((q : Int), (0 + ((decB q).length : Int)), tokOf 46 :: ((fracB f).map tokOf ++ R)) := by
    rw [← hZ, digits_dec q (by omega), digitsM, show digitM (tokOf 46) 10 = none by decide]
  have hfr : fracGo ((fracB f).map tokOf ++ R) = (fracB f, R) := fracGo_text _ hfd R fun x l h => by
    rw [← hR] at h
    cases h
    decide
  have hdc : decimalM Z = (⟨q, f, false⟩, true, R) := by
    unfold decimalM
    rw [hdg]
    simp only
    rw [if_pos (.inl (by decide)), hfr, hfv]
    simp only [Prod.mk.injEq, true_and, and_true, decide_eq_true_eq]
    omega
  have hfc : factorM newS m Z = (⟨q, f, m⟩, false, 0, R) := by
    unfold factorM
    rw [hr]
    simp only
    unfold facPlain
    rw [hp]
    simp only
    rw [hdc]
    simp
  have hun : unitGo ⟨q, f, m⟩ R unitsL = some ((measuredM ⟨q, f, m⟩ ([112, 116], 1, 1)).1, (measuredM ⟨q, f, m⟩ ([112, 116], 1, 1)).2, tail) := by
    have hk : keyM [112, 116] R = some (tokOf 32 :: tail) := by
      rw [← hR]
      unfold keyM
      rw [blanksM, if_neg (by decide), keyGo, if_pos (by decide), keyGo, if_pos (by decide)]
      rfl
    unfold unitsL
    rw [unitGo]
    simp only
    rw [hk]
    rfl
  have hbl : blanksM R = R := by rw [← hR, blanksM, if_neg (by decide)]
  have hrr : registerM newS R = (0, 0, false, 0, R) := by rw [← hR]; exact reg_plain ..
  have hms : measuredM ⟨q, f, m⟩ ([112, 116], 1, 1) = (if m = true then -((65536 * q + f : Nat) : Int) else ((65536 * q + f : Nat) : Int), 0) := by
    exact pt_value m q f hf hs
  refine ⟨?_, ?_⟩
  · unfold dimenM
    rw [hsg]
    simp only
    unfold sizeM
    rw [hfc]
    simp only
    unfold sizeEnd unitM
    rw [hbl, hrr]
    simp only
    rw [hun, hms]
    simp
  · rw [hsg]
    simp only
    rw [hfc]
    simp only
    exact .inr (.inr (by rw [hbl, hun]; rfl))
end Go.Proofs.YticljfpippbkkaaDoor

/-
  A number to a base, as a text. Conditions: those that each theorem names.
-/
namespace Go.Proofs.YticljfpippbkkaaDoor
open Go.RowKit Go.Sp

theorem dig_cut (k : Nat) (h : k < 16) : (⟨#[48, 49, 50, 51, 52, 53, 54, 55, 56, 57, 65, 66, 67, 68, 69, 70]⟩ : ByteArray).extract k (k + 1) = ⟨#[digC k]⟩ := by
  have : ∀ k : Nat, k < 16 → (⟨#[48, 49, 50, 51, 52, 53, 54, 55, 56, 57, 65, 66, 67, 68, 69, 70]⟩ : ByteArray).extract k (k + 1) = ⟨#[digC k]⟩ := by decide +kernel
  exact this k h
theorem basF_len (b : Nat) : ∀ (f n : Nat), (basF b f n).length ≤ f
  | 0, _ => Nat.le_refl _
  | f + 1, n => by
    unfold basF
    split
    · simp
    · have := basF_len b f (n / b); simp only [List.length_append, List.length_singleton]; omega

def DrewOf (w x : World) : Prop := ∃ q, w.drewN q = x
theorem drew_of {w x : World} (h : DrewOf w x) (q : Nat) : DrewOf w (x.drewN q) := by
  obtain ⟨p, rfl⟩ := h
  exact ⟨p + q, (World.drewN_drewN _ _ _).symm⟩
set_option maxRecDepth 100000 in
set_option maxHeartbeats 4000000 in
theorem lawbased_any (b : Nat) (hb : 2 ≤ b) (hb2 : b ≤ 16) (n : Nat) : n < 1099511627776 → ∀ w, Calls Tryd.prog 5 #[.int .i64 n, .int .i64 b] w fun e w' => e = .returned ((.string ⟨(basB b n).toArray⟩)) ∧ ∃ q, w.drewN q = w' := by
  induction n using Nat.strongRecOn with
  | _ n ih =>
  intro hn w
  have z16 : (⟨#[48, 49, 50, 51, 52, 53, 54, 55, 56, 57, 65, 66, 67, 68, 69, 70]⟩ : ByteArray).size = 16 := rfl
  by_cases hlt : n < b
  · rw [basB_lt hlt]
    have d1 := dig_cut n (by omega)
    have i1 : (n : Int) < (b : Int) := by omega
    have i2 : (n : Int) + 1 ≤ 16 := by omega
    have i3 : ((n : Int) + 1).toNat = n + 1 := by omega
    clear ih hn hlt
    go_enter Tryd.func5, Tryd.ntmps5
    generalize (⟨#[48, 49, 50, 51, 52, 53, 54, 55, 56, 57, 65, 66, 67, 68, 69, 70]⟩ : ByteArray) = hs at *
    go_wp2
    go_ret
    exact ⟨rfl, 0, rfl⟩
  · have hlt2 : n / b < n := Nat.div_lt_self (by omega) (by omega)
    have IH := Lib.hid (ih (n / b) hlt2 (by omega))
    have HB := Lib.hid (basB_ge hb hlt)
    have hql := basF_len b (n / b + 1) (n / b)
    rw [show basF b (n / b + 1) (n / b) = basB b (n / b) from rfl] at hql
    have e1 : (n : Int).tdiv b = ((n / b : Nat) : Int) := by rw [Int.tdiv_eq_ediv_of_nonneg (by omega)]; exact_mod_cast rfl
    have e2 : (n : Int).tmod b = ((n % b : Nat) : Int) := by rw [Int.tmod_eq_emod_of_nonneg (by omega)]; exact_mod_cast rfl
    have e3 : (n : Int) / b = ((n / b : Nat) : Int) := by exact_mod_cast rfl
    have e4 : (n : Int) % b = ((n % b : Nat) : Int) := by exact_mod_cast rfl
    have hmb : n % b < b := Nat.mod_lt _ (by omega)
    obtain ⟨q, hq⟩ : ∃ q, n / b = q := ⟨_, rfl⟩
    obtain ⟨m, hm⟩ : ∃ m, n % b = m := ⟨_, rfl⟩
    rw [hq] at IH HB hql e1 e3 hlt2
    rw [hm] at HB e2 e4 hmb
    have d1 := dig_cut m (by omega)
    have hap : (⟨(basB b q).toArray⟩ : ByteArray) ++ ⟨#[digC m]⟩ = ⟨(basB b n).toArray⟩ := by rw [HB.out]; apply ByteArray.ext; simp
    generalize digC m = c at *
    generalize basB b q = Q at *
    generalize basB b n = R at *
    have hlq : ¬ 9223372036854775807 < Q.length + 1 := by omega
    have i1 : ¬ (n : Int) < (b : Int) := by omega
    have i2 : (m : Int) + 1 ≤ 16 := by omega
    have i3 : ((m : Int) + 1).toNat = m + 1 := by omega
    have i4 : (m : Int) ≤ (m : Int) + 1 := by omega
    have i5 : (0 : Int) ≤ (m : Int) := by omega
    have i6 : m + 1 ≤ 16 := by omega
    have i7 : (0 : Int) ≤ (m : Int) + 1 := by omega
    have i8 : (m : Int) ≤ 16 := by omega
    have i9 : ((m : Int)).toNat = m := by omega
    have iz : ¬ (b : Int) = 0 := by omega
    have iz2 : ¬ b = 0 := by omega
    have iz3 : ((b : Int) == 0) = false := by rw [beq_eq_false_iff_ne]; exact iz
    have e5 : IntKind.i64.wrap (q : Int) = q := by rw [IntWalk.i64_left]; exact wrap64_id _ (by omega) (by omega)
    have e6 : IntKind.i64.wrap (m : Int) = m := by rw [IntWalk.i64_left]; exact wrap64_id _ (by omega) (by omega)
    have e7 : IntKind.i64.wrap ((m : Int) + 1) = m + 1 := by rw [IntWalk.i64_left]; exact wrap64_id _ (by omega) (by omega)
    clear ih hn hlt HB hlt2 hql
    go_enter Tryd.func5, Tryd.ntmps5
    generalize (⟨#[48, 49, 50, 51, 52, 53, 54, 55, 56, 57, 65, 66, 67, 68, 69, 70]⟩ : ByteArray) = hs at *
    go_wp2_with fail
    refine wp_region_tail (DrewOf w) 15 (by kernel_rfl) (by kernel_rfl) (⟨1, rfl⟩) ?_
    simp only [List.take_succ_cons, List.take_zero, List.drop_succ_cons, List.drop_zero]
    repeat (refine wpQuiet_step (fun K hK => ?_); go_simp; first | (refine hK _ ?_; clear hK K) | (apply Exists.intro; refine ⟨fun w' hw' => ?_, hK _ ?_⟩; (first | rfl | (go_at_call 5; with_reducible refine Calls.mono (IH.out _) ?_; rintro e w2 ⟨rfl, q2, rfl⟩; exact ⟨rfl, drew_of hw' q2⟩)); clear hK K))
    refine wpQuiet_nil ?_
    intro w' hw'
    go_wp2
    go_ret
    exact ⟨rfl, hw'⟩
end Go.Proofs.YticljfpippbkkaaDoor
