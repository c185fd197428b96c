
/-
  The chain of greater characters. Conditions: those that each theorem names.
-/
import Derived.Test.YtembknlhocijkaaFtY
namespace Go.Proofs.Ytembknlhocijkaa
open Go.RowKit Go.Sp
variable {w w' W : World} {A : HProp} {x : FV} {F : Fnt}

theorem getD_l {α : Type} {a b : List α} {i : Nat} {d : α} (h : i < a.length) : (a ++ b).getD i d = a.getD i d := by
  rw [List.getD_eq_getElem?_getD, List.getD_eq_getElem?_getD, List.getElem?_append_left h]
theorem getD_r {α : Type} {a b : List α} {i : Nat} {d : α} (h : a.length ≤ i) : (a ++ b).getD i d = b.getD (i - a.length) d := by
  rw [List.getD_eq_getElem?_getD, List.getD_eq_getElem?_getD, List.getElem?_append_right h]
theorem chain_there {n : Nat} {c : Int} (h : chainB F n c = true) : ∃ k, thereM F c = some k := by
  cases n with
  | zero => cases h
  | succ n =>
    unfold chainB at h
    cases ht : thereM F c with
    | none => rw [ht] at h; cases h
    | some k => exact ⟨k, rfl⟩
theorem chain_next {n : Nat} {c : Int} (h : chainB F (n + 1) c = true) (ht : (metR F c).tag = 2) : chainB F n (metR F c).rest = true := by
  obtain ⟨k, hk⟩ := chain_there h
  unfold chainB at h
  unfold metR at ht ⊢
  rw [hk] at h ht ⊢
  simp only at h ht ⊢
  rwa [if_pos ht] at h
theorem chain_start (hc : checkB F = true) {c : Int} {k : Nat} (hk : thereM F c = some k) : chainB F (F.chars.length + 2) c = true := by
  unfold checkB at hc
  simp only [Bool.and_eq_true] at hc
  have hall := hc.1.1.2
  rw [List.all_eq_true] at hall
  obtain ⟨h1, h2, h3, h4⟩ := (thereM_eq F c k).1 hk
  have hm := hall _ (metM_mem h2)
  rw [chainB, hk]
  simp only
  by_cases ht : (metM F k).tag = 2
  · rw [if_pos ht]
    unfold charB at hm
    simp [ht] at hm
    exact hm.2
  · rw [if_neg ht]
theorem head_of (hc : checkB F = true) : 0 ≤ F.first ∧ F.first ≤ 255 ∧ (F.chars.length : Int) ≤ 256 - F.first := by
  unfold checkB headB at hc
  simp only [Bool.and_eq_true] at hc
  have h1 := hc.1.1.1.1.1.1
  unfold h1B at h1
  simp only [Bool.and_eq_true, decide_eq_true_eq] at h1
  exact ⟨h1.2.2.1, h1.2.2.2.1, h1.2.2.2.2.1⟩
theorem there_byte (hc : checkB F = true) {c : Int} {k : Nat} (hk : thereM F c = some k) : 0 ≤ c ∧ c < 256 := by
  obtain ⟨h1, h2, h3⟩ := head_of hc
  obtain ⟨h4, h5, -, -⟩ := (thereM_eq F c k).1 hk
  omega
def Link (F : Fnt) (L : List UInt8) : Prop := ∀ i, i + 1 < L.length → (metR F (L.getD i 0).toNat).tag = 2 ∧ (metR F (L.getD i 0).toNat).rest = (L.getD (i + 1) 0).toNat
def Theres (F : Fnt) (L : List UInt8) : Prop := ∀ c ∈ L, (thereM F c.toNat).isSome = true
theorem Link.snoc {D : List UInt8} {c d : UInt8} (h : Link F (D ++ [c])) (ht : (metR F c.toNat).tag = 2) (hr : (metR F c.toNat).rest = d.toNat) : Link F ((D ++ [c]) ++ [d]) := by
  intro i hi
  have hl : (D ++ [c]).length = D.length + 1 := by rw [List.length_append, List.length_singleton]
  rw [List.length_append, List.length_singleton, hl] at hi
  by_cases h1 : i + 1 < D.length + 1
  · have h2 := h i (by rw [hl]; exact h1)
    rw [getD_l (a := D ++ [c]) (b := [d]) (i := i) (by rw [hl]; omega), getD_l (a := D ++ [c]) (b := [d]) (i := i + 1) (by rw [hl]; omega)]
    exact h2
  · obtain rfl : i = D.length := by omega
    rw [getD_l (a := D ++ [c]) (b := [d]) (i := D.length) (by rw [hl]; omega), getD_r (a := D) (b := [c]) (i := D.length) (Nat.le_refl _), getD_r (a := D ++ [c]) (b := [d]) (i := D.length + 1) (by rw [hl]; exact Nat.le_refl _), hl, Nat.sub_self, Nat.sub_self]
    exact ⟨ht, hr⟩
/-- a chain that ends -/
def Chain (F : Fnt) (c : UInt8) (L : List UInt8) : Prop := Link F L ∧ Theres F L ∧ L.head? = some c ∧ ∃ D d, L = D ++ [d] ∧ (metR F d.toNat).tag ≠ 2
theorem Link.same {L : List UInt8} (h : Link F L) : ∀ (d i j : Nat), i + d < L.length → j + d < L.length → L.getD i 0 = L.getD j 0 → L.getD (i + d) 0 = L.getD (j + d) 0
  | 0, i, j, _, _, e => e
  | d + 1, i, j, hi, hj, e => by
    have h1 := h i (by omega)
    have h2 := h j (by omega)
    have h3 : L.getD (i + 1) 0 = L.getD (j + 1) 0 := by
      rw [e] at h1
      have := h1.2.symm.trans h2.2
      apply UInt8.toNat_inj.1
      omega
    have := Link.same h d (i + 1) (j + 1) (by omega) (by omega) h3
    rwa [show i + 1 + d = i + (d + 1) by omega, show j + 1 + d = j + (d + 1) by omega] at this
/-- each one once -/
theorem Chain.once {L : List UInt8} {c : UInt8} (h : Chain F c L) {i j : Nat} (hij : i < j) (hj : j < L.length) : L.getD i 0 ≠ L.getD j 0 := by
  intro e
  obtain ⟨hl, -, -, D, d, hL, hd⟩ := h
  have hlen : L.length = D.length + 1 := by rw [hL]; simp
  have h1 := hl.same (D.length - j) i j (by omega) (by omega) e
  rw [show j + (D.length - j) = D.length by omega] at h1
  have h2 := (hl (i + (D.length - j)) (by omega)).1
  rw [h1] at h2
  have h3 : L.getD D.length 0 = d := by rw [hL, getD_r (Nat.le_refl _), Nat.sub_self]; rfl
  rw [h3] at h2
  exact hd h2
end Go.Proofs.Ytembknlhocijkaa
