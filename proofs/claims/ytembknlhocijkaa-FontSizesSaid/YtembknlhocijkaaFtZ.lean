
/-
  Sizes: they begin at 0, never fall, are never more than the exact ones. Conditions: those that each theorem names.
-/
import Derived.Test.YtembknlhocijkaaFtY
namespace Go.Proofs.Ytembknlhocijkaa
open Go.RowKit Go.Sp
variable {a x y z s : Int}

/-- what the halving leaves -/
def Zed (a z s : Int) : Prop := 1 ≤ z ∧ z < 8388608 ∧ s * z ≤ 16 * a ∧ (s = 16 ∨ s = 32 ∨ s = 64 ∨ s = 128 ∨ s = 256)
theorem halve_zed : ∀ (g : Nat) (z s : Int), 1 ≤ z → Stage g z s → s * z ≤ 16 * a → Zed a (halve g z s).1 (halve g z s).2
  | 0, z, s, h1, h2, h3 => by
    unfold Stage at h2
    show Zed a z s
    exact ⟨h1, by omega, h3, by omega⟩
  | g + 1, z, s, h1, h2, h3 => by
    rw [halve]
    by_cases hz : 8388608 ≤ z
    · rw [if_pos hz]
      obtain ⟨g', hg, hs⟩ := h2.next hz
      obtain rfl : g = g' := by omega
      refine halve_zed g _ _ (by omega) hs ?_
      have h4 : z / 2 * 2 ≤ z := Int.ediv_mul_le z (by decide)
      have h5 : s * (z / 2 * 2) ≤ s * z := Int.mul_le_mul_of_nonneg_left h4 (by unfold Stage at h2; omega)
      rw [show s * 2 * (z / 2) = s * (z / 2 * 2) by rw [Int.mul_assoc, Int.mul_comm 2]]
      omega
    · rw [if_neg hz]
      unfold Stage at h2
      exact ⟨h1, by omega, h3, by omega⟩
theorem zed (h1 : 1 ≤ a) (h2 : a ≤ 134217727) : Zed a (sizeZ a) (sizeA a) := halve_zed 4 a 16 h1 (.inl ⟨rfl, rfl, by omega⟩) (by omega)
theorem halve_low (h : a < 8388608) : sizeZ a = a ∧ sizeA a = 16 := by
  unfold sizeZ sizeA
  rw [halve_end (by omega)]
  exact ⟨rfl, rfl⟩
theorem sum_eq (hx : 0 ≤ x) (hx2 : x < 16777216) : sumM z s x = x * z / 65536 / (256 / s) := by
  unfold sumM
  have e1 : x % 256 * z / 256 + x / 256 % 256 * z = (x % 65536) * z / 256 := by
    rw [← Int.add_mul_ediv_right _ _ (show (256 : Int) ≠ 0 by decide), Int.mul_right_comm, ← Int.add_mul]
    rw [show x % 256 + x / 256 % 256 * 256 = x % 65536 by omega]
  have e2 : x % 65536 * z / 256 / 256 + x / 65536 % 256 * z = x * z / 65536 := by
    rw [Int.ediv_ediv_of_nonneg (show (0 : Int) ≤ 256 by decide), show (256 : Int) * 256 = 65536 from rfl, ← Int.add_mul_ediv_right _ _ (show (65536 : Int) ≠ 0 by decide), Int.mul_right_comm, ← Int.add_mul]
    rw [show x % 65536 + x / 65536 % 256 * 65536 = x by omega]
  rw [e1, e2]
theorem sum_shift : sumM z s (x - 16777216) = sumM z s x := by
  unfold sumM
  rw [show (x - 16777216) % 256 = x % 256 by omega, show (x - 16777216) / 256 % 256 = x / 256 % 256 by omega, show (x - 16777216) / 65536 % 256 = x / 65536 % 256 by omega]
theorem size_pos (hx : 0 ≤ x) (hx2 : x < 16777216) : sizeM a x = x * sizeZ a / 65536 / (256 / sizeA a) := by
  unfold sizeM
  rw [if_neg (by omega), sum_eq hx hx2]
theorem size_neg (hx : 0 ≤ x) (hx2 : x < 16777216) : sizeM a (x - 16777216) = x * sizeZ a / 65536 / (256 / sizeA a) - sizeA a * sizeZ a := by
  unfold sizeM
  rw [if_pos (by omega), sum_shift, sum_eq hx hx2]
theorem sizes_plain (h1 : 1 ≤ a) (h2 : a ≤ 134217727) (hx : 0 ≤ x) (hxy : x ≤ y) (hy : y ≤ 16777215) :
    sizeM a 0 = 0 ∧ 0 ≤ sizeM a x ∧ sizeM a x ≤ sizeM a y ∧ sizeM a (x - 16777216) ≤ sizeM a (y - 16777216) ∧ sizeM a (y - 16777216) ≤ 0 ∧ sizeM a x * 1048576 ≤ x * a ∧ (a < 8388608 → sizeM a 1048576 = a) ∧ sizeM a x ≤ 2147483648 ∧ x * a ≤ 2251799813685248 := by
  obtain ⟨z1, z2, z3, z4⟩ := zed h1 h2
  rw [size_pos (Int.le_refl 0) (by decide), size_pos hx (by omega), size_pos (by omega : 0 ≤ y) (by omega), size_neg hx (by omega), size_neg (by omega : 0 ≤ y) (by omega)]
  have hq : 1 ≤ 256 / sizeA a := by rcases z4 with h | h | h | h | h <;> rw [h] <;> decide
  have hxz : x * sizeZ a ≤ y * sizeZ a := Int.mul_le_mul_of_nonneg_right hxy (by omega)
  have hx0 : 0 ≤ x * sizeZ a := Int.mul_nonneg hx (by omega)
  have hm : x * sizeZ a / 65536 / (256 / sizeA a) ≤ y * sizeZ a / 65536 / (256 / sizeA a) := Int.ediv_le_ediv (by omega) (Int.ediv_le_ediv (by decide) hxz)
  have hyz : y * sizeZ a ≤ 16777215 * sizeZ a := Int.mul_le_mul_of_nonneg_right hy (by omega)
  have hxa : x * (sizeA a * sizeZ a) ≤ x * (16 * a) := Int.mul_le_mul_of_nonneg_left z3 hx
  have hxb : x * a ≤ 16777215 * a := Int.mul_le_mul_of_nonneg_right (by omega) (by omega)
  have hY : y * sizeZ a / 65536 / (256 / sizeA a) ≤ sizeA a * sizeZ a := by
    rcases z4 with h | h | h | h | h <;> rw [h] <;> omega
  have hX : x * sizeZ a / 65536 / (256 / sizeA a) * 1048576 ≤ x * a := by
    rw [show x * (sizeA a * sizeZ a) = sizeA a * (x * sizeZ a) by rw [← Int.mul_assoc, Int.mul_comm x, Int.mul_assoc], show x * (16 * a) = 16 * (x * a) by rw [← Int.mul_assoc, Int.mul_comm x, Int.mul_assoc]] at hxa
    rcases z4 with h | h | h | h | h <;> rw [h] at hxa ⊢ <;> omega
  have hS : sizeA a * sizeZ a ≤ 2147483648 := by rcases z4 with h | h | h | h | h <;> rw [h] <;> omega
  refine ⟨by rw [Int.zero_mul]; simp, Int.ediv_nonneg (Int.ediv_nonneg hx0 (by decide)) (by omega), hm, by omega, by omega, hX, fun hlt => ?_, by omega, by omega⟩
  obtain ⟨e1, e2⟩ := halve_low hlt
  rw [size_pos (by decide) (by decide), e1, e2]
  omega
end Go.Proofs.Ytembknlhocijkaa
