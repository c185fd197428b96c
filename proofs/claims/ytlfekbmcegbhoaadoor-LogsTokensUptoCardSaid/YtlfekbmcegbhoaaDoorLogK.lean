
/-
  The reference of logs: a byte, bytes, a token as text. Conditions: those that each theorem names.
-/
import Derived.Test.YtlfekbmcegbhoaaDoorLogJ
namespace Go.Proofs.YtlfekbmcegbhoaaDoor
open Go.RowKit Go.Sp
variable {W w w' : World} {F F' : HProp}

/-- a byte that was just laid, as a text -/
theorem conv_new (w : World) (c : UInt8) : (convert 22 9 (.slice (some ⟨w.heap.size, 0, none⟩) 1 1)).run Tryd.prog (w.alloc (.cells #[.int .u8 c.toNat] 5)) = .ok (.string ⟨#[c]⟩) (w.alloc (.cells #[.int .u8 c.toNat] 5)) := by
  have h := ((Sat.start w).alloc (.cells #[.int .u8 c.toNat] 5)).row_whole (size := 1) 1 (by simp [maxLen]) (by simp)
  exact conv_row (l := [c]) h

theorem conv_int (w : World) (c : UInt8) (z : Int) (hz : z = c.toNat) : (convert 22 9 (.slice (some ⟨w.heap.size, 0, none⟩) 1 1)).run Tryd.prog (w.alloc (.cells #[.int .u8 z] 5)) = .ok (.string ⟨#[c]⟩) (w.alloc (.cells #[.int .u8 z] 5)) := by
  subst hz
  exact conv_new w c

theorem cat21 (a b d : UInt8) : (⟨#[a, b]⟩ : ByteArray) ++ ⟨#[d]⟩ = ⟨#[a, b, d]⟩ := cat3 a b d

theorem xor_low_n : ∀ n : Nat, n < 32 → UInt8.ofNat n ^^^ 64 = UInt8.ofNat n + 64 := by decide +kernel
theorem xor_low (c : UInt8) (h : c.toNat < 32) : c ^^^ 64 = c + 64 := by
  have := xor_low_n c.toNat h
  rwa [show UInt8.ofNat c.toNat = c by simp] at this

theorem hex_cut (k : Nat) (h : k < 16) : (⟨#[48, 49, 50, 51, 52, 53, 54, 55, 56, 57, 97, 98, 99, 100, 101, 102]⟩ : ByteArray).extract k (k + 1) = ⟨#[hexC k]⟩ := by
  have : k = 0 ∨ k = 1 ∨ k = 2 ∨ k = 3 ∨ k = 4 ∨ k = 5 ∨ k = 6 ∨ k = 7 ∨ k = 8 ∨ k = 9 ∨ k = 10 ∨ k = 11 ∨ k = 12 ∨ k = 13 ∨ k = 14 ∨ k = 15 := by omega
  rcases this with rfl | rfl | rfl | rfl | rfl | rfl | rfl | rfl | rfl | rfl | rfl | rfl | rfl | rfl | rfl | rfl <;> decide +kernel

set_option maxRecDepth 100000 in
set_option maxHeartbeats 4000000 in
theorem byteR_any (c : UInt8) (h : Sat W F w) : Calls Tryd.prog 35 #[.int .u8 c.toNat] w fun e w' => e = .returned ((.string ⟨(shownB c).toArray⟩)) ∧ Sat W F w' := by
  have HF := Lib.hid h
  have hc := c.toNat_lt
  clear h
  by_cases h1 : c.toNat < 32
  · have e1 : shownB c = [94, 94, c + 64] := by rw [shownB, if_neg (by omega), if_pos (.inr h1), xor_low c h1]
    rw [e1]
    have hz : ((c + 64).toNat : Int) = (c.toNat : Int) + 64 := by rw [UInt8.toNat_add]; simp; omega
    have hcv := fun w => conv_int w (c + 64) ((c.toNat : Int) + 64) hz.symm
    have hca := cat3 94 94 (c + 64)
    have i1 : (c.toNat : Int) < 32 := by omega
    have i2 : (c.toNat : Int) + 64 < 256 := by omega
    clear e1 hz
    go_enter Tryd.func35, Tryd.ntmps35
    go_wp2
    go_ret
    exact ⟨rfl, HF.out.allocD⟩
  · have i1 : ¬ (c.toNat : Int) < 32 := by omega
    by_cases h2 : c = 127
    · subst h2
      have e1 : shownB 127 = [94, 94, 63] := by decide
      rw [e1]
      clear e1
      go_enter Tryd.func35, Tryd.ntmps35
      go_wp2
      go_ret
      exact ⟨rfl, HF.out⟩
    · have h3 : ¬ c.toNat = 127 := fun h => h2 (UInt8.toNat_inj.1 (by simpa using h))
      have q1 : ((c.toNat : Int) == 127) = false := by rw [beq_eq_false_iff_ne]; omega
      by_cases h4 : 127 < c.toNat
      · have e1 : shownB c = [94, 94, hexC (c.toNat / 16), hexC (c.toNat % 16)] := by rw [shownB, if_pos (by omega)]
        rw [e1]
        have i3 : (127 : Int) < (c.toNat : Int) := by omega
        obtain ⟨k, hk⟩ : ∃ k, c.toNat / 16 = k := ⟨_, rfl⟩
        obtain ⟨m, hm⟩ : ∃ m, c.toNat % 16 = m := ⟨_, rfl⟩
        have k16 : k < 16 := by omega
        have m16 : m < 16 := by omega
        have hks : (c.toNat : Int) / 16 = (k : Int) := by omega
        have hms : (c.toNat : Int) % 16 = (m : Int) := by omega
        rw [hk, hm]
        have d1 := hex_cut k k16
        have d2 := hex_cut m m16
        have c1 := cat3 94 94 (hexC k)
        have c2 := cat4 94 94 (hexC k) (hexC m)
        have z16 : (⟨#[48, 49, 50, 51, 52, 53, 54, 55, 56, 57, 97, 98, 99, 100, 101, 102]⟩ : ByteArray).size = 16 := rfl
        clear h1 h2 h3 h4 e1 hk hm
        go_enter Tryd.func35, Tryd.ntmps35
        generalize (⟨#[48, 49, 50, 51, 52, 53, 54, 55, 56, 57, 97, 98, 99, 100, 101, 102]⟩ : ByteArray) = hs at *
        have j1 : (k : Int) < 16 := by omega
        have j2 : (m : Int) < 16 := by omega
        have j3 : (k : Int) + 1 < 256 := by omega
        have j4 : (m : Int) + 1 < 256 := by omega
        have j5 : ((k : Int) + 1).toNat = k + 1 := by omega
        have j6 : ((m : Int) + 1).toNat = m + 1 := by omega
        have j7 : (k : Int) + 1 ≤ 16 := by omega
        have j8 : (m : Int) + 1 ≤ 16 := by omega
        go_wp2_with fail
        go_region
        go_wp2
        go_ret
        exact ⟨rfl, HF.out.drew⟩
      · have e1 : shownB c = [c] := by rw [shownB, if_neg (by omega), if_neg (by rintro (h | h); exact h2 h; exact h1 h)]
        rw [e1]
        have i3 : ¬ (127 : Int) < (c.toNat : Int) := by omega
        have hcv := fun w => conv_new w c
        clear h1 h2 h3 h4 e1
        go_enter Tryd.func35, Tryd.ntmps35
        go_wp2
        go_ret
        exact ⟨rfl, HF.out.allocD⟩

end Go.Proofs.YtlfekbmcegbhoaaDoor
