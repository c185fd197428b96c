
/-
  Package logs: a byte as text; strings.Builder. Conditions: those that each theorem names.
-/
import Derived.Test.YtpcdbeicpmjooaaDoorRowB
import Derived.Test.YtpcdbeicpmjooaaDoorTail
import Derived.Test.YtpcdbeicpmjooaaDoorTok
import Derived.Test.YtpcdbeicpmjooaaDoorCodesV
import Derived.Lib.UnsafeStr
import Derived.Lib.TrimByte
import Derived.Laws.Runes
namespace Go.Proofs.YtpcdbeicpmjooaaDoor
open Go.RowKit Go.Sp
variable {W w w' : World} {F F' : HProp}

def hexC (n : Nat) : UInt8 := if n < 10 then UInt8.ofNat (48 + n) else UInt8.ofNat (87 + n)
/-- a byte as text -/
def shownB (c : UInt8) : List UInt8 :=
  if 128 ≤ c.toNat then [94, 94, hexC (c.toNat / 16), hexC (c.toNat % 16)]
  else if c = 127 ∨ c.toNat < 32 then [94, 94, c ^^^ 64] else [c]

theorem shownB_pos (c : UInt8) : 0 < (shownB c).length := by
  unfold shownB
  split
  · simp
  · split <;> simp
theorem shownB_le (c : UInt8) : (shownB c).length ≤ 4 := by
  unfold shownB
  split
  · simp
  · split <;> simp

theorem encode_ascii : ∀ n : Nat, n < 128 → Utf8.encode (n : Int) = ⟨#[UInt8.ofNat n]⟩ := by decide +kernel
theorem encode_u8 (c : UInt8) (h : c.toNat < 128) : Utf8.encode (c.toNat : Int) = ⟨#[c]⟩ := by
  rw [encode_ascii c.toNat h]
  simp

theorem cat3 (a b d : UInt8) : (⟨#[a, b]⟩ : ByteArray) ++ ⟨#[d]⟩ = ⟨#[a, b, d]⟩ := by
  apply ByteArray.ext
  simp
theorem cat4 (a b d e : UInt8) : (⟨#[a, b, d]⟩ : ByteArray) ++ ⟨#[e]⟩ = ⟨#[a, b, d, e]⟩ := by
  apply ByteArray.ext
  simp
theorem hex_at (k : Nat) (h : k < 16) : ∃ g : k < (⟨#[48, 49, 50, 51, 52, 53, 54, 55, 56, 57, 97, 98, 99, 100, 101, 102]⟩ : ByteArray).size, (⟨#[48, 49, 50, 51, 52, 53, 54, 55, 56, 57, 97, 98, 99, 100, 101, 102]⟩ : ByteArray)[k] = hexC k := by
  have : k = 0 ∨ k = 1 ∨ k = 2 ∨ k = 3 ∨ k = 4 ∨ k = 5 ∨ k = 6 ∨ k = 7 ∨ k = 8 ∨ k = 9 ∨ k = 10 ∨ k = 11 ∨ k = 12 ∨ k = 13 ∨ k = 14 ∨ k = 15 := by omega
  rcases this with rfl | rfl | rfl | rfl | rfl | rfl | rfl | rfl | rfl | rfl | rfl | rfl | rfl | rfl | rfl | rfl <;> exact ⟨by decide, rfl⟩
theorem hexC_lt (k : Nat) (h : k < 16) : (hexC k).toNat < 128 := by
  have : ∀ k : Nat, k < 16 → (hexC k).toNat < 128 := by decide
  exact this k h
theorem and_all : ∀ n : Nat, n < 256 → bits .and .u8 (n : Int) 15 = ((n % 16 : Nat) : Int) := by decide +kernel
theorem and_u8 (c : UInt8) : bits .and .u8 (c.toNat : Int) 15 = ((c.toNat % 16 : Nat) : Int) := and_all c.toNat c.toNat_lt

set_option maxRecDepth 100000 in
set_option maxHeartbeats 4000000 in
theorem shown_any (c : UInt8) (h : Sat W F w) : Calls Tryd.prog 21 #[.int .u8 c.toNat] w fun e w' => e = .returned ((.string ⟨(shownB c).toArray⟩)) ∧ Sat W F w' := by
  have HF := Lib.hid h
  have hc := c.toNat_lt
  clear h
  by_cases h1 : 128 ≤ c.toNat
  · have e1 : shownB c = [94, 94, hexC (c.toNat / 16), hexC (c.toNat % 16)] := by rw [shownB, if_pos h1]
    rw [e1]
    have i1 : (128 : Int) ≤ (c.toNat : Int) := by omega
    go_enter Tryd.func21, Tryd.ntmps21
    obtain ⟨k, hk⟩ : ∃ k, c.toNat / 16 = k := ⟨_, rfl⟩
    obtain ⟨m, hm⟩ : ∃ m, c.toNat % 16 = m := ⟨_, rfl⟩
    have k16 : k < 16 := by omega
    have m16 : m < 16 := by omega
    have hks : (c.toNat : Int) / 16 = (k : Int) := by omega
    have hms := and_u8 c
    rw [hm] at hms
    rw [hk, hm]
    obtain ⟨g1, d1⟩ := hex_at k k16
    obtain ⟨g2, d2⟩ := hex_at m m16
    have v1 := hexC_lt k k16
    have v2 := hexC_lt m m16
    have n1 := encode_u8 (hexC k) v1
    have n2 := encode_u8 (hexC m) v2
    obtain ⟨x, hx⟩ : ∃ x, hexC k = x := ⟨_, rfl⟩
    obtain ⟨y, hy⟩ : ∃ y, hexC m = y := ⟨_, rfl⟩
    rw [hx] at d1 n1 v1 ⊢
    rw [hy] at d2 n2 v2 ⊢
    have c1 := cat3 94 94 x
    have c2 := cat4 94 94 x y
    have z16 : (⟨#[48, 49, 50, 51, 52, 53, 54, 55, 56, 57, 97, 98, 99, 100, 101, 102]⟩ : ByteArray).size = 16 := rfl
    generalize (⟨#[48, 49, 50, 51, 52, 53, 54, 55, 56, 57, 97, 98, 99, 100, 101, 102]⟩ : ByteArray) = hs at *
    clear h1 e1 hx hy hk hm
    have j1 : (k : Int) < 16 := by omega
    have j2 : (m : Int) < 16 := by omega
    go_wp2_with fail
    refine wp_region_tail (fun w' => Sat W F w') 10 (by kernel_rfl) (by kernel_rfl) (HF.out.drew) ?_
    simp only [List.take_succ_cons, List.take_zero, List.drop_succ_cons, List.drop_zero]
    repeat (refine wpQuiet_step (fun K hK => ?_); go_simp; first | (refine hK _ ?_; clear hK K) | (apply Exists.intro; refine ⟨fun w' hw' => ?_, hK _ ?_⟩; (first | rfl | (go_simp; first | done | rfl)); clear hK K))
    refine wpQuiet_nil ?_
    intro w9 hw9
    have H9 := Lib.hid hw9
    clear hw9
    go_wp2
    go_ret
    exact ⟨rfl, H9.out⟩
  · by_cases h2 : c = 127 ∨ c.toNat < 32
    · have e1 : shownB c = [94, 94, c ^^^ 64] := by rw [shownB, if_neg h1, if_pos h2]
      rw [e1]
      have hx := xor_u8 c
      have hx2 : (c ^^^ 64).toNat < 128 := by
        have : ∀ n : Nat, n < 128 → (n ^^^ 64) < 128 := by decide
        have := this c.toNat (by omega)
        simpa using this
      have he := encode_u8 (c ^^^ 64) hx2
      have i1 : ¬ (128 : Int) ≤ (c.toNat : Int) := by omega
      obtain ⟨d, hd⟩ : ∃ d, c ^^^ 64 = d := ⟨_, rfl⟩
      rw [hd] at hx he hx2 ⊢
      have hps : (((c.toNat : Int) == 127) = true) ∨ (((c.toNat : Int) == 127) = false ∧ (c.toNat : Int) < 32) := by
        rcases h2 with rfl | h2
        · left; rfl
        · right; exact ⟨by rw [beq_eq_false_iff_ne]; omega, by omega⟩
      clear h1 h2 hd e1
      rcases hps with q1 | ⟨q1, q2⟩
      all_goals
        go_enter Tryd.func21, Tryd.ntmps21
        go_wp2
        go_ret
        exact ⟨by rw [cat3]; rfl, HF.out⟩
    · have e1 : shownB c = [c] := by rw [shownB, if_neg h1, if_neg h2]
      rw [e1]
      have he := encode_u8 c (by omega)
      have i1 : ¬ (128 : Int) ≤ (c.toNat : Int) := by omega
      have i2 : ¬ (c.toNat : Int) < 32 := by omega
      have q1 : ((c.toNat : Int) == 127) = false := by
        rw [beq_eq_false_iff_ne]
        intro h
        exact h2 (.inl (UInt8.toNat_inj.1 (by simp; omega)))
      clear h1 h2 e1
      go_enter Tryd.func21, Tryd.ntmps21
      go_wp2
      go_ret
      exact ⟨rfl, HF.out⟩

end Go.Proofs.YtpcdbeicpmjooaaDoor
