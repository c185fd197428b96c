
/-
  The blanks at a string's end; the reader's model. Conditions: those that each theorem names.
-/
import Derived.Test.YtpcdbeicpmjooaaDoorCodA
namespace Go.Proofs.YtpcdbeicpmjooaaDoor
open Go.RowKit Go.Sp
variable {W w w' : World} {F : HProp}

theorem toList_mk (l : List UInt8) : (⟨l.toArray⟩ : ByteArray).toList = l := by rw [Lib.toList_data]

theorem trim_any (l : List UInt8) (w : World) (hl : l.length ≤ 4000000000) : Calls Tryd.prog 35 #[(.string ⟨l.toArray⟩), .string ⟨#[32]⟩] w fun e w' => e = .returned ((.string ⟨(Lib.trimRightB l 32).toArray⟩)) ∧ w = w' := by
  have h1 : (⟨#[32]⟩ : ByteArray).size = 1 := rfl
  have h2 : ((⟨#[32]⟩ : ByteArray)[0]'Nat.zero_lt_one) = 32 := rfl
  have h3 : (⟨#[32]⟩ : ByteArray).toList = [32] := by rw [Lib.toList_data]
  have ht := toList_mk l
  have HC := Lib.hid (trimByte_any l 32 w hl)
  by_cases he : l = []
  · subst he
    have hr : Lib.trimRightB [] 32 = [] := rfl
    rw [hr]
    clear HC hl hr
    go_enter Tryd.func35, Tryd.ntmps35
    go_wp2
    go_ret
    exact ⟨rfl, rfl⟩
  · have hb : (l == []) = false := by simpa using he
    clear he hl
    generalize (⟨l.toArray⟩ : ByteArray) = s at *
    generalize Lib.trimRightB l 32 = r at *
    generalize (⟨r.toArray⟩ : ByteArray) = t at *
    go_enter Tryd.func35, Tryd.ntmps35
    go_wp2_with fail
    refine Calls.mono HC.out ?_
    rintro e w' ⟨rfl, rfl⟩
    go_wp2
    go_ret
    exact ⟨rfl, rfl⟩

/-- a digit to the base 16 -/
def hexD (c : UInt8) : Option Nat := if 48 ≤ c.toNat ∧ c.toNat ≤ 57 then some (c.toNat - 48) else if 97 ≤ c.toNat ∧ c.toNat ≤ 102 then some (c.toNat - 87) else none

def hexN (c : UInt8) : Nat := (hexD c).getD 0
def hexB (c : UInt8) : Bool := (hexD c).isSome

set_option maxRecDepth 100000 in
theorem digit_any (c : UInt8) (w : World) : Calls Tryd.prog 33 #[.int .u8 c.toNat] w fun e w' => e = .returned (.tuple #[.int .i64 (hexN c), .bool (hexB c)]) ∧ w = w' := by
  have hc : (c.toNat : Int) < 256 := by have := c.toNat_lt; omega
  by_cases h1 : 48 ≤ c.toNat ∧ c.toNat ≤ 57
  · have e1 : hexN c = c.toNat - 48 := by simp [hexN, hexD, h1]
    have e2 : hexB c = true := by simp [hexB, hexD, h1]
    have E := Lib.hid (show ((hexN c : Nat) : Int) = (c.toNat : Int) - 48 by omega)
    have i1 : (48 : Int) ≤ c.toNat := by omega
    have i2 : (c.toNat : Int) ≤ 57 := by omega
    rw [E.out, e2]
    clear e1 e2 E h1
    go_enter Tryd.func33, Tryd.ntmps33
    go_wp2
    go_ret2
    exact ⟨rfl, rfl⟩
  · by_cases h2 : 97 ≤ c.toNat ∧ c.toNat ≤ 102
    · have e1 : hexN c = c.toNat - 87 := by simp [hexN, hexD, h1, h2]
      have e2 : hexB c = true := by simp [hexB, hexD, h1, h2]
      have E := Lib.hid (show ((hexN c : Nat) : Int) = (c.toNat : Int) - 97 + 10 by omega)
      have i0 : ¬ (c.toNat : Int) ≤ 57 := by omega
      have i0' : (48 : Int) ≤ c.toNat := by omega
      have i1 : (97 : Int) ≤ c.toNat := by omega
      have i2 : (c.toNat : Int) ≤ 102 := by omega
      rw [E.out, e2]
      clear e1 e2 E h1 h2
      go_enter Tryd.func33, Tryd.ntmps33
      go_wp2
      all_goals
        go_ret2
        exact ⟨rfl, rfl⟩
    · have e1 : hexN c = 0 := by simp [hexN, hexD, h1, h2]
      have e2 : hexB c = false := by simp [hexB, hexD, h1, h2]
      rw [e1, e2]
      have hcs : c.toNat < 48 ∨ (57 < c.toNat ∧ c.toNat < 97) ∨ 102 < c.toNat := by omega
      clear e1 e2 h1 h2
      rcases hcs with h | ⟨h, h'⟩ | h
      · have i1 : ¬ (48 : Int) ≤ c.toNat := by omega
        have i2 : ¬ (97 : Int) ≤ c.toNat := by omega
        go_enter Tryd.func33, Tryd.ntmps33
        go_wp2
        go_ret2
        exact ⟨rfl, rfl⟩
      · have i1 : (48 : Int) ≤ c.toNat := by omega
        have i1' : ¬ (c.toNat : Int) ≤ 57 := by omega
        have i2 : ¬ (97 : Int) ≤ c.toNat := by omega
        go_enter Tryd.func33, Tryd.ntmps33
        go_wp2
        go_ret2
        exact ⟨rfl, rfl⟩
      · have i1 : (48 : Int) ≤ c.toNat := by omega
        have i1' : ¬ (c.toNat : Int) ≤ 57 := by omega
        have i2 : (97 : Int) ≤ c.toNat := by omega
        have i2' : ¬ (c.toNat : Int) ≤ 102 := by omega
        go_enter Tryd.func33, Tryd.ntmps33
        go_wp2
        go_ret2
        exact ⟨rfl, rfl⟩

end Go.Proofs.YtpcdbeicpmjooaaDoor
