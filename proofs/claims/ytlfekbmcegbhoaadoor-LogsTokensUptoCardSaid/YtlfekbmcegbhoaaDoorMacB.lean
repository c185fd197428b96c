
/-
  Package macros and its reference: places, digits, braces, lists that are right or balanced. Conditions: those that each theorem names.
-/
import Derived.Test.YtlfekbmcegbhoaaDoorMacA
namespace Go.Proofs.YtlfekbmcegbhoaaDoor
open Go.RowKit Go.Sp
variable {W w : World} {F : HProp}

/-- a place's number; 0: it is none -/
def placeN (t : Tok) : Nat := if placeB t then t.chr.toNat else 0

theorem placeR_any (t : Tok) (w : World) : Calls Tryd.prog 43 #[t.val] w fun e w' => e = .returned (.int .i64 (placeN t)) ∧ w.alloc t.box = w' := by
  cases hp : placeB t
  · have hz : placeN t = 0 := by simp [placeN, hp]
    have HZ := Lib.hid hz
    have HP := Lib.hid hp
    clear hz hp
    go_enter Tryd.func43, Tryd.ntmps43
    go_wp2
    all_goals
      go_ret
      first
        | exact ⟨by rw [HZ.out]; rfl, by first | rfl | (simp [Tok.box, *]; done)⟩
        | (exfalso; have := HP.out; simp_all [placeB])
  · have hz : placeN t = t.chr.toNat := by simp [placeN, hp]
    have HZ := Lib.hid hz
    have HP := Lib.hid hp
    clear hz
    simp only [placeB, Bool.and_eq_true, beq_iff_eq, decide_eq_true_eq] at hp
    obtain ⟨⟨⟨h1, h2⟩, h3⟩, h4⟩ := hp
    go_enter Tryd.func43, Tryd.ntmps43
    go_wp2
    go_ret
    exact ⟨by rw [HZ.out]; rfl, by first | rfl | (simp [Tok.box, *]; done)⟩

theorem open_any (t : Tok) (w : World) : Calls Tryd.prog 46 #[t.val] w fun e w' => e = .returned (.bool (t.cat == 1)) ∧ w.alloc t.box = w' := by
  go_enter Tryd.func46, Tryd.ntmps46
  go_wp2
  go_ret
  exact ⟨rfl, rfl⟩

theorem shut_any (t : Tok) (w : World) : Calls Tryd.prog 45 #[t.val] w fun e w' => e = .returned (.bool (t.cat == 2)) ∧ w.alloc t.box = w' := by
  go_enter Tryd.func45, Tryd.ntmps45
  go_wp2
  go_ret
  exact ⟨rfl, rfl⟩

/-- 1 to 9, of a token; 0: none -/
def digitT (t : Tok) : Nat := if t.cat = 12 ∧ 49 ≤ t.chr.toNat ∧ t.chr.toNat ≤ 57 then t.chr.toNat - 48 else 0

def digitAt (L : List Tok) (i : Nat) : Nat := match L[i]? with | some t => digitT t | none => 0

end Go.Proofs.YtlfekbmcegbhoaaDoor
