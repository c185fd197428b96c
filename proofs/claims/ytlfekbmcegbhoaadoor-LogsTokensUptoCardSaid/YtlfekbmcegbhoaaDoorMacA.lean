
/-
  Package macros and its reference: the small functions of tokens. Conditions: none but those that each theorem names.
-/
import Derived.Test.YtlfekbmcegbhoaaDoorTok
import Derived.Test.YtlfekbmcegbhoaaDoorTail
namespace Go.Proofs.YtlfekbmcegbhoaaDoor
open Go.RowKit Go.Sp
variable {W w : World} {F : HProp}

def rightB (t : Tok) : Bool :=
  if t.cat = 16 then ((t.chr.toNat : Int) == 0)
  else if t.cat = 1 ∨ t.cat = 2 ∨ t.cat = 3 ∨ t.cat = 4 ∨ t.cat = 6 ∨ t.cat = 7 ∨ t.cat = 8 ∨ t.cat = 10 ∨ t.cat = 11 ∨ t.cat = 12 ∨ t.cat = 13 then t.name.toList.isEmpty else false

theorem right_any (t : Tok) (w : World) : Calls Tryd.prog 41 #[t.val] w fun e w' => e = .returned (.bool (rightB t)) ∧ w.alloc t.box = w' := by
  go_enter Tryd.func41, Tryd.ntmps41
  go_wp2
  all_goals
    go_ret
    exact ⟨by simp_all [rightB], rfl⟩

def placeB (t : Tok) : Bool := t.cat == 17 && decide (1 ≤ (t.chr.toNat : Int)) && decide ((t.chr.toNat : Int) ≤ 9) && t.name.toList.isEmpty

theorem place_any (t : Tok) (w : World) : Calls Tryd.prog 40 #[t.val] w fun e w' => e = .returned (.bool (placeB t)) ∧ w.alloc t.box = w' := by
  go_enter Tryd.func40, Tryd.ntmps40
  go_wp2
  all_goals
    go_ret
    exact ⟨by first | (simp_all [placeB]; done) | (simp_all [placeB]; intros; omega), by first | rfl | (simp [Tok.box, *]; done) | simp_all [Tok.box]⟩

theorem rightR_any (t : Tok) (w : World) : Calls Tryd.prog 44 #[t.val] w fun e w' => e = .returned (.bool (rightB t)) ∧ w.alloc t.box = w' := by
  go_enter Tryd.func44, Tryd.ntmps44
  go_wp2
  all_goals
    go_ret
    exact ⟨by first | (simp_all [rightB]; done) | (simp_all [rightB]; rw [Bool.eq_iff_iff]; simp; omega) | (simp_all [rightB]; omega), by first | rfl | (simp [Tok.box, *]; done) | simp_all [Tok.box]⟩

end Go.Proofs.YtlfekbmcegbhoaaDoor
