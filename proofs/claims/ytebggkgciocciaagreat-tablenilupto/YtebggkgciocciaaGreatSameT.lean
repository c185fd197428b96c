
/-
  Two lists of tokens are held against each other (galleylaw01.SameTokens). Conditions: none.
-/
import Derived.Test.YtebggkgciocciaaGreatTok
import Derived.Test.YtebggkgciocciaaGreatTail
namespace Go.Proofs.YtebggkgciocciaaGreat
open Go.RowKit Go.Sp

theorem sameT_any (xs ys : List Tok) (v u : Value) (w : World) (hv : RdT w v xs) (hu : RdT w u ys) :
    Calls Tryz.prog 38 #[v, u] w fun e w' => e = .returned (.bool (decide (xs = ys))) ∧ ∃ q, w.drewN q = w' := by
  have lx := hv.le
  have ly := hu.le
  by_cases hl : xs.length = ys.length
  · rcases Nat.eq_zero_or_pos xs.length with h0 | hp
    · obtain ⟨a, cap, rfl⟩ := hv.val
      obtain ⟨a', cap', rfl⟩ := hu.val
      obtain rfl := List.eq_nil_of_length_eq_zero h0
      obtain rfl := List.eq_nil_of_length_eq_zero (hl ▸ h0)
      clear hl h0 hv hu
      go_enter Tryz.func38, Tryz.ntmps38
      go_wp2
      go_loopw [5] (fun i wr => i = .int .i64 0 ∧ ∃ q, w.drewN q = wr) (fun _ _ => 0)
      case atStart => exact ⟨rfl, 0, rfl⟩
      case round =>
        obtain ⟨rfl, q, rfl⟩ := hrel
        go_wp2
        go_ret
        exact ⟨rfl, q, rfl⟩
    · obtain ⟨b, off, cap, rfl, hc⟩ := hv.head hp
      obtain ⟨b', off', cap', rfl, hc'⟩ := hu.head (hl ▸ hp)
      have hne : ((xs.length : Int) != (ys.length : Int)) = false := by simp [hl]
      have HL := Lib.hid hl
      clear hl hv hu
      go_enter Tryz.func38, Tryz.ntmps38
      go_wp2
      go_loopw [5] (fun i wr => ∃ k : Nat, k ≤ xs.length ∧ xs.take k = ys.take k ∧ i = .int .i64 k ∧ ∃ q, w.drewN q = wr) (fun i _ => xs.length - (intOf i).toNat)
      case atStart => exact ⟨0, Nat.zero_le _, rfl, rfl, 0, rfl⟩
      case round =>
        obtain ⟨k, hk, he, rfl, q, rfl⟩ := hrel
        have HE := Lib.hid he
        clear he
        by_cases hlt : k < xs.length
        · have hlt' : k < ys.length := HL.out ▸ hlt
          obtain ⟨a0, a1, a2⟩ := hc k hlt
          obtain ⟨b0, b1, b2⟩ := hc' k hlt'
          have HX := Lib.hid hc
          have HX' := Lib.hid hc'
          clear hc hc'
          have lt1 : (k : Int) < (xs.length : Int) := by omega
          have hrun := fun w => run_neq w xs[k] ys[k]
          have lt2 : (k : Int) < (ys.length : Int) := by omega
          go_wp2
          go_quiet (fail)
          go_wp2
          · have hd : (!decide (xs[k] = ys[k])) = true := by assumption
            have hf : decide (xs = ys) = false := by
              rw [decide_eq_false_iff_not]; rintro rfl; simp at hd
            go_ret
            exact ⟨by rw [hf]; rfl, q + nq, (World.drewN_drewN _ _ _).symm⟩
          · have hd : (!decide (xs[k] = ys[k])) = false := by assumption
            go_roundw
            case rel => exact ⟨k + 1, by omega, take_eq_succT HE.out hlt hlt' (by simpa using hd), by go_num, q + nq, rfl⟩
            case measure => simp [intOf]; omega
        · have : k = xs.length := by omega
          subst this
          go_wp2
          go_ret
          refine ⟨?_, q, rfl⟩
          have e := HE.out
          rw [List.take_length, List.take_of_length_le (by rw [HL.out]; omega)] at e
          simp [e]
  · obtain ⟨a, cap, rfl⟩ := hv.val
    obtain ⟨a', cap', rfl⟩ := hu.val
    have hne : ((xs.length : Int) != (ys.length : Int)) = true := by simp; omega
    have hf : decide (xs = ys) = false := by
      rw [decide_eq_false_iff_not]; rintro rfl; exact hl rfl
    clear hv hu
    go_enter Tryz.func38, Tryz.ntmps38
    go_wp2
    go_ret
    exact ⟨by rw [hf]; rfl, 0, rfl⟩

end Go.Proofs.YtebggkgciocciaaGreat
