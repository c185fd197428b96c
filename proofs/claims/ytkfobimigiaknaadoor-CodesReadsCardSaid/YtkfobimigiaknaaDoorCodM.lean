/-
  The law's small functions. Conditions: those that each theorem names.
-/
import Derived.Test.YtkfobimigiaknaaDoorCodL
import Derived.Test.YtkfobimigiaknaaDoorTail
namespace Go.Proofs.YtkfobimigiaknaaDoor
open Go.RowKit Go.Sp
variable {W w w' : World} {F F' : HProp}

theorem same_any (xs ys : List Tok) (v u : Value) (w : World) (hv : RdT w v xs) (hu : RdT w u ys) :
    Calls Tryd.prog 17 #[v, u] w fun e w' => e = .returned (.bool (decide (xs = ys))) ∧ ∃ q, w.drewN q = w' := by
  have lx := hv.le
  have ly := hu.le
  by_cases hl : xs.length = ys.length
  · rcases Nat.eq_zero_or_pos xs.length with h0 | hp
    · obtain ⟨a, cap, rfl⟩ := hv.val
      obtain ⟨a', cap', rfl⟩ := hu.val
      obtain rfl := List.eq_nil_of_length_eq_zero h0
      obtain rfl := List.eq_nil_of_length_eq_zero (hl ▸ h0)
      clear hl h0 hv hu
      go_enter Tryd.func17, Tryd.ntmps17
      go_wp2
      go_loopw [5] (fun i wr => i = .int .i64 0 ∧ ∃ q, w.drewN q = wr) (fun _ _ => 0)
      case atStart => exact ⟨rfl, 0, rfl⟩
      case round =>
        obtain ⟨rfl, q, rfl⟩ := hrel
        go_wp2
        go_ret
        exact ⟨rfl, q, rfl⟩
    · obtain ⟨b, off, cap, rfl, hc⟩ := hv.head hp
      obtain ⟨b', off', cap', rfl, hc'⟩ := hu.head (hl ▸ hp)
      have hne : ((xs.length : Int) != (ys.length : Int)) = false := by simp [hl]
      have HL := Lib.hid hl
      clear hl hv hu
      go_enter Tryd.func17, Tryd.ntmps17
      go_wp2
      go_loopw [5] (fun i wr => ∃ k : Nat, k ≤ xs.length ∧ xs.take k = ys.take k ∧ i = .int .i64 k ∧ ∃ q, w.drewN q = wr) (fun i _ => xs.length - (intOf i).toNat)
      case atStart => exact ⟨0, Nat.zero_le _, rfl, rfl, 0, rfl⟩
      case round =>
        obtain ⟨k, hk, he, rfl, q, rfl⟩ := hrel
        have HE := Lib.hid he
        clear he
        by_cases hlt : k < xs.length
        · have hlt' : k < ys.length := HL.out ▸ hlt
          obtain ⟨a0, a1, a2⟩ := hc k hlt
          obtain ⟨b0, b1, b2⟩ := hc' k hlt'
          have HX := Lib.hid hc
          have HX' := Lib.hid hc'
          clear hc hc'
          have lt1 : (k : Int) < (xs.length : Int) := by omega
          have hrun := fun w => run_neq w xs[k] ys[k]
          have lt2 : (k : Int) < (ys.length : Int) := by omega
          go_wp2
          go_quiet (fail)
          go_wp2
          · have hd : (!decide (xs[k] = ys[k])) = true := by assumption
            have hf : decide (xs = ys) = false := by
              rw [decide_eq_false_iff_not]; rintro rfl; simp at hd
            go_ret
            exact ⟨by rw [hf]; rfl, q + nq, (World.drewN_drewN _ _ _).symm⟩
          · have hd : (!decide (xs[k] = ys[k])) = false := by assumption
            go_roundw
            case rel => exact ⟨k + 1, by omega, take_eq_succT HE.out hlt hlt' (by simpa using hd), by go_num, q + nq, rfl⟩
            case measure => simp [intOf]; omega
        · have : k = xs.length := by omega
          subst this
          go_wp2
          go_ret
          refine ⟨?_, q, rfl⟩
          have e := HE.out
          rw [List.take_length, List.take_of_length_le (by rw [HL.out]; omega)] at e
          simp [e]
  · obtain ⟨a, cap, rfl⟩ := hv.val
    obtain ⟨a', cap', rfl⟩ := hu.val
    have hne : ((xs.length : Int) != (ys.length : Int)) = true := by simp; omega
    have hf : decide (xs = ys) = false := by
      rw [decide_eq_false_iff_not]; rintro rfl; exact hl rfl
    clear hv hu
    go_enter Tryd.func17, Tryd.ntmps17
    go_wp2
    go_ret
    exact ⟨by rw [hf]; rfl, 0, rfl⟩

theorem num_any (e : Int) (w : World) : Calls Tryd.prog 16 #[.int .i64 e] w fun r w' => r = .returned (.int .i64 e) ∧ w = w' := by
  go_enter Tryd.func16, Tryd.ntmps16
  go_wp2
  go_ret
  exact ⟨rfl, rfl⟩

def liveT : List Tok := [⟨16, 0, ⟨#[102, 111, 111]⟩⟩, ⟨11, 98, ⟨#[]⟩⟩, ⟨11, 65, ⟨#[]⟩⟩, ⟨10, 32, ⟨#[]⟩⟩]

set_option maxRecDepth 100000 in
theorem live_all : allM plainL 13 [92, 102, 111, 111, 32, 32, 98, 94, 94, 52, 49, 10] = (liveT, 0) := by decide +kernel

set_option maxRecDepth 1000000 in
set_option maxHeartbeats 4000000 in
theorem live_any (h : Sat W F w) : Calls Tryd.prog 14 #[] w fun e w' => e = .returned (.bool true) ∧ Sat W F w' := by
  have HF := Lib.hid (plain_any h)
  have HA := Lib.hid (fun (w' : World) (h : Sat W F w') => all_any plainL plainL_len 13 [92, 102, 111, 111, 32, 32, 98, 94, 94, 52, 49, 10] h)
  rw [live_all] at HA
  generalize plainL = fl at *
  clear h
  go_enter Tryd.func14, Tryd.ntmps14
  go_wp2_with fail
  refine Calls.mono HF.out ?_
  rintro e w1 ⟨rfl, h1⟩
  go_wp2_with fail
  refine Calls.mono (HA.out _ h1) ?_
  rintro e w2 ⟨v, rfl, h2⟩
  have H2 := Lib.hid h2
  clear h1 h2
  go_wp2_with (go_at_call 16; refine Calls.mono (num_any _ _) ?_; rintro e w' ⟨rfl, rfl⟩)
  have h3 : Sat W (rowT (.slice (some ⟨w2.heap.size, 0, none⟩) 4 4) liveT * (rowT v liveT * F)) (w2.alloc (.cells (flat liveT).toArray 31)) :=
    ((H2.out.alloc (.cells (flat liveT).toArray 31)).row_whole 4 (size := 3) (by simp [maxLen]) (by rfl))
  have hs := same_any liveT liveT v _ _ (rowT_rd h3.r) (rowT_rd h3)
  rw [decide_eq_true rfl] at hs
  have HS := Lib.hid hs
  have H3 := Lib.hid h3.r.r
  clear h3 hs
  refine Calls.mono HS.out ?_
  rintro e w' ⟨rfl, q, rfl⟩
  go_wp2
  go_ret
  exact ⟨rfl, H3.out.drewN⟩

end Go.Proofs.YtkfobimigiaknaaDoor
