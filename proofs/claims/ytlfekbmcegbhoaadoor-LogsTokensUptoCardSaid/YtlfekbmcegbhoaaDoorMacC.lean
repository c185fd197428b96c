
/-
  Package macros and its reference: lists that are balanced. Conditions: those that each theorem names.
-/
import Derived.Test.YtlfekbmcegbhoaaDoorMacB
namespace Go.Proofs.YtlfekbmcegbhoaaDoor
open Go.RowKit Go.Sp
variable {W w : World} {F : HProp}

def stepD (d : Int) (t : Tok) : Int := if t.cat = 1 then d + 1 else if t.cat = 2 then d - 1 else d
def balF (d : Int) : List Tok → Bool
  | [] => d == 0
  | t :: r => if stepD d t < 0 then false else balF (stepD d t) r
def bal (L : List Tok) : Bool := balF 0 L

theorem balF_drop (L : List Tok) (d : Int) (k : Nat) (h : k < L.length) : balF d (L.drop k) = if stepD d L[k] < 0 then false else balF (stepD d L[k]) (L.drop (k + 1)) := by
  rw [List.drop_eq_getElem_cons h]; rfl

theorem balR_any (L : List Tok) (v : Value) (w : World) (hv : RdT w v L) : Calls Tryd.prog 47 #[v] w fun e w' => e = .returned (.bool (bal L)) ∧ Ext w w' := by
  have hl := hv.le
  have HV := Lib.hid hv
  obtain ⟨a, cap, rfl⟩ := hv.val
  clear hv
  go_enter Tryd.func47, Tryd.ntmps47
  go_wp2
  go_loopw [3, 4] (fun n i wr => ∃ (k : Nat) (d : Int), k ≤ L.length ∧ 0 ≤ d ∧ d ≤ k ∧ n = .int .i64 d ∧ i = .int .i64 k ∧ balF d (L.drop k) = bal L ∧ Ext w wr) (fun _ i _ => L.length - (intOf i).toNat)
  case atStart => exact ⟨0, 0, Nat.zero_le _, by omega, by omega, rfl, rfl, rfl, Ext.refl _⟩
  case round =>
    obtain ⟨k, d, hk, hd0, hd1, rfl, rfl, ha, hx⟩ := hrel
    have HA := Lib.hid ha
    have HX := Lib.hid hx
    clear ha hx
    by_cases hlt : k < L.length
    · obtain ⟨b, off, rfl, ⟨c0, c1, c2⟩, hb⟩ := (HV.out.ext HX.out).at hlt
      have HR := Lib.hid (balF_drop L d k hlt)
      generalize L[k] = t at *
      have lt1 : (k : Int) < (L.length : Int) := by omega
      by_cases h1 : t.cat = 1
      · have HS := Lib.hid (show stepD d t = d + 1 by simp [stepD, h1])
        have h2 : ¬ t.cat = 2 := by omega
        have e1 : (t.cat == 1) = true := by simp [h1]
        have e2 : (t.cat == 2) = false := by simp [h1]
        clear h1 h2
        go_wp2_with first | (go_at_call 46; refine (open_any _ _).mono ?_; rintro e w' ⟨rfl, rfl⟩) | (go_at_call 45; refine (shut_any _ _).mono ?_; rintro e w' ⟨rfl, rfl⟩)
        go_roundw
        case rel => exact ⟨k + 1, d + 1, by omega, by omega, by omega, rfl, by go_num, by rw [← HA.out, HR.out, HS.out, if_neg (by omega)], HX.out.alloc.alloc⟩
        case measure => simp [intOf]; omega
      · by_cases h2 : t.cat = 2
        · have HS := Lib.hid (show stepD d t = d - 1 by simp [stepD, h2])
          have e1 : (t.cat == 1) = false := by simp [h2]
          have e2 : (t.cat == 2) = true := by simp [h2]
          clear h1 h2
          go_wp2_with first | (go_at_call 46; refine (open_any _ _).mono ?_; rintro e w' ⟨rfl, rfl⟩) | (go_at_call 45; refine (shut_any _ _).mono ?_; rintro e w' ⟨rfl, rfl⟩)
          · go_ret
            exact ⟨by rw [← HA.out, HR.out, HS.out, if_pos (by omega)]; rfl, HX.out.alloc.alloc⟩
          · go_roundw
            case rel => exact ⟨k + 1, d - 1, by omega, by omega, by omega, rfl, by go_num, by rw [← HA.out, HR.out, HS.out, if_neg (by omega)], HX.out.alloc.alloc⟩
            case measure => simp [intOf]; omega
        · have HS := Lib.hid (show stepD d t = d by simp [stepD, h1, h2])
          have e1 : (t.cat == 1) = false := by simp [h1]
          have e2 : (t.cat == 2) = false := by simp [h2]
          clear h1 h2
          go_wp2_with first | (go_at_call 46; refine (open_any _ _).mono ?_; rintro e w' ⟨rfl, rfl⟩) | (go_at_call 45; refine (shut_any _ _).mono ?_; rintro e w' ⟨rfl, rfl⟩)
          go_roundw
          case rel => exact ⟨k + 1, d, by omega, by omega, by omega, rfl, by go_num, by rw [← HA.out, HR.out, HS.out, if_neg (by omega)], HX.out.alloc.alloc⟩
          case measure => simp [intOf]; omega
    · have : k = L.length := by omega
      subst this
      go_wp2
      go_ret
      exact ⟨by rw [← HA.out]; simp [balF], HX.out⟩

/-- the closure that counts -/
def counter (b : Nat) : Value := .func (.func 52) #[] #[.pointer (some ⟨b, 0, none⟩)]

theorem braces_any (h : Sat W F w) : Calls Tryd.prog 50 #[] w fun e w' => ∃ b, e = .returned (counter b) ∧ Sat W (pts b (.cells #[.int .i64 0] 3 (0, 0)) * F) w' := by
  go_enter Tryd.func50, Tryd.ntmps50
  go_wp2
  go_ret
  exact ⟨w.heap.size, rfl, h.alloc _⟩

theorem count_any (t : Tok) (d : Int) (b : Nat) (hd : -4000000000 ≤ d ∧ d ≤ 4000000000) (h : Sat W (pts b (.cells #[.int .i64 d] 3 (0, 0)) * F) w) :
    Calls Tryd.prog 52 #[t.val, .pointer (some ⟨b, 0, none⟩)] w fun e w' => e = .returned (.tuple #[.int .i64 (stepD d t), .bool (decide (0 ≤ stepD d t))]) ∧ Sat W (pts b (.cells #[.int .i64 (stepD d t)] 3 (0, 0)) * F) w' := by
  have c0 := h.cell (i := 0) rfl
  have f0 := h.free (i := 0)
  have hb := h.lt
  obtain ⟨hd1, hd2⟩ := hd
  by_cases h1 : t.cat = 1
  · have HS := Lib.hid (show stepD d t = d + 1 by simp [stepD, h1])
    go_enter Tryd.func52, Tryd.ntmps52
    go_wp2
    go_quiet (fail)
    go_wp2
    go_ret2
    exact ⟨by rw [HS.out]; rfl, by rw [HS.out]; exact (Sat.set (i := 0) (v := .int .i64 (d + 1)) h).allocD.drewN⟩
  · by_cases h2 : t.cat = 2
    · have HS := Lib.hid (show stepD d t = d - 1 by simp [stepD, h2])
      go_enter Tryd.func52, Tryd.ntmps52
      go_wp2
      go_quiet (fail)
      go_wp2
      go_ret2
      exact ⟨by rw [HS.out, show decide (0 ≤ d - 1) = decide (1 ≤ d) by rw [decide_eq_decide]; omega]; rfl, by rw [HS.out]; exact (Sat.set (i := 0) (v := .int .i64 (d - 1)) h).allocD.drewN⟩
    · have HS := Lib.hid (show stepD d t = d by simp [stepD, h1, h2])
      go_enter Tryd.func52, Tryd.ntmps52
      go_wp2
      go_quiet (fail)
      go_wp2
      go_ret2
      exact ⟨by rw [HS.out]; rfl, by rw [HS.out]; exact h.allocD.drewN⟩

theorem bal_any (L : List Tok) (v : Value) (w : World) (hn : L.length ≤ 4000000000) (hv : RdT w v L) : Calls Tryd.prog 42 #[v] w fun e w' => e = .returned (.bool (bal L)) ∧ Ext w w' := by
  have HV := Lib.hid hv
  obtain ⟨a, cap, rfl⟩ := hv.val
  clear hv
  go_enter Tryd.func42, Tryd.ntmps42
  go_wp2_with (go_at_call 50; refine (braces_any (Sat.start w)).mono ?_; rintro e w' ⟨bc, rfl, h1⟩)
  go_loopw [4, 11] (fun n i wr => ∃ (k : Nat) (d : Int), k ≤ L.length ∧ 0 ≤ d ∧ d ≤ k ∧ n = .int .i64 d ∧ i = .int .i64 k ∧ balF d (L.drop k) = bal L ∧ Sat w (pts bc (.cells #[.int .i64 d] 3 (0, 0)) * own w) wr) (fun _ i _ => L.length - (intOf i).toNat)
  case atStart => exact ⟨0, 0, Nat.zero_le _, by omega, by omega, rfl, rfl, rfl, h1⟩
  case round =>
    obtain ⟨k, d, hk, hd0, hd1, rfl, rfl, ha, hx⟩ := hrel
    have HA := Lib.hid ha
    have HX := Lib.hid hx
    clear ha hx
    by_cases hlt : k < L.length
    · obtain ⟨b, off, rfl, ⟨c0, c1, c2⟩, hb⟩ := (HV.out.ext HX.out.extR).at hlt
      have HR := Lib.hid (balF_drop L d k hlt)
      generalize L[k] = t at *
      have lt1 : (k : Int) < (L.length : Int) := by omega
      unfold counter
      go_wp2_with (go_at_call 52; refine (count_any t d bc (by omega) HX.out.allocD).mono ?_; rintro e w' ⟨rfl, h2⟩)
      · have hr : (!decide (0 ≤ stepD d t)) = true := by assumption
        go_ret
        exact ⟨by rw [← HA.out, HR.out, if_pos (by simpa using hr)]; rfl, h2.extR⟩
      · have hr : (!decide (0 ≤ stepD d t)) = false := by assumption
        have hr' : 0 ≤ stepD d t := by simpa using hr
        have hle : stepD d t ≤ d + 1 := by unfold stepD; split <;> (try split) <;> omega
        go_roundw
        case rel => exact ⟨k + 1, stepD d t, by omega, hr', by omega, rfl, by go_num, by rw [← HA.out, HR.out, if_neg (by omega)], h2⟩
        case measure => simp [intOf]; omega
    · have : k = L.length := by omega
      subst this
      go_wp2
      go_ret
      exact ⟨by rw [← HA.out]; simp [balF], HX.out.extR⟩

end Go.Proofs.YtlfekbmcegbhoaaDoor
