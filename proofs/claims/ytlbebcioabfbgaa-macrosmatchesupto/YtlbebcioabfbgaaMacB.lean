/-
  Package macros and its reference: places, digits, braces, lists that are right or balanced. Conditions: those that each theorem names.
-/
import Derived.Test.YtlbebcioabfbgaaMacA
namespace Go.Proofs.Ytlbebcioabfbgaa
open Go.RowKit Go.Sp
variable {W w : World} {F : HProp}

/-- a place's number; 0: it is none -/
def placeN (t : Tok) : Nat := if placeB t then t.chr.toNat else 0

theorem placeR_any (t : Tok) (w : World) : Calls Try.prog 50 #[t.val] w fun e w' => e = .returned (.int .i64 (placeN t)) ∧ w.alloc t.box = w' := by
  cases hp : placeB t
  · have hz : placeN t = 0 := by simp [placeN, hp]
    have HZ := Lib.hid hz
    have HP := Lib.hid hp
    clear hz hp
    go_enter Try.func50, Try.ntmps50
    go_wp2
    all_goals
      go_ret
      first
        | exact ⟨by rw [HZ.out]; rfl, by first | rfl | (simp [Tok.box, *]; done)⟩
        | (exfalso; have := HP.out; simp_all [placeB])
  · have hz : placeN t = t.chr.toNat := by simp [placeN, hp]
    have HZ := Lib.hid hz
    have HP := Lib.hid hp
    clear hz
    simp only [placeB, Bool.and_eq_true, beq_iff_eq, decide_eq_true_eq] at hp
    obtain ⟨⟨⟨h1, h2⟩, h3⟩, h4⟩ := hp
    go_enter Try.func50, Try.ntmps50
    go_wp2
    go_ret
    exact ⟨by rw [HZ.out]; rfl, by first | rfl | (simp [Tok.box, *]; done)⟩

theorem open_any (t : Tok) (w : World) : Calls Try.prog 42 #[t.val] w fun e w' => e = .returned (.bool (t.cat == 1)) ∧ w.alloc t.box = w' := by
  go_enter Try.func42, Try.ntmps42
  go_wp2
  go_ret
  exact ⟨rfl, rfl⟩

theorem shut_any (t : Tok) (w : World) : Calls Try.prog 43 #[t.val] w fun e w' => e = .returned (.bool (t.cat == 2)) ∧ w.alloc t.box = w' := by
  go_enter Try.func43, Try.ntmps43
  go_wp2
  go_ret
  exact ⟨rfl, rfl⟩

theorem hash_any (t : Tok) (w : World) : Calls Try.prog 44 #[t.val] w fun e w' => e = .returned (.bool (t.cat == 6)) ∧ w.alloc t.box = w' := by
  go_enter Try.func44, Try.ntmps44
  go_wp2
  go_ret
  exact ⟨rfl, rfl⟩

/-- 1 to 9, of a token; 0: none -/
def digitT (t : Tok) : Nat := if t.cat = 12 ∧ 49 ≤ t.chr.toNat ∧ t.chr.toNat ≤ 57 then t.chr.toNat - 48 else 0

theorem digitR_any (t : Tok) (w : World) : Calls Try.prog 45 #[t.val] w fun e w' => e = .returned (.int .i64 (digitT t)) ∧ w.alloc t.box = w' := by
  have hb : (t.chr.toNat : Int) < 256 := by have := t.chr.toNat_lt; omega
  by_cases h : t.cat = 12 ∧ 49 ≤ t.chr.toNat ∧ t.chr.toNat ≤ 57
  · have hz : ((digitT t : Nat) : Int) = t.chr.toNat - 48 := by simp only [digitT, if_pos h]; omega
    have HZ := Lib.hid hz
    clear hz
    obtain ⟨h1, h2, h3⟩ := h
    have h2' : (49 : Int) ≤ t.chr.toNat := by omega
    have h3' : (t.chr.toNat : Int) ≤ 57 := by omega
    go_enter Try.func45, Try.ntmps45
    go_wp2
    go_ret
    exact ⟨by rw [HZ.out]; rfl, by first | rfl | (simp [Tok.box, *]; done)⟩
  · have hz : digitT t = 0 := by simp only [digitT, if_neg h]
    have HZ := Lib.hid hz
    clear hz
    by_cases h1 : t.cat = 12
    · by_cases h2 : 49 ≤ (t.chr.toNat : Int)
      · have h3 : ¬ (t.chr.toNat : Int) ≤ 57 := fun h3 => h ⟨h1, by omega, by omega⟩
        clear h
        go_enter Try.func45, Try.ntmps45
        go_wp2
        go_ret
        exact ⟨by rw [HZ.out]; rfl, by first | rfl | (simp [Tok.box, *]; done)⟩
      · clear h
        go_enter Try.func45, Try.ntmps45
        go_wp2
        go_ret
        exact ⟨by rw [HZ.out]; rfl, by first | rfl | (simp [Tok.box, *]; done)⟩
    · clear h
      go_enter Try.func45, Try.ntmps45
      go_wp2
      go_ret
      exact ⟨by rw [HZ.out]; rfl, by first | rfl | (simp [Tok.box, *]; done)⟩

def digitAt (L : List Tok) (i : Nat) : Nat := match L[i]? with | some t => digitT t | none => 0

theorem digit_any (L : List Tok) (v : Value) (i : Nat) (w : World) (hv : RdT w v L) : Calls Try.prog 40 #[v, .int .i64 i] w fun e w' => e = .returned (.int .i64 (digitAt L i)) ∧ w = w' := by
  have hl := hv.le
  by_cases hlt : i < L.length
  · obtain ⟨b, off, cap, rfl, hc⟩ := hv.head (by omega)
    have hz : digitAt L i = digitT L[i] := by simp [digitAt, hlt]
    obtain ⟨c0, c1, c2⟩ := hc i hlt
    clear hc hv
    generalize L[i] = t at *
    have lt1 : (i : Int) < (L.length : Int) := by omega
    have hb : (t.chr.toNat : Int) < 256 := by have := t.chr.toNat_lt; omega
    by_cases h : t.cat = 12 ∧ 49 ≤ t.chr.toNat ∧ t.chr.toNat ≤ 57
    · have hz' : ((digitAt L i : Nat) : Int) = t.chr.toNat - 48 := by rw [hz]; simp only [digitT, if_pos h]; omega
      have HZ := Lib.hid hz'
      clear hz' hz
      obtain ⟨h1, h2, h3⟩ := h
      have h2' : (49 : Int) ≤ t.chr.toNat := by omega
      have h3' : (t.chr.toNat : Int) ≤ 57 := by omega
      go_enter Try.func40, Try.ntmps40
      go_wp2
      go_ret
      exact ⟨by rw [HZ.out]; rfl, rfl⟩
    · have hz' : digitAt L i = 0 := by rw [hz]; simp only [digitT, if_neg h]
      have HZ := Lib.hid hz'
      clear hz hz'
      by_cases h1 : t.cat = 12
      · by_cases h2 : 49 ≤ (t.chr.toNat : Int)
        · have h3 : ¬ (t.chr.toNat : Int) ≤ 57 := fun h3 => h ⟨h1, by omega, by omega⟩
          clear h
          go_enter Try.func40, Try.ntmps40
          go_wp2
          go_ret
          exact ⟨by rw [HZ.out]; rfl, rfl⟩
        · clear h
          go_enter Try.func40, Try.ntmps40
          go_wp2
          go_ret
          exact ⟨by rw [HZ.out]; rfl, rfl⟩
      · clear h
        go_enter Try.func40, Try.ntmps40
        go_wp2
        go_ret
        exact ⟨by rw [HZ.out]; rfl, rfl⟩
  · have hz : digitAt L i = 0 := by simp [digitAt, List.getElem?_eq_none (Nat.le_of_not_lt hlt)]
    have HZ := Lib.hid hz
    clear hz
    obtain ⟨a, cap, rfl⟩ := hv.val
    clear hv
    go_enter Try.func40, Try.ntmps40
    go_wp2
    go_ret
    exact ⟨by rw [HZ.out]; rfl, rfl⟩

/-- all are right -/
theorem rights_any (L : List Tok) (v : Value) (w : World) (hv : RdT w v L) : Calls Try.prog 41 #[v] w fun e w' => e = .returned (.bool (L.all rightB)) ∧ Ext w w' := by
  have hl := hv.le
  have HV := Lib.hid hv
  obtain ⟨a, cap, rfl⟩ := hv.val
  clear hv
  go_enter Try.func41, Try.ntmps41
  go_wp2
  go_loopw [3] (fun i wr => ∃ k : Nat, k ≤ L.length ∧ i = .int .i64 k ∧ (L.drop k).all rightB = L.all rightB ∧ Ext w wr) (fun i _ => L.length - (intOf i).toNat)
  case atStart => exact ⟨0, Nat.zero_le _, rfl, rfl, Ext.refl _⟩
  case round =>
    obtain ⟨k, hk, rfl, ha, hx⟩ := hrel
    have HA := Lib.hid ha
    have HX := Lib.hid hx
    clear ha hx
    by_cases hlt : k < L.length
    · obtain ⟨b, off, rfl, ⟨c0, c1, c2⟩, hb⟩ := (HV.out.ext HX.out).at hlt
      have HR := Lib.hid (show (L.drop k).all rightB = (rightB L[k] && (L.drop (k + 1)).all rightB) by rw [List.drop_eq_getElem_cons hlt, List.all_cons])
      generalize L[k] = t at *
      have lt1 : (k : Int) < (L.length : Int) := by omega
      go_wp2_with (go_at_call 54; refine (rightR_any _ _).mono ?_; rintro e w' ⟨rfl, rfl⟩)
      · have hr : (!rightB t) = true := by assumption
        go_ret
        exact ⟨by rw [← HA.out, HR.out]; simp_all, HX.out.alloc⟩
      · have hr : (!rightB t) = false := by assumption
        go_roundw
        case rel => exact ⟨k + 1, by omega, by go_num, by rw [← HA.out, HR.out]; simp_all, HX.out.alloc⟩
        case measure => simp [intOf]; omega
    · have : k = L.length := by omega
      subst this
      go_wp2
      go_ret
      exact ⟨by rw [← HA.out]; simp, HX.out⟩

end Go.Proofs.Ytlbebcioabfbgaa
