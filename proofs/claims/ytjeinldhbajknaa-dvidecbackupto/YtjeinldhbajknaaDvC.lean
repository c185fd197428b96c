
/-
  A feed as a value; a byte, a number out of it. Conditions: those that each theorem names.
-/
import Derived.Test.YtjeinldhbajknaaDvB
import Derived.Deep.LoopGhost
import Derived.Deep.DeepCutAuto
namespace Go.Proofs.Ytjeinldhbajknaa
open Go.RowKit Go.Sp Go.Conc
variable {W w w' : World} {A : HProp}

/-- a feed: what is left, how many were read, was one missing? -/
structure Fd where
  l : List UInt8
  at_ : Nat
  lost : Bool
def Fd.next (f : Fd) : Nat × Fd := match f.l with
  | x :: l => (x.toNat, ⟨l, f.at_ + 1, f.lost⟩)
  | [] => (0, ⟨[], f.at_, true⟩)
/-- a number out of so many bytes, behind v -/
def Fd.num : Nat → Nat → Fd → Nat × Fd
  | 0, v, f => (v, f)
  | k + 1, v, f => Fd.num k (v * 256 + f.next.1) f.next.2
def FdAt (W : World) (A : HProp) (b c cap : Nat) (f : Fd) (w : World) : Prop := f.at_ + f.l.length ≤ 1048576 ∧ FeedAt W A b c cap f.l f.at_ f.lost w

theorem Fd.next_lt (f : Fd) : f.next.1 < 256 := by
  unfold Fd.next
  split
  · rename_i x l _; exact x.toNat_lt
  · exact Nat.zero_lt_succ _
theorem next_any {b c cap : Nat} {f : Fd} (h : FdAt W A b c cap f w) :
    Calls Try.prog 34 #[.pointer (some ⟨b, 0, none⟩)] w fun e w' => e = .returned (.int .i64 (f.next.1 : Nat)) ∧ FdAt W A b c cap f.next.2 w' := by
  obtain ⟨l, n, lost⟩ := f
  obtain ⟨h1, h2⟩ := h
  simp only at h1 h2
  cases l with
  | nil => exact (next_none h2).mono fun _ _ ⟨he, hs⟩ => ⟨he, h1, hs⟩
  | cons x l =>
    simp only [List.length_cons] at h1
    exact (next_some (by omega) h2).mono fun _ _ ⟨he, hs⟩ => ⟨he, by simp only [Fd.next]; omega, hs⟩

/-- with its sign -/
def sgnV (m : Nat) (sg : Bool) (v : Nat) : Int := if (sg = true ∨ m = 4) ∧ 2 ^ (8 * m - 1) ≤ v then (v : Int) - 2 ^ (8 * m) else v

theorem or_add (v x : Nat) (hx : x < 256) : v * 256 ||| x = v * 256 + x := by
  have := Nat.two_pow_add_eq_or_of_lt (i := 8) (b := x) (by omega) v
  rw [Nat.mul_comm v 256]
  exact this.symm

theorem bits_or (a b : Nat) (ha : a < 2 ^ 63) (hb : b < 2 ^ 63) : bits .or .i64 (a : Int) (b : Int) = ((a ||| b : Nat) : Int) := by
  have e : ∀ n : Nat, BitVec.ofInt 64 (n : Int) = BitVec.ofNat 64 n := fun n => by simp
  show IntKind.i64.wrap (((BitVec.ofInt 64 (a : Int) ||| BitVec.ofInt 64 (b : Int)).toNat : Nat) : Int) = _
  rw [e, e, BitVec.toNat_or, BitVec.toNat_ofNat, BitVec.toNat_ofNat, Nat.mod_eq_of_lt (by omega), Nat.mod_eq_of_lt (by omega)]
  have := Nat.or_lt_two_pow ha hb
  exact wrap_small _ (by omega) (by omega)
theorem byte_in (v x : Nat) (hv : v < 16777216) (hx : x < 256) : wrap64 ((v : Int) * 256) = (v : Int) * 256 ∧ bits .or .i64 ((v : Int) * 256) (x : Int) = ((v * 256 + x : Nat) : Int) := by
  refine ⟨?_, ?_⟩
  · unfold wrap64; omega
  · rw [show (v : Int) * 256 = ((v * 256 : Nat) : Int) by omega, bits_or _ _ (by omega) (by omega), or_add v x hx]
theorem pow_le (k : Nat) (hk : k < 4) (v : Nat) (hv : v < 256 ^ k) : v < 16777216 := by
  have : 256 ^ k ≤ 256 ^ 3 := Nat.pow_le_pow_right (by omega) (by omega)
  omega

set_option maxRecDepth 100000 in
set_option maxHeartbeats 4000000 in
theorem number_any {b c cap : Nat} {f : Fd} (m : Nat) (h1 : 1 ≤ m) (hm : m ≤ 4) (sg : Bool) (h : FdAt W A b c cap f w) :
    Calls Try.prog 65 #[.pointer (some ⟨b, 0, none⟩), .int .i64 m, .bool sg] w fun e w' => e = .returned (.int .i64 (sgnV m sg (f.num m 0).1)) ∧ FdAt W A b c cap (f.num m 0).2 w' := by
  have H := Lib.hid h
  obtain ⟨r, hr⟩ : ∃ r, f.num m 0 = r := ⟨_, rfl⟩
  rw [hr]
  have HR := Lib.hid hr
  clear h hr
  go_enter Try.func65, Try.ntmps65
  go_wp2_with fail
  go_loopg [7, 9] m (fun gg s7 s9 wx => ∃ (k v : Nat) (g : Fd), k ≤ m ∧ gg = m - k ∧ s9 = .int .i64 k ∧ s7 = .int .i64 v ∧ v < 256 ^ k ∧ g.num (m - k) v = r ∧ FdAt W A b c cap g wx)
  case atStart => exact ⟨0, 0, f, by omega, rfl, by go_num, by go_num, by omega, HR.out, H.out⟩
  case round =>
    obtain ⟨k, v, g, hk, rfl, rfl, rfl, hv, hg, hx⟩ := hrel
    have HX := Lib.hid hx
    have HG := Lib.hid hg
    clear hx hg H HR
    by_cases hlt : k < m
    · have i1 : (k : Int) < (m : Int) := by omega
      have HN := Lib.hid (next_any HX.out)
      have hl := g.next_lt
      obtain ⟨q1, q2⟩ := byte_in v g.next.1 (pow_le k (by omega) v hv) hl
      go_wp2_with fail
      refine Calls.mono HN.out ?_
      rintro e w2 ⟨rfl, h2⟩
      have H2 := Lib.hid h2
      have hv2 : v * 256 + g.next.1 < 256 ^ (k + 1) := by rw [Nat.pow_succ]; omega
      have HG2 := Lib.hid (show g.next.2.num (m - (k + 1)) (v * 256 + g.next.1) = r by
        have := HG.out
        rw [show m - k = (m - (k + 1)) + 1 by omega] at this
        exact this)
      have HV2 := Lib.hid hv2
      clear h2 hv2 hv
      generalize v * 256 + g.next.1 = v2 at *
      go_wp2
      go_roundg (m - (k + 1))
      case measure => omega
      case rel => exact ⟨k + 1, v2, g.next.2, by omega, rfl, by go_num, rfl, HV2.out, HG2.out, H2.out⟩
    · obtain rfl : m = k := by omega
      have hr : (v, g) = r := by
        have := HG.out
        rw [Nat.sub_self] at this
        exact this
      subst hr
      clear hlt HG
      have hm4 : m = 1 ∨ m = 2 ∨ m = 3 ∨ m = 4 := by omega
      rcases hm4 with rfl | rfl | rfl | rfl
      · skip
        by_cases hge : 128 ≤ v
        · have i1 : (128 : Int) ≤ (v : Int) := by omega
          cases sg
          all_goals
            go_wp2
            go_ret
            exact ⟨by simp [sgnV, hge], HX.out⟩
        · have i1 : ¬ (128 : Int) ≤ (v : Int) := by omega
          cases sg
          all_goals
            go_wp2
            go_ret
            exact ⟨by simp [sgnV, hge], HX.out⟩
      · skip
        by_cases hge : 32768 ≤ v
        · have i1 : (32768 : Int) ≤ (v : Int) := by omega
          cases sg
          all_goals
            go_wp2
            go_ret
            exact ⟨by simp [sgnV, hge], HX.out⟩
        · have i1 : ¬ (32768 : Int) ≤ (v : Int) := by omega
          cases sg
          all_goals
            go_wp2
            go_ret
            exact ⟨by simp [sgnV, hge], HX.out⟩
      · skip
        by_cases hge : 8388608 ≤ v
        · have i1 : (8388608 : Int) ≤ (v : Int) := by omega
          cases sg
          all_goals
            go_wp2
            go_ret
            exact ⟨by simp [sgnV, hge], HX.out⟩
        · have i1 : ¬ (8388608 : Int) ≤ (v : Int) := by omega
          cases sg
          all_goals
            go_wp2
            go_ret
            exact ⟨by simp [sgnV, hge], HX.out⟩
      · skip
        by_cases hge : 2147483648 ≤ v
        · have i1 : (2147483648 : Int) ≤ (v : Int) := by omega
          cases sg
          all_goals
            go_wp2
            go_ret
            exact ⟨by simp [sgnV, hge], HX.out⟩
        · have i1 : ¬ (2147483648 : Int) ≤ (v : Int) := by omega
          cases sg
          all_goals
            go_wp2
            go_ret
            exact ⟨by simp [sgnV, hge], HX.out⟩

end Go.Proofs.Ytjeinldhbajknaa
