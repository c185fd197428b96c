
/-
  A size: the halving of the font's size, and the sum. Conditions: those that each theorem names.
-/
import Derived.Test.YtembknlhocijkaaFtB
import Derived.Deep.LoopGhost
namespace Go.Proofs.Ytembknlhocijkaa
open Go.RowKit Go.Sp

theorem and255 (x : Int) : bits .and .i64 x 255 = x % 256 := by
  have h1 : (BitVec.ofInt 64 x &&& BitVec.ofInt 64 255).toNat = (x % 18446744073709551616).toNat % 256 := by
    rw [BitVec.toNat_and, BitVec.toNat_ofInt, show (BitVec.ofInt 64 255).toNat = 2 ^ 8 - 1 by decide, Nat.and_two_pow_sub_one_eq_mod]
    rfl
  show IntKind.i64.wrap (((BitVec.ofInt 64 x &&& BitVec.ofInt 64 255).toNat : Nat) : Int) = _
  rw [h1]
  rw [IntWalk.i64_in _ (by omega)]
  omega
attribute [go_sem] and255

/-- the halving: what is left, and by how much -/
def halve : Nat → Int → Int → Int × Int
  | 0, z, a => (z, a)
  | g + 1, z, a => if 8388608 ≤ z then halve g (z / 2) (a * 2) else (z, a)
def sizeZ (at_ : Int) : Int := (halve 4 at_ 16).1
def sizeA (at_ : Int) : Int := (halve 4 at_ 16).2
/-- how far the halving has come -/
def Stage (g : Nat) (z a : Int) : Prop :=
  (g = 4 ∧ a = 16 ∧ z < 134217728) ∨ (g = 3 ∧ a = 32 ∧ z < 67108864) ∨ (g = 2 ∧ a = 64 ∧ z < 33554432) ∨ (g = 1 ∧ a = 128 ∧ z < 16777216) ∨ (g = 0 ∧ a = 256 ∧ z < 8388608)
theorem Stage.bnd {g : Nat} {z a : Int} (h : Stage g z a) : g ≤ 4 ∧ 16 ≤ a ∧ a ≤ 256 ∧ z < 134217728 := by unfold Stage at h; omega
theorem Stage.next {g : Nat} {z a : Int} (h : Stage g z a) (hz : 8388608 ≤ z) : ∃ g', g = g' + 1 ∧ Stage g' (z / 2) (a * 2) := by
  unfold Stage at h ⊢
  rcases h with h | h | h | h | h
  · exact ⟨3, by omega, by omega⟩
  · exact ⟨2, by omega, by omega⟩
  · exact ⟨1, by omega, by omega⟩
  · exact ⟨0, by omega, by omega⟩
  · omega
theorem halve_go {g : Nat} {z a : Int} (hz : 8388608 ≤ z) : halve (g + 1) z a = halve g (z / 2) (a * 2) := by rw [halve, if_pos hz]
theorem halve_end {g : Nat} {z a : Int} (hz : ¬ 8388608 ≤ z) : halve g z a = (z, a) := by
  cases g with
  | zero => rfl
  | succ g => rw [halve, if_neg hz]
/-- what is left, and by how much: one of five -/
def Halved (z a : Int) : Prop := 1 ≤ z ∧ z < 8388608 ∧ (a = 16 ∨ a = 32 ∨ a = 64 ∨ a = 128 ∨ a = 256)
def sumM (z a x : Int) : Int := ((x % 256 * z / 256 + x / 256 % 256 * z) / 256 + x / 65536 % 256 * z) / (256 / a)
/-- Size's number -/
def sizeM (at_ x : Int) : Int := if x < 0 then sumM (sizeZ at_) (sizeA at_) x - sizeA at_ * sizeZ at_ else sumM (sizeZ at_) (sizeA at_) x
def sizeOk (at_ x : Int) : Bool := decide (1 ≤ at_) && decide (at_ ≤ 134217727) && fixB x
theorem mul_in {u z : Int} (h0 : 0 ≤ u) (h1 : u ≤ 255) (h2 : 1 ≤ z) (h3 : z < 8388608) : 0 ≤ u * z ∧ u * z ≤ 2139094785 := by
  refine ⟨Int.mul_nonneg h0 (by omega), ?_⟩
  have h4 : u * z ≤ 255 * z := Int.mul_le_mul_of_nonneg_right h1 (by omega)
  omega
set_option maxRecDepth 100000 in
set_option maxHeartbeats 4000000 in
theorem size_any (at_ x : Int) (w : World) : Calls Try.prog 5 #[.int .i64 at_, .int .i64 x] w fun e w' => e = .returned (.tuple #[.int .i64 (if sizeOk at_ x then sizeM at_ x else 0), .int .i64 (if sizeOk at_ x then 0 else 11)]) ∧ w' = w := by
  obtain ⟨r, hr⟩ : ∃ r, (if sizeOk at_ x then sizeM at_ x else 0) = r := ⟨_, rfl⟩
  obtain ⟨q, hq⟩ : ∃ q : Int, (if sizeOk at_ x then 0 else 11) = q := ⟨_, rfl⟩
  rw [hr, hq]
  have HR := Lib.hid hr
  have HQ := Lib.hid hq
  clear hr hq
  by_cases h1 : 1 ≤ at_
  · by_cases h2 : at_ ≤ 134217727
    · obtain ⟨y, hy⟩ : ∃ y, fixB x = y := ⟨_, rfl⟩
      have HF := Lib.hid (fix_any x w)
      rw [hy] at HF
      cases y with
      | true =>
        have hok : sizeOk at_ x = true := by unfold sizeOk; rw [hy, decide_eq_true h1, decide_eq_true h2]; rfl
        have hx : -16777216 ≤ x ∧ x < 16777216 := by unfold fixB at hy; rw [Bool.and_eq_true, decide_eq_true_eq, decide_eq_true_eq] at hy; exact hy
        have hr := HR.out
        rw [if_pos hok] at hr
        have hq := HQ.out
        rw [if_pos hok] at hq
        clear HR HQ hok hy
        subst hq
        subst hr
        have h1' : ¬ at_ < 1 := by omega
        have h2' : ¬ 134217727 < at_ := by omega
        obtain ⟨hx1, hx2⟩ := hx
        go_enter Try.func5, Try.ntmps5
        go_wp2_with fail
        with_reducible refine Calls.mono HF.out ?_
        rintro e w2 ⟨rfl, rfl⟩
        go_wp2_with fail
        go_loopg [6, 7] 4 (fun gg s6 s7 wx => ∃ (g : Nat) (z a : Int), gg = g ∧ s6 = .int .i64 z ∧ s7 = .int .i64 a ∧ 1 ≤ z ∧ Stage g z a ∧ halve 4 at_ 16 = halve g z a ∧ wx = w2)
        case atStart => exact ⟨4, at_, 16, rfl, rfl, rfl, h1, Or.inl ⟨rfl, rfl, by omega⟩, rfl, rfl⟩
        case round =>
          obtain ⟨g, z, a, hg, rfl, rfl, hz1, hst, he, rfl⟩ := hrel
          have HG := Lib.hid hg
          have HS := Lib.hid hst
          have HE := Lib.hid he
          obtain ⟨-, ha1, ha2, hz2⟩ := hst.bnd
          clear hg hst he
          by_cases hz : 8388608 ≤ z
          · obtain ⟨g', hg', hst'⟩ := HS.out.next hz
            have HT := Lib.hid hst'
            have HE2 := Lib.hid (show halve 4 at_ 16 = halve g' (z / 2) (a * 2) by rw [HE.out, hg', halve_go hz])
            have HG2 := Lib.hid hg'
            clear hst' hg'
            go_wp2
            go_roundg g'
            case measure => have := HG.out; have := HG2.out; omega
            case rel => exact ⟨g', _, _, rfl, rfl, by go_num, by omega, HT.out, HE2.out, rfl⟩
          · have HH := Lib.hid (show halve 4 at_ 16 = (z, a) by rw [HE.out, halve_end hz])
            have ha : a = 16 ∨ a = 32 ∨ a = 64 ∨ a = 128 ∨ a = 256 := by have := HS.out; unfold Stage at this; omega
            have HA := Lib.hid ha
            have hd := mul_in (u := x % 256) (z := z) (by omega) (by omega) hz1 (by omega)
            have hc := mul_in (u := x / 256 % 256) (z := z) (by omega) (by omega) hz1 (by omega)
            have hb := mul_in (u := x / 65536 % 256) (z := z) (by omega) (by omega) hz1 (by omega)
            obtain ⟨hd1, hd2⟩ := hd
            obtain ⟨hc1, hc2⟩ := hc
            obtain ⟨hb1, hb2⟩ := hb
            have hq : 1 ≤ 256 / a ∧ 256 / a ≤ 16 := by rcases ha with rfl | rfl | rfl | rfl | rfl <;> decide
            obtain ⟨hq1, hq2⟩ := hq
            have haz : 0 ≤ a * z ∧ a * z ≤ 2147483648 := by rcases ha with rfl | rfl | rfl | rfl | rfl <;> omega
            obtain ⟨haz1, haz2⟩ := haz
            clear ha HS HE HG
            have hsum : 0 ≤ sumM z a x ∧ sumM z a x ≤ 4294967296 := by
              unfold sumM
              have h0 : 0 ≤ (x % 256 * z / 256 + x / 256 % 256 * z) / 256 + x / 65536 % 256 * z := by omega
              have h1 : (x % 256 * z / 256 + x / 256 % 256 * z) / 256 + x / 65536 % 256 * z ≤ 4294967296 := by omega
              exact ⟨Int.ediv_nonneg h0 (by omega), Int.le_trans (Int.ediv_le_self _ h0) h1⟩
            have HW := Lib.hid (show wrap64 (sumM z a x - a * z) = sumM z a x - a * z from IntWalk.wrap64_in _ (by omega))
            clear hsum
            have hhz : halve 4 at_ 16 = (z, a) := HH.out
            by_cases hx0 : x < 0
            · go_wp2
              go_ret2
              refine ⟨?_, rfl⟩
              rw [show sizeM at_ x = wrap64 (sumM z a x - a * z) by unfold sizeM sizeZ sizeA; rw [hhz, if_pos hx0, HW.out]]
              rfl
            · go_wp2
              go_ret2
              refine ⟨?_, rfl⟩
              rw [show sizeM at_ x = sumM z a x by unfold sizeM sizeZ sizeA; rw [hhz, if_neg (by omega)]]
              rfl
      | false =>
        have hok : sizeOk at_ x = false := by unfold sizeOk; rw [hy, Bool.and_false]
        have hr := HR.out
        rw [hok] at hr
        have hq := HQ.out
        rw [hok] at hq
        simp only [Bool.false_eq_true, if_false] at hr hq
        clear HR HQ hok hy
        subst hq
        subst hr
        have h1' : ¬ at_ < 1 := by omega
        have h2' : ¬ 134217727 < at_ := by omega
        go_enter Try.func5, Try.ntmps5
        go_wp2_with fail
        with_reducible refine Calls.mono HF.out ?_
        rintro e w2 ⟨rfl, rfl⟩
        go_wp2
        go_ret2
        exact ⟨rfl, rfl⟩
    · have hok : sizeOk at_ x = false := by unfold sizeOk; rw [decide_eq_false h2, Bool.and_false]; rfl
      have hr := HR.out
      rw [hok] at hr
      have hq := HQ.out
      rw [hok] at hq
      simp only [Bool.false_eq_true, if_false] at hr hq
      clear HR HQ hok
      subst hq
      subst hr
      have h1' : ¬ at_ < 1 := by omega
      have h2' : 134217727 < at_ := by omega
      go_enter Try.func5, Try.ntmps5
      go_wp2
      go_ret2
      exact ⟨rfl, rfl⟩
  · have hok : sizeOk at_ x = false := by unfold sizeOk; rw [decide_eq_false h1, Bool.false_and]; rfl
    have hr := HR.out
    rw [hok] at hr
    have hq := HQ.out
    rw [hok] at hq
    simp only [Bool.false_eq_true, if_false] at hr hq
    clear HR HQ hok
    subst hq
    subst hr
    have h1' : at_ < 1 := by omega
    go_enter Try.func5, Try.ntmps5
    go_wp2
    go_ret2
    exact ⟨rfl, rfl⟩
end Go.Proofs.Ytembknlhocijkaa
