
/-
  Sums and products in registers, in plain Lean. Conditions: those that each theorem names.
-/
import Derived.Test.YtebggkgciocciaaTabAA
namespace Go.Proofs.Ytebggkgciocciaa
open Go.RowKit Go.Sp

def mostC (c : Nat) : Int := if c = 1 then 2147483647 else 1073741823
theorem right_kv {c : Nat} (hc : c = 1 ∨ c = 2) (x : Int) : rightM (c : Int) (kv x) = true ↔ (-mostC c ≤ x ∧ x ≤ mostC c) := by
  have hb : bareN (kv x) = true := rfl
  rcases hc with rfl | rfl
  · rw [rightM, if_pos (by rfl), hb, Bool.true_and, withB, decide_eq_true_iff]; rfl
  · rw [rightM, if_neg (by decide), if_pos (by rfl), hb, Bool.true_and, withB, decide_eq_true_iff]; rfl
theorem mostC_le (c : Nat) : 0 < mostC c ∧ mostC c ≤ 2147483647 := by unfold mostC; split <;> omega

theorem clo_kv {c : Nat} (hc : c = 1 ∨ c = 2) {z er0 : Int} {r : RegS} {er : Int} (h : CloR (c : Int) z er0 r er) : r = kv z ∧ er = er0 := by
  obtain ⟨h1, h2⟩ := h.2 (by rcases hc with rfl | rfl <;> decide)
  exact ⟨h1, h2⟩

theorem putS_regs (S : TabS) (c i : Nat) (r : RegS) (g : Bool) : (putS S c i r g).regs = setS S.regs (c * 256 + i) r := by cases g <;> rfl

/-- a step: nothing, or the register is what was made -/
theorem arith_plain {S S1 : TabS} {c i : Nat} {E er0 : Int} {z : Int → Int} {ok : Prop} (hc : c = 1 ∨ c = 2) (h : ArithR S S1 c i false E z ok er0) :
    (E ≠ 0 ∧ S1 = S) ∨ (E = 0 ∧ ok ∧ er0 = 0 ∧ rightM (c : Int) (kv (z (S.regs (c * 256 + i)).n)) = true ∧ S1.regs = setS S.regs (c * 256 + i) (kv (z (S.regs (c * 256 + i)).n))) := by
  rcases h with ⟨_, h1, h2⟩ | ⟨hok, c', i', h1, h2, -, -, -, r, er, h3, h4, h5⟩
  · exact .inl ⟨h1, h2⟩
  · obtain rfl : c = c' := by omega
    obtain rfl : i = i' := by omega
    obtain ⟨rfl, rfl⟩ := clo_kv hc h3
    by_cases he : er = 0
    · subst he
      by_cases hr : rightM (c : Int) (kv (z (S.regs (c * 256 + i)).n)) = true
      · rw [sumE, if_neg (by simp), if_pos hr] at h4
        rw [sumT, if_neg (by simp), if_pos hr] at h5
        exact .inr ⟨h4, hok, rfl, hr, by rw [h5, putS_regs]⟩
      · rw [sumE, if_neg (by simp), if_neg hr] at h4
        rw [sumT, if_neg (by simp), if_neg hr] at h5
        exact .inl ⟨by rw [h4]; decide, h5⟩
    · rw [sumE, if_pos he] at h4
      rw [sumT, if_pos he] at h5
      exact .inl ⟨by rw [h4]; exact he, h5⟩

/-- and when it must do -/
theorem arith_yes {S S1 : TabS} {c i : Nat} {E : Int} {z : Int → Int} {ok : Prop} (hc : c = 1 ∨ c = 2) (h : ArithR S S1 c i false E z ok 0) (hok : ok) (hr : rightM (c : Int) (kv (z (S.regs (c * 256 + i)).n)) = true) :
    E = 0 ∧ S1.regs = setS S.regs (c * 256 + i) (kv (z (S.regs (c * 256 + i)).n)) := by
  rcases h with ⟨h0, _, _⟩ | ⟨_, c', i', h1, h2, -, -, -, r, er, h3, h4, h5⟩
  · exact absurd hok h0
  · obtain rfl : c = c' := by omega
    obtain rfl : i = i' := by omega
    obtain ⟨rfl, rfl⟩ := clo_kv hc h3
    rw [sumE, if_neg (by simp), if_pos hr] at h4
    rw [sumT, if_neg (by simp), if_pos hr] at h5
    exact ⟨h4, by rw [h5, putS_regs]⟩

theorem setS_set (f : Nat → RegS) (j : Nat) (u v : RegS) : setS (setS f j u) j v = setS f j v := by
  funext k
  unfold setS
  split <;> rfl
theorem setS_same (f : Nat → RegS) (j : Nat) {v : RegS} (h : f j = v) : setS f j v = f := by
  funext k
  unfold setS
  split
  · rename_i hk; rw [hk, h]
  · rfl

/-- what is added and taken away again -/
theorem add_back {S S1 S2 : TabS} {c i : Nat} {a b E E2 : Int} (hc : c = 1 ∨ c = 2) (hreg : S.regs (c * 256 + i) = kv a) (ha : rightM (c : Int) (kv a) = true) (hE : E = 0)
    (h1 : ArithR S S1 c i false E (fun x => wrap64 (x + (kv b).n)) (advOK c i (kv b)) 0) (h2 : ArithR S1 S2 c i false E2 (fun x => wrap64 (x + (kv (wrap64 (-b))).n)) (advOK c i (kv (wrap64 (-b)))) 0) :
    E2 = 0 ∧ S2.regs = S.regs := by
  have hm := mostC_le c
  rcases arith_plain hc h1 with ⟨h3, _⟩ | ⟨_, hok, _, hr, hs⟩
  · exact absurd hE h3
  · simp only [hreg] at hr hs
    have hb := (right_kv hc b).1 hok.2.2.2
    have ha2 := (right_kv hc a).1 ha
    have e1 : wrap64 (-b) = -b := IntWalk.wrap64_in _ (by omega)
    rw [e1] at h2
    have hn : (kv a).n = a := rfl
    have hnb : (kv b).n = b := rfl
    rw [hn, hnb] at hr hs
    have e2 : wrap64 (a + b) = a + b := IntWalk.wrap64_in _ (by omega)
    rw [e2] at hr hs
    have hj : S1.regs (c * 256 + i) = kv (a + b) := by rw [hs]; simp [setS]
    have hz : (fun x => wrap64 (x + (kv (-b)).n)) (S1.regs (c * 256 + i)).n = a := by
      rw [hj]
      show wrap64 (a + b + -b) = a
      rw [IntWalk.wrap64_in _ (by omega)]
      omega
    simp only at hz
    have hok2 : advOK c i (kv (-b)) := ⟨hok.1, hok.2.1, hok.2.2.1, (right_kv hc _).2 (by omega)⟩
    obtain ⟨h5, h6⟩ := arith_yes hc h2 hok2 (by rw [hz]; exact ha)
    rw [hz, hs, setS_set, setS_same _ _ hreg] at h6
    exact ⟨h5, h6⟩

theorem scale_no {c i : Nat} {n : Int} (h : scaleE c i n = 0) : -2147483647 ≤ n ∧ n ≤ 2147483647 := by
  unfold scaleE at h
  split at h
  · rename_i h1; exact absurd h h1
  · split at h
    · cases h
    · split at h
      · rename_i h3
        rw [withB, decide_eq_true_iff] at h3
        omega
      · cases h

/-- what a product is -/
theorem mul_plain {S S1 : TabS} {c i : Nat} {a n E : Int} (hc : c = 1 ∨ c = 2) (hreg : S.regs (c * 256 + i) = kv a) (ha : rightM (c : Int) (kv a) = true) (hE : E = 0)
    (h1 : ArithR S S1 c i false E (fun x => wrap64 (x * n)) (scaleE c i n = 0) 0) : scaleE c i n = 0 ∧ rightM (c : Int) (kv (a * n)) = true ∧ S1.regs = setS S.regs (c * 256 + i) (kv (a * n)) := by
  have hm := mostC_le c
  rcases arith_plain hc h1 with ⟨h3, _⟩ | ⟨_, hok, _, hr, hs⟩
  · exact absurd hE h3
  · simp only [hreg] at hr hs
    have hn := scale_no hok
    have ha2 := (right_kv hc a).1 ha
    have e0 : (kv a).n = a := rfl
    rw [e0] at hr hs
    have hb : -(2147483647 * 2147483647) ≤ a * n ∧ a * n ≤ 2147483647 * 2147483647 := by
      have h1 : a.natAbs ≤ 2147483647 := by omega
      have h2 : n.natAbs ≤ 2147483647 := by omega
      have h3 := Nat.mul_le_mul h1 h2
      rw [← Int.natAbs_mul] at h3
      omega
    have e2 : wrap64 (a * n) = a * n := IntWalk.wrap64_in _ (by omega)
    rw [e2] at hr hs
    exact ⟨hok, hr, hs⟩

/-- what is multiplied and divided again -/
theorem mul_back {S S1 S2 : TabS} {c i : Nat} {a n E E2 : Int} (hc : c = 1 ∨ c = 2) (hreg : S.regs (c * 256 + i) = kv a) (ha : rightM (c : Int) (kv a) = true) (hE : E = 0) (hn : n ≠ 0)
    (h1 : ArithR S S1 c i false E (fun x => wrap64 (x * n)) (scaleE c i n = 0) 0) (h2 : ArithR S1 S2 c i false E2 (fun x => divZ x n) (scaleE c i n = 0) (divEr n)) :
    E2 = 0 ∧ S2.regs = S.regs := by
  obtain ⟨hok, hr, hs⟩ := mul_plain hc hreg ha hE h1
  have hm := mostC_le c
  have ha2 := (right_kv hc a).1 ha
  rw [divEr, if_neg hn] at h2
  have hj : S1.regs (c * 256 + i) = kv (a * n) := by rw [hs]; simp [setS]
  have hz : (fun x => divZ x n) (S1.regs (c * 256 + i)).n = a := by
    rw [hj]
    show divZ (a * n) n = a
    rw [divZ, if_neg hn, Int.mul_tdiv_cancel _ hn]
    exact IntWalk.wrap64_in _ (by omega)
  simp only at hz
  obtain ⟨h5, h6⟩ := arith_yes hc h2 hok (by rw [hz]; exact ha)
  rw [hz, hs, setS_set, setS_same _ _ hreg] at h6
  exact ⟨h5, h6⟩

end Go.Proofs.Ytebggkgciocciaa
