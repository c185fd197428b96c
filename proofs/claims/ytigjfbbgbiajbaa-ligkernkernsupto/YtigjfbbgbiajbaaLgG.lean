/-
  A font whose program ends; the step of two marks, asked from outside. Conditions: those that each theorem names.
-/
import Derived.Test.YtigjfbbgbiajbaaLgF
namespace Go.Proofs.Ytigjfbbgbiajbaa
open Go.RowKit Go.Sp
variable {w W : World} {x : FV} {F : Fnt} {A : HProp}

def lcheckE (F : Fnt) : Int := if checkB F then (if loopsB F 70000 then 41 else 0) else 40
theorem lcheck_zero (h : lcheckE F = 0) : checkB F = true := by
  unfold lcheckE at h
  by_cases hb : checkB F = true
  · exact hb
  · rw [if_neg hb] at h; omega
set_option maxRecDepth 100000 in
set_option maxHeartbeats 8000000 in
theorem lcheck_any (h : RdF w x F) : Calls Try.prog 6 #[F.val x] w fun e w' => e = .returned (.int .i64 (lcheckE F)) ∧ Ext w w' := by
  obtain ⟨W1, hW1⟩ : ∃ W1, w.alloc (F.box x) = W1 := ⟨_, rfl⟩
  have HX := (Ext.refl w).alloc (o := F.box x)
  have HB := BoxF.new w F x
  obtain ⟨bf, hbf⟩ : ∃ bf, w.heap.size = bf := ⟨_, rfl⟩
  rw [hW1] at HX HB
  rw [hbf] at HB
  have HF := Lib.hid (h.ext HX)
  replace HX := Lib.hid HX
  replace HB := Lib.hid HB
  obtain ⟨ca, cc, sa, sc, ka, kc, pa, pc, ra, rc, rfl, hrc⟩ := h.vals
  simp only [Fnt.box] at hW1
  have HW1 := Lib.hid hW1
  have HBF := Lib.hid hbf
  clear h hW1 hbf hrc
  obtain ⟨r, hr⟩ : ∃ r, lcheckE F = r := ⟨_, rfl⟩
  have HR := Lib.hid hr
  rw [hr]
  have HC := Lib.hid (check_any HF.out)
  obtain ⟨q, hq⟩ : ∃ q, checkB F = q := ⟨_, rfl⟩
  have HQ := Lib.hid hq
  unfold checkE at HC
  rw [hq] at HC
  clear hr hq
  go_enter Try.func6, Try.ntmps6
  go_upto_region 1 with fail
  rw [HBF.out, HW1.out]
  clear HBF HW1
  have b0 := HB.out.c0
  have b1 := HB.out.c1
  have b2 := HB.out.c2
  have b3 := HB.out.c3
  have b4 := HB.out.c4
  have b5 := HB.out.c5
  have b6 := HB.out.c6
  have b7 := HB.out.c7
  have lq := HB.out.lt
  go_wp2_with fail
  with_reducible refine Calls.mono HC.out ?_
  rintro e w2 ⟨rfl, hx⟩
  have HX2 := Lib.hid (HX.out.trans hx)
  have HB2 := Lib.hid (HB.out.ext hx)
  have HF2 := Lib.hid (HF.out.ext hx)
  clear hx HX HB HF HC b0 b1 b2 b3 b4 b5 b6 b7 lq
  cases q with
  | false =>
    have hr := HR.out
    unfold lcheckE at hr
    rw [HQ.out, if_neg (by decide)] at hr
    subst hr
    simp only [Bool.false_eq_true, if_false]
    go_wp2
    go_ret
    exact ⟨rfl, HX2.out⟩
  | true =>
    simp only [if_true]
    have hok := FOk.of HQ.out
    have HO := Lib.hid (open_any HF2.out)
    obtain ⟨z, hz⟩ : ∃ z, loopsB F 70000 = z := ⟨_, rfl⟩
    have hr := HR.out
    unfold lcheckE at hr
    rw [HQ.out, if_pos rfl, hz] at hr
    have HL := Lib.hid (fun w' (k : Ext w2 w') => loops_any (g := 70000) (by decide) (HF2.out.ext k) hok)
    rw [hz] at HL
    clear hz
    have HR2 := Lib.hid hr
    clear hr HR hok
    have b0 := HB2.out.c0
    have b1 := HB2.out.c1
    have b2 := HB2.out.c2
    have b3 := HB2.out.c3
    have b4 := HB2.out.c4
    have b5 := HB2.out.c5
    have b6 := HB2.out.c6
    have b7 := HB2.out.c7
    have lq := HB2.out.lt
    go_wp2_with fail
    with_reducible refine Calls.mono HO.out ?_
    rintro e w3 ⟨rfl, hx⟩
    have HX3 := Lib.hid (HX2.out.trans hx)
    have HL2 := Lib.hid (HL.out w3 hx)
    clear hx HL HO b0 b1 b2 b3 b4 b5 b6 b7 lq HX2 HB2 HF2
    go_wp2_with fail
    with_reducible refine Calls.mono HL2.out ?_
    rintro e w4 ⟨rfl, hx⟩
    have HX4 := Lib.hid (HX3.out.trans hx)
    clear hx HL2 HX3
    cases z with
    | true =>
      have hr := HR2.out
      simp only [if_true] at hr
      subst hr
      go_wp2
      go_ret
      exact ⟨rfl, HX4.out⟩
    | false =>
      have hr := HR2.out
      simp only [Bool.false_eq_true, if_false] at hr
      subst hr
      go_wp2
      go_ret
      exact ⟨rfl, HX4.out⟩

/-- marks: of two characters that are there -/
theorem marks_any (h : RdF w x F) (h0 : 0 ≤ F.first) (h1 : F.first ≤ 255) (a c : UInt8) (ha : (thereM F a.toNat).isSome = true) (hc : (thereM F c.toNat).isSome = true) :
    Calls Try.prog 16 #[F.val x, .int .i64 a.toNat, .int .i64 c.toNat] w fun e w' => e = .returned (.tuple #[.int .i64 a.toNat, .int .i64 c.toNat, .bool true]) ∧ Ext w w' := by
  obtain ⟨W1, hW1⟩ : ∃ W1, w.alloc (F.box x) = W1 := ⟨_, rfl⟩
  have HX := (Ext.refl w).alloc (o := F.box x)
  have HB := BoxF.new w F x
  obtain ⟨bf, hbf⟩ : ∃ bf, w.heap.size = bf := ⟨_, rfl⟩
  rw [hW1] at HX HB
  rw [hbf] at HB
  have HF := Lib.hid (h.ext HX)
  replace HX := Lib.hid HX
  replace HB := Lib.hid HB
  obtain ⟨ca, cc, sa, sc, ka, kc, pa, pc, ra, rc, rfl, hrc⟩ := h.vals
  simp only [Fnt.box] at hW1
  have HW1 := Lib.hid hW1
  have HBF := Lib.hid hbf
  clear h hW1 hbf hrc
  have hA := lthere_any HF.out a.toNat h0 h1
  have hC := fun w' (k : Ext W1 w') => lthere_any (HF.out.ext k) c.toNat h0 h1
  have ua := u8i a
  have uc := u8i c
  rw [ha, decide_eq_true (by omega), decide_eq_true (by omega)] at hA
  simp only [hc, decide_eq_true (show (0 : Int) ≤ c.toNat by omega), decide_eq_true (show (c.toNat : Int) ≤ 255 by omega), Bool.and_self] at hC
  have HA := Lib.hid hA
  have HC := Lib.hid hC
  clear hA hC ha hc
  have na : ((a.toNat : Int) != -1) = true := bne_iff_ne.2 (by omega)
  have nc : ((c.toNat : Int) != -1) = true := bne_iff_ne.2 (by omega)
  have nc2 : ((c.toNat : Int) == -1) = false := beq_eq_false_iff_ne.2 (by omega)
  generalize a.toNat = a at *
  generalize c.toNat = c at *
  go_enter Try.func16, Try.ntmps16
  go_upto_region 1 with fail
  rw [HBF.out, HW1.out]
  clear HBF HW1
  have b0 := HB.out.c0
  have b1 := HB.out.c1
  have b2 := HB.out.c2
  have b3 := HB.out.c3
  have b4 := HB.out.c4
  have b5 := HB.out.c5
  have b6 := HB.out.c6
  have b7 := HB.out.c7
  have lq := HB.out.lt
  go_wp2_with fail
  with_reducible refine Calls.mono HA.out ?_
  rintro e w2 ⟨rfl, hx⟩
  have HX2 := Lib.hid (HX.out.trans hx)
  have HB2 := Lib.hid (HB.out.ext hx)
  have HC2 := Lib.hid (HC.out w2 hx)
  clear hx HX HB HF HA HC b0 b1 b2 b3 b4 b5 b6 b7 lq
  have b0 := HB2.out.c0
  have b1 := HB2.out.c1
  have b2 := HB2.out.c2
  have b3 := HB2.out.c3
  have b4 := HB2.out.c4
  have b5 := HB2.out.c5
  have b6 := HB2.out.c6
  have b7 := HB2.out.c7
  have lq := HB2.out.lt
  go_wp2_with fail
  with_reducible refine Calls.mono HC2.out ?_
  rintro e w3 ⟨rfl, hx⟩
  have HX3 := Lib.hid (HX2.out.trans hx)
  clear hx HC2 HB2 b0 b1 b2 b3 b4 b5 b6 b7 lq
  go_wp2
  go_ret3
  exact ⟨rfl, HX3.out⟩
end Go.Proofs.Ytigjfbbgbiajbaa
