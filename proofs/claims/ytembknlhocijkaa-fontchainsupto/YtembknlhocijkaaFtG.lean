
/-
  A character's numbers. Conditions: those that each theorem names.
-/
import Derived.Test.YtembknlhocijkaaFtF
namespace Go.Proofs.Ytembknlhocijkaa
open Go.RowKit Go.Sp
variable {w : World} {x : FV} {F : Fnt}

section
variable {W : World} {A : HProp}
theorem set6 (a0 a1 a2 a3 a4 a5 b0 b1 b2 b3 b4 b5 : Value) : ((((((#[a0, a1, a2, a3, a4, a5] : Array Value).setIfInBounds 0 b0).setIfInBounds 1 b1).setIfInBounds 2 b2).setIfInBounds 3 b3).setIfInBounds 4 b4).setIfInBounds 5 b5 = #[b0, b1, b2, b3, b4, b5] := rfl
theorem sat_set6 {b : Nat} {e : TypeId} {f : Nat × Nat} {a0 a1 a2 a3 a4 a5 : Value} (h : Sat W (pts b (.cells #[a0, a1, a2, a3, a4, a5] e f) * A) w) (b0 b1 b2 b3 b4 b5 : Value) :
    Sat W (pts b (.cells #[b0, b1, b2, b3, b4, b5] e f) * A) ((((((w.setCell ⟨b, 0, none⟩ b0).setCell ⟨b, 1, none⟩ b1).setCell ⟨b, 2, none⟩ b2).setCell ⟨b, 3, none⟩ b3).setCell ⟨b, 4, none⟩ b4).setCell ⟨b, 5, none⟩ b5) := by
  have h2 := (((((h.set (i := 0) (v := b0)).set (i := 1) (v := b1)).set (i := 2) (v := b2)).set (i := 3) (v := b3)).set (i := 4) (v := b4)).set (i := 5) (v := b5)
  rw [set6] at h2
  exact h2
theorem set4 (a0 a1 a2 a3 b0 b1 b2 b3 : Value) : ((((#[a0, a1, a2, a3] : Array Value).setIfInBounds 0 b0).setIfInBounds 1 b1).setIfInBounds 2 b2).setIfInBounds 3 b3 = #[b0, b1, b2, b3] := rfl
theorem sat_set4 {b : Nat} {e : TypeId} {f : Nat × Nat} {a0 a1 a2 a3 : Value} (h : Sat W (pts b (.cells #[a0, a1, a2, a3] e f) * A) w) (b0 b1 b2 b3 : Value) :
    Sat W (pts b (.cells #[b0, b1, b2, b3] e f) * A) ((((w.setCell ⟨b, 0, none⟩ b0).setCell ⟨b, 1, none⟩ b1).setCell ⟨b, 2, none⟩ b2).setCell ⟨b, 3, none⟩ b3) := by
  have h2 := (((h.set (i := 0) (v := b0)).set (i := 1) (v := b1)).set (i := 2) (v := b2)).set (i := 3) (v := b3)
  rw [set4] at h2
  exact h2
end
/-- Metric's answer -/
def metR (F : Fnt) (c : Int) : Met := match thereM F c with | none => met0 | some k => metM F k
set_option maxRecDepth 100000 in
set_option maxHeartbeats 4000000 in
theorem metric_any (h : RdF w x F) (c : UInt8) (h0 : 0 ≤ F.first) (h1 : F.first ≤ 255) :
    Calls Try.prog 9 #[F.val x, .int .u8 c.toNat] w fun e w' => e = .returned (.tuple #[(metR F c.toNat).val, .bool (thereM F c.toNat).isSome]) ∧ Ext w w' := by
  obtain ⟨W1, hW1⟩ : ∃ W1, (w.alloc (F.box x)).alloc met0.box = W1 := ⟨_, rfl⟩
  have HM := ((Sat.start w).alloc (F.box x)).alloc met0.box
  obtain ⟨bf, hbf⟩ : ∃ bf, w.heap.size = bf := ⟨_, rfl⟩
  rw [hW1, World.size_alloc, hbf] at HM
  have HX := HM.r.r.toExt
  have HF := Lib.hid (h.ext HX)
  have HT := Lib.hid (there_any HF.out c.toNat ⟨by omega, by have := u8i c; omega⟩ h0 h1)
  have HB := Lib.hid (BoxF.of HM.rot)
  have hc := u8i c
  replace HM := Lib.hid HM
  obtain ⟨ca, cc, sa, sc, ka, kc, pa, pc, ra, rc, rfl, hrc⟩ := h.vals
  have hlc := h.lc
  simp only [Fnt.box, Met.box, met0] at hW1
  have HW1 := Lib.hid hW1
  have HBF := Lib.hid hbf
  obtain ⟨q, hq⟩ : ∃ q, thereM F (c.toNat : Int) = q := ⟨_, rfl⟩
  have HQ := Lib.hid hq
  unfold metR
  rw [hq] at HT ⊢
  generalize c.toNat = c at *
  clear hq h hrc hW1 hbf HX
  go_enter Try.func9, Try.ntmps9
  go_upto_region 1 with fail
  rw [HBF.out, HW1.out]
  clear HBF HW1
  have b0 := HB.out.c0
  have b1 := HB.out.c1
  have b2 := HB.out.c2
  have b3 := HB.out.c3
  have b4 := HB.out.c4
  have b5 := HB.out.c5
  have b6 := HB.out.c6
  have b7 := HB.out.c7
  have lq := HB.out.lt
  go_wp2_with fail
  with_reducible refine Calls.mono HT.out ?_
  rintro e w2 ⟨rfl, hx⟩
  have HM2 := Lib.hid (HM.out.ext hx)
  have HF2 := Lib.hid (HF.out.ext hx)
  have b3 := hx.cell b3
  have lq := hx.lt lq
  clear HT HF HB HM hx b0 b1 b2 b4 b5 b6 b7
  have d0 := HM2.out.cell (i := 0) rfl
  have d1 := HM2.out.cell (i := 1) rfl
  have d2 := HM2.out.cell (i := 2) rfl
  have d3 := HM2.out.cell (i := 3) rfl
  have d4 := HM2.out.cell (i := 4) rfl
  have d5 := HM2.out.cell (i := 5) rfl
  have f0 := HM2.out.free (i := 0)
  have f1 := HM2.out.free (i := 1)
  have f2 := HM2.out.free (i := 2)
  have f3 := HM2.out.free (i := 3)
  have f4 := HM2.out.free (i := 4)
  have f5 := HM2.out.free (i := 5)
  have ld := HM2.out.lt
  cases q with
  | none =>
    simp only [Option.getD_none, Option.isSome_none]
    go_wp2
    have G := Lib.hid (sat_set6 HM2.out (.int .i64 (0)) (.int .i64 (0)) (.int .i64 (0)) (.int .i64 (0)) (.int .i64 (0)) (.int .i64 (0)))
    clear d0 d1 d2 d3 d4 d5 f0 f1 f2 f3 f4 f5 HM2
    have d0 := G.out.cell (i := 0) rfl
    have d1 := G.out.cell (i := 1) rfl
    have d2 := G.out.cell (i := 2) rfl
    have d3 := G.out.cell (i := 3) rfl
    have d4 := G.out.cell (i := 4) rfl
    have d5 := G.out.cell (i := 5) rfl
    refine bodyPost_ret (v := .tuple #[.agg #[.int .i64 (0), .int .i64 (0), .int .i64 (0), .int .i64 (0), .int .i64 (0), .int .i64 (0)], .bool false]) (by unfold results; go_simp) rfl ?_
    exact ⟨rfl, G.out.r.r.toExt⟩
  | some k =>
    obtain ⟨-, hk, -, -⟩ := (thereM_eq F c k).1 HQ.out
    obtain ⟨b, off, rfl, c0, c1, c2, c3, c4, c5, lb⟩ := HF2.out.chr rfl hk
    simp only [Option.getD_some, Option.isSome_some]
    obtain ⟨m, hm⟩ : ∃ m, metM F k = m := ⟨_, rfl⟩
    rw [hm] at c0 c1 c2 c3 c4 c5
    have hk2 : (k : Int) < F.chars.length := by omega
    have HMM := Lib.hid hm
    clear hm HQ HF2
    obtain ⟨m1, m2, m3, m4, m5, m6⟩ := m
    go_wp2
    have G := Lib.hid (sat_set6 HM2.out (.int .i64 (m1)) (.int .i64 (m2)) (.int .i64 (m3)) (.int .i64 (m4)) (.int .i64 (m5)) (.int .i64 (m6)))
    clear d0 d1 d2 d3 d4 d5 f0 f1 f2 f3 f4 f5 HM2
    have d0 := G.out.cell (i := 0) rfl
    have d1 := G.out.cell (i := 1) rfl
    have d2 := G.out.cell (i := 2) rfl
    have d3 := G.out.cell (i := 3) rfl
    have d4 := G.out.cell (i := 4) rfl
    have d5 := G.out.cell (i := 5) rfl
    refine bodyPost_ret (v := .tuple #[.agg #[.int .i64 (m1), .int .i64 (m2), .int .i64 (m3), .int .i64 (m4), .int .i64 (m5), .int .i64 (m6)], .bool true]) (by unfold results; go_simp) rfl ?_
    exact ⟨by rw [HMM.out], G.out.r.r.toExt⟩
end Go.Proofs.Ytembknlhocijkaa
