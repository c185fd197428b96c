/-
  Find: of two characters of a right font. Conditions: those that each theorem names.
-/
import Derived.Test.YtigjfbbgbiajbaaLgG
namespace Go.Proofs.Ytigjfbbgbiajbaa
open Go.RowKit Go.Sp
variable {w W : World} {x : FV} {F : Fnt} {A : HProp}

set_option maxRecDepth 100000 in
set_option maxHeartbeats 8000000 in
theorem lfind_any (h : RdF w x F) (he : lcheckE F = 0) (a c : UInt8) (ha : (thereM F a.toNat).isSome = true) (hc : (thereM F c.toNat).isSome = true) :
    Calls Try.prog 9 #[F.val x, .int .i64 a.toNat, .int .i64 c.toNat] w fun e w' =>
      e = .returned (.tuple #[((findM F a.toNat c.toNat).getD stp0).val, .bool (findM F a.toNat c.toNat).isSome, .int .i64 0]) ∧ Ext w w' := by
  have hok := FOk.of (lcheck_zero he)
  obtain ⟨W1, hW1⟩ : ∃ W1, (w.alloc (F.box x)).alloc stp0.boxv = W1 := ⟨_, rfl⟩
  have HM := ((Sat.start w).alloc (F.box x)).alloc stp0.boxv
  obtain ⟨bf, hbf⟩ : ∃ bf, w.heap.size = bf := ⟨_, rfl⟩
  rw [hW1, World.size_alloc, hbf] at HM
  have HX := HM.r.r.toExt
  have HF := Lib.hid (h.ext HX)
  have HB := Lib.hid (BoxF.of HM.rot)
  replace HM := Lib.hid HM
  have HC := Lib.hid (lcheck_any HF.out)
  rw [he] at HC
  have HMK := Lib.hid (fun w' (k : Ext W1 w') => marks_any (HF.out.ext k) hok.h0 hok.h1 a c ha hc)
  have HOP := Lib.hid (fun w' (k : Ext W1 w') => open_any (HF.out.ext k))
  have ua := u8i a
  have HFI := Lib.hid (fun w' (k : Ext W1 w') => find_any (HF.out.ext k) hok a.toNat c.toNat ⟨by omega, by omega⟩)
  obtain ⟨q, hq⟩ : ∃ q, findM F a.toNat c.toNat = q := ⟨_, rfl⟩
  rw [hq] at HFI ⊢
  obtain ⟨ca, cc, sa, sc, ka, kc, pa, pc, ra, rc, rfl, hrc⟩ := h.vals
  simp only [Fnt.box, Stp.boxv, stp0, show ((UInt8.toNat 0 : Nat) : Int) = 0 from rfl] at hW1
  have HW1 := Lib.hid hW1
  have HBF := Lib.hid hbf
  clear h hrc hW1 hbf HX hq hok ha hc he
  generalize a.toNat = a at *
  generalize c.toNat = c at *
  go_enter Try.func9, Try.ntmps9
  go_upto_region 1 with fail
  rw [HBF.out, HW1.out]
  clear HBF HW1
  have b0 := HB.out.c0
  have b1 := HB.out.c1
  have b2 := HB.out.c2
  have b3 := HB.out.c3
  have b4 := HB.out.c4
  have b5 := HB.out.c5
  have b6 := HB.out.c6
  have b7 := HB.out.c7
  have lq := HB.out.lt
  go_wp2_with fail
  with_reducible refine Calls.mono HC.out ?_
  rintro e w2 ⟨rfl, hx2⟩
  have HB2 := Lib.hid (HB.out.ext hx2)
  have HMK2 := Lib.hid (HMK.out w2 hx2)
  have HX2 := Lib.hid hx2
  clear hx2 HB HC HMK b0 b1 b2 b3 b4 b5 b6 b7 lq
  have b0 := HB2.out.c0
  have b1 := HB2.out.c1
  have b2 := HB2.out.c2
  have b3 := HB2.out.c3
  have b4 := HB2.out.c4
  have b5 := HB2.out.c5
  have b6 := HB2.out.c6
  have b7 := HB2.out.c7
  have lq := HB2.out.lt
  go_wp2_with fail
  with_reducible refine Calls.mono HMK2.out ?_
  rintro e w3 ⟨rfl, hx⟩
  have HX3 := Lib.hid (HX2.out.trans hx)
  have HB3 := Lib.hid (HB2.out.ext hx)
  have HOP3 := Lib.hid (HOP.out w3 HX3.out)
  clear hx HB2 HMK2 b0 b1 b2 b3 b4 b5 b6 b7 lq HOP HX2
  have b0 := HB3.out.c0
  have b1 := HB3.out.c1
  have b2 := HB3.out.c2
  have b3 := HB3.out.c3
  have b4 := HB3.out.c4
  have b5 := HB3.out.c5
  have b6 := HB3.out.c6
  have b7 := HB3.out.c7
  have lq := HB3.out.lt
  go_wp2_with fail
  with_reducible refine Calls.mono HOP3.out ?_
  rintro e w4 ⟨rfl, hx⟩
  have HX4 := Lib.hid (HX3.out.trans hx)
  have HFI4 := Lib.hid (HFI.out w4 HX4.out)
  clear hx HB3 HOP3 b0 b1 b2 b3 b4 b5 b6 b7 lq HFI HX3
  go_wp2_with fail
  with_reducible refine Calls.mono HFI4.out ?_
  rintro e w5 ⟨rfl, hx⟩
  have HM5 := Lib.hid (HM.out.ext (HX4.out.trans hx))
  clear hx HFI4 HX4 HM HF
  have d0 := HM5.out.cell (i := 0) rfl
  have d1 := HM5.out.cell (i := 1) rfl
  have d2 := HM5.out.cell (i := 2) rfl
  have d3 := HM5.out.cell (i := 3) rfl
  have f0 := HM5.out.free (i := 0)
  have f1 := HM5.out.free (i := 1)
  have f2 := HM5.out.free (i := 2)
  have f3 := HM5.out.free (i := 3)
  have ld := HM5.out.lt
  obtain ⟨⟨s1, s2, s3, s4⟩, hs⟩ : ∃ s, q.getD stp0 = s := ⟨_, rfl⟩
  rw [hs]
  obtain ⟨z, hz⟩ : ∃ z, q.isSome = z := ⟨_, rfl⟩
  rw [hz]
  have HSS := Lib.hid hs
  have HZZ := Lib.hid hz
  clear hs hz
  have G := sat_set4 HM5.out (.int .u8 s1.toNat) (.int .u8 s2.toNat) (.int .u8 s3.toNat) (.int .u8 s4.toNat)
  have HG := Lib.hid G
  clear G
  have G2 := Lib.hid (sat_set4 HG.out (.int .u8 s1.toNat) (.int .u8 s2.toNat) (.int .u8 s3.toNat) (.int .u8 s4.toNat))
  go_wp2
  clear d0 d1 d2 d3 f0 f1 f2 f3 HG HM5
  have d0 := G2.out.cell (i := 0) rfl
  have d1 := G2.out.cell (i := 1) rfl
  have d2 := G2.out.cell (i := 2) rfl
  have d3 := G2.out.cell (i := 3) rfl
  refine bodyPost_ret (v := .tuple #[.agg #[.int .u8 s1.toNat, .int .u8 s2.toNat, .int .u8 s3.toNat, .int .u8 s4.toNat], .bool z, .int .i64 0]) (by unfold results; go_simp) rfl ⟨by rw [HSS.out, HZZ.out], G2.out.r.r.toExt⟩
end Go.Proofs.Ytigjfbbgbiajbaa
