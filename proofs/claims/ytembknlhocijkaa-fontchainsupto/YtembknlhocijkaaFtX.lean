
/-
  A character of the law's small font at a size. Conditions: those that each theorem names.
-/
import Derived.Test.YtembknlhocijkaaFtN
import Derived.Test.YtembknlhocijkaaAnyE
namespace Go.Proofs.Ytembknlhocijkaa
open Go.RowKit Go.Sp
variable {w w' W : World} {A : HProp} {x : FV}

set_option maxRecDepth 100000 in
theorem at1_any (at_ y : Int) (c : Nat) (hc : w.cell? ⟨c, 0, none⟩ = some (.int .i64 at_)) (lc : c < w.heap.size) : Calls Try.prog 29 #[.int .i64 y, .pointer (some ⟨c, 0, none⟩)] w
    fun e w' => e = .returned (.int .i64 (if sizeOk at_ y then sizeM at_ y else 0)) ∧ w' = w := by
  have H := Lib.hid (size_any at_ y w)
  obtain ⟨r, hr⟩ : ∃ r, (if sizeOk at_ y then sizeM at_ y else 0) = r := ⟨_, rfl⟩
  obtain ⟨q, hq⟩ : ∃ q : Int, (if sizeOk at_ y then 0 else 11) = q := ⟨_, rfl⟩
  rw [hr, hq] at H
  rw [hr]
  clear hr hq
  go_enter Try.func29, Try.ntmps29
  go_wp2_with fail
  with_reducible refine Calls.mono H.out ?_
  rintro e w2 ⟨rfl, rfl⟩
  go_wp2
  go_ret
  exact ⟨rfl, rfl⟩
set_option maxRecDepth 100000 in
set_option maxHeartbeats 8000000 in
theorem at_small (h : RdF w x smallF) : Calls Try.prog 14 #[smallF.val x, .int .u8 97, .int .i64 655360] w fun e w' => e = .returned (.tuple #[.int .i64 327680, .int .i64 163840, .int .i64 0, .int .i64 0, .int .i64 0]) ∧ Ext w w' := by
  have hmf : ∀ (fn : Fn) (first cap : Array Value) (w : World), (Instr.makeFunc fn first cap).run Try.prog w = .ok (.func fn first cap) w := fun _ _ _ _ => rfl
  have hs := ((Sat.start w).alloc (smallF.box x)).alloc (.cells #[.int .i64 655360] 3)
  rw [World.size_alloc] at hs
  obtain ⟨bf, hbf⟩ : ∃ bf, w.heap.size = bf := ⟨_, rfl⟩
  obtain ⟨W1, hW1⟩ : ∃ W1, (w.alloc (smallF.box x)).alloc (.cells #[.int .i64 655360] 3) = W1 := ⟨_, rfl⟩
  rw [hbf, hW1] at hs
  have hb := BoxF.of hs.r
  have hrd := h.ext hs.r.r.toExt
  have hc := check_any hrd
  rw [small_check] at hc
  have HC := Lib.hid hc
  have HRD := Lib.hid hrd
  have HB := Lib.hid hb
  have HE1 := Lib.hid hs.r.r.toExt
  have a0 : W1.cell? ⟨bf + 1, 0, none⟩ = some (.int .i64 655360) := hs.cell (i := 0) rfl
  have la := hs.lt
  have HA0 := Lib.hid a0
  have HLA := Lib.hid la
  have HW1 := Lib.hid hW1
  have HBF := Lib.hid hbf
  clear hs hbf hW1 hb hrd hc
  go_enter Try.func14, Try.ntmps14
  go_upto_region 1 with fail
  rw [HBF.out, HW1.out]
  clear HBF HW1
  have b0 := HB.out.c0
  have b1 := HB.out.c1
  have b2 := HB.out.c2
  have b3 := HB.out.c3
  have b4 := HB.out.c4
  have b5 := HB.out.c5
  have b6 := HB.out.c6
  have b7 := HB.out.c7
  have lq := HB.out.lt
  go_wp2_with fail
  with_reducible refine Calls.mono HC.out ?_
  rintro e w2 ⟨rfl, hx⟩
  have HX2 := Lib.hid hx
  replace a0 := hx.cell HA0.out
  replace la := hx.lt HLA.out
  have HS0 := Lib.hid (show Calls Try.prog 5 #[.int .i64 655360, .int .i64 0] w2 fun e w' => e = .returned (.tuple #[.int .i64 0, .int .i64 0]) ∧ w' = w2 from size_any 655360 0 w2)
  clear hx HC b0 b1 b2 b3 b4 b5 b6 b7 lq
  go_wp2_with fail
  with_reducible refine Calls.mono HS0.out ?_
  rintro e w3 ⟨rfl, hw7⟩
  have hw8 := hw7.symm
  clear hw7
  subst hw8
  have HB2 := Lib.hid (HB.out.ext HX2.out)
  have HM := Lib.hid (show Calls Try.prog 9 #[smallF.val x, .int .u8 97] w2 fun e w' => e = .returned (.tuple #[.agg #[.int .i64 524288, .int .i64 262144, .int .i64 0, .int .i64 0, .int .i64 0, .int .i64 0], .bool true]) ∧ Ext w2 w' from metric_any (HRD.out.ext HX2.out) 97 (by decide) (by decide))
  have b0 := HB2.out.c0
  have b1 := HB2.out.c1
  have b2 := HB2.out.c2
  have b3 := HB2.out.c3
  have b4 := HB2.out.c4
  have b5 := HB2.out.c5
  have b6 := HB2.out.c6
  have b7 := HB2.out.c7
  have lq := HB2.out.lt
  go_wp2_with fail
  with_reducible refine Calls.mono HM.out ?_
  rintro e w4 ⟨rfl, hx⟩
  have hs := (hx.toSat).alloc (.cells #[.int .i64 524288, .int .i64 262144, .int .i64 0, .int .i64 0, .int .i64 0, .int .i64 0] 41)
  obtain ⟨b14, hb14⟩ : ∃ b14, w4.heap.size = b14 := ⟨_, rfl⟩
  obtain ⟨W5, hW5⟩ : ∃ W5, w4.alloc (.cells #[.int .i64 524288, .int .i64 262144, .int .i64 0, .int .i64 0, .int .i64 0, .int .i64 0] 41) = W5 := ⟨_, rfl⟩
  rw [hb14, hW5] at hs
  have HS5 := Lib.hid hs
  have HW5 := Lib.hid hW5
  have HB14 := Lib.hid hb14
  clear hx hs hW5 hb14 HM HS0 b0 b1 b2 b3 b4 b5 b6 b7 lq HB HB2
  go_upto_region 10 with fail
  rw [HB14.out, HW5.out]
  clear HB14 HW5
  go_upto_region 11 with fail
  obtain ⟨W9, hW9⟩ : ∃ W9, W5.drew = W9 := ⟨_, rfl⟩
  have hx9 : Ext W5 W9 := by rw [← hW9]; exact (Ext.refl W5).drew
  have hs9 := HS5.out.ext hx9
  have e0 : W9.cell? ⟨b14, 0, none⟩ = some (.int .i64 524288) := hs9.cell (i := 0) rfl
  have e1 : W9.cell? ⟨b14, 1, none⟩ = some (.int .i64 262144) := hs9.cell (i := 1) rfl
  have e2 : W9.cell? ⟨b14, 2, none⟩ = some (.int .i64 0) := hs9.cell (i := 2) rfl
  have e3 : W9.cell? ⟨b14, 3, none⟩ = some (.int .i64 0) := hs9.cell (i := 3) rfl
  have le := hs9.lt
  replace a0 := hs9.r.toExt.cell a0
  replace la := hs9.r.toExt.lt la
  have HX9 := Lib.hid ((HE1.out.trans HX2.out).trans hs9.r.toExt)
  have HW := Lib.hid (show ∀ w, w = W9 → Calls Try.prog 29 #[.int .i64 524288, .pointer (some ⟨bf + 1, 0, none⟩)] w fun e w' => e = .returned (.int .i64 327680) ∧ w' = w from fun w hw => at1_any 655360 524288 (bf + 1) (hw ▸ a0) (hw ▸ la))
  have HH := Lib.hid (show ∀ w, w = W9 → Calls Try.prog 29 #[.int .i64 262144, .pointer (some ⟨bf + 1, 0, none⟩)] w fun e w' => e = .returned (.int .i64 163840) ∧ w' = w from fun w hw => at1_any 655360 262144 (bf + 1) (hw ▸ a0) (hw ▸ la))
  have HD := Lib.hid (show ∀ w, w = W9 → Calls Try.prog 29 #[.int .i64 0, .pointer (some ⟨bf + 1, 0, none⟩)] w fun e w' => e = .returned (.int .i64 0) ∧ w' = w from fun w hw => at1_any 655360 0 (bf + 1) (hw ▸ a0) (hw ▸ la))
  refine wp_region_E (fun w' => w' = W9) (by kernel_rfl) ?_
  rw [hW9]
  clear hW9 hx9 hs9 HS5 a0 la
  refine wpE_take (i := 0) (q := 3) (v := ?_) rfl (by kernel_rfl) (by kernel_rfl) (by kernel_rfl) (by kernel_rfl) (by kernel_rfl) (fun _ _ _ h => h) (by rfl) ?_ ?_
  rotate_left 1
  · intro w hw; (rw [hw]; go_simp; try with_reducible rfl)
  refine wpE_take (i := 1) (q := 2) (v := ?_) rfl (by kernel_rfl) (by kernel_rfl) (by kernel_rfl) (by kernel_rfl) (by kernel_rfl) (fun _ _ _ h => h) (by rfl) ?_ ?_
  rotate_left 1
  · intro w hw; (rw [hw]; go_simp; try with_reducible rfl)
  refine wpE_take (i := 2) (q := 3) (v := ?_) rfl (by kernel_rfl) (by kernel_rfl) (by kernel_rfl) (by kernel_rfl) (by kernel_rfl) (fun _ _ _ h => h) (by rfl) ?_ ?_
  rotate_left 1
  · intro w hw; (rw [hw]; go_simp; try with_reducible rfl)
  refine wpE_take (i := 4) (q := 7) (v := ?_) rfl (by kernel_rfl) (by kernel_rfl) (by kernel_rfl) (by kernel_rfl) (by kernel_rfl) (fun _ _ _ h => h) (by rfl) ?_ ?_
  rotate_left 1
  · intro w hw; (rw [hw]; go_simp; try with_reducible rfl)
  refine wpE_take (i := 5) (q := 6) (v := ?_) rfl (by kernel_rfl) (by kernel_rfl) (by kernel_rfl) (by kernel_rfl) (by kernel_rfl) (fun _ _ _ h => h) (by rfl) ?_ ?_
  rotate_left 1
  · intro w hw; (rw [hw]; go_simp; try with_reducible rfl)
  refine wpE_take (i := 6) (q := 7) (v := ?_) rfl (by kernel_rfl) (by kernel_rfl) (by kernel_rfl) (by kernel_rfl) (by kernel_rfl) (fun _ _ _ h => h) (by rfl) ?_ ?_
  rotate_left 1
  · intro w hw; (rw [hw]; go_simp; try with_reducible rfl)
  refine wpE_take (i := 8) (q := 11) (v := ?_) rfl (by kernel_rfl) (by kernel_rfl) (by kernel_rfl) (by kernel_rfl) (by kernel_rfl) (fun _ _ _ h => h) (by rfl) ?_ ?_
  rotate_left 1
  · intro w hw; (rw [hw]; go_simp; try with_reducible rfl)
  refine wpE_take (i := 9) (q := 10) (v := ?_) rfl (by kernel_rfl) (by kernel_rfl) (by kernel_rfl) (by kernel_rfl) (by kernel_rfl) (fun _ _ _ h => h) (by rfl) ?_ ?_
  rotate_left 1
  · intro w hw; (rw [hw]; go_simp; try with_reducible rfl)
  refine wpE_take (i := 10) (q := 11) (v := ?_) rfl (by kernel_rfl) (by kernel_rfl) (by kernel_rfl) (by kernel_rfl) (by kernel_rfl) (fun _ _ _ h => h) (by rfl) ?_ ?_
  rotate_left 1
  · intro w hw; (rw [hw]; go_simp; try with_reducible rfl)
  refine wpE_take (i := 12) (q := 15) (v := ?_) rfl (by kernel_rfl) (by kernel_rfl) (by kernel_rfl) (by kernel_rfl) (by kernel_rfl) (fun _ _ _ h => h) (by rfl) ?_ ?_
  rotate_left 1
  · intro w hw; (rw [hw]; go_simp; try with_reducible rfl)
  refine wpE_take (i := 13) (q := 14) (v := ?_) rfl (by kernel_rfl) (by kernel_rfl) (by kernel_rfl) (by kernel_rfl) (by kernel_rfl) (fun _ _ _ h => h) (by rfl) ?_ ?_
  rotate_left 1
  · intro w hw; (rw [hw]; go_simp; try with_reducible rfl)
  refine wpE_take (i := 14) (q := 15) (v := ?_) rfl (by kernel_rfl) (by kernel_rfl) (by kernel_rfl) (by kernel_rfl) (by kernel_rfl) (fun _ _ _ h => h) (by rfl) ?_ ?_
  rotate_left 1
  · intro w hw; (rw [hw]; go_simp; try with_reducible rfl)
  refine wpE_one (i := 3) rfl (by kernel_rfl) (rfl) (fun K hK => ?_)
  go_simp
  with_reducible refine Calls.mono (HW.out _ rfl) ?_
  rintro e wq ⟨rfl, rfl⟩
  go_simp
  refine hK _ _ ?_
  clear hK K
  refine wpE_one (i := 7) rfl (by kernel_rfl) (rfl) (fun K hK => ?_)
  go_simp
  with_reducible refine Calls.mono (HH.out _ rfl) ?_
  rintro e wq ⟨rfl, rfl⟩
  go_simp
  refine hK _ _ ?_
  clear hK K
  refine wpE_one (i := 11) rfl (by kernel_rfl) (rfl) (fun K hK => ?_)
  go_simp
  with_reducible refine Calls.mono (HD.out _ rfl) ?_
  rintro e wq ⟨rfl, rfl⟩
  go_simp
  refine hK _ _ ?_
  clear hK K
  refine wpE_one (i := 15) rfl (by kernel_rfl) (rfl) (fun K hK => ?_)
  go_simp
  with_reducible refine Calls.mono (HD.out _ rfl) ?_
  rintro e wq ⟨rfl, rfl⟩
  go_simp
  refine hK _ _ ?_
  clear hK K
  refine wpE_one (i := 16) rfl (by kernel_rfl) (rfl) (fun K hK => ?_)
  go_simp
  refine hK _ _ ?_
  clear hK K
  refine wpE_one (i := 17) rfl (by kernel_rfl) (rfl) (fun K hK => ?_)
  go_simp
  refine hK _ _ ?_
  clear hK K
  refine wpE_one (i := 18) rfl (by kernel_rfl) (rfl) (fun K hK => ?_)
  go_simp
  refine hK _ _ ?_
  clear hK K
  refine wpE_one (i := 19) rfl (by kernel_rfl) (rfl) (fun K hK => ?_)
  go_simp
  refine hK _ _ ?_
  clear hK K
  refine wpE_one (i := 20) rfl (by kernel_rfl) (rfl) (fun K hK => ?_)
  go_simp
  refine hK _ _ ?_
  clear hK K
  refine wpE_done (by kernel_rfl) (by kernel_rfl) ?_
  go_wp2
  refine bodyPost_ret (v := .tuple #[.int .i64 327680, .int .i64 163840, .int .i64 0, .int .i64 0, .int .i64 0]) (by unfold results; go_simp) rfl ?_
  exact ⟨rfl, HX9.out⟩
end Go.Proofs.Ytembknlhocijkaa
