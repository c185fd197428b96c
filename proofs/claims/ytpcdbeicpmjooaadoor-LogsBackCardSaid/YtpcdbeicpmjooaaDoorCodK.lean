
/-
  The lists of codes of plain text. Conditions: those that each theorem names.
-/
import Derived.Test.YtpcdbeicpmjooaaDoorCodJ
namespace Go.Proofs.YtpcdbeicpmjooaaDoor
open Go.RowKit Go.Sp
variable {W w w' : World} {F F' : HProp}

theorem zero_one (h : Sat W F w) : Sat W (pts w.heap.size (codesO (List.replicate 256 0) 22) * F) (w.alloc (.cells Tryd.zeroCells22 22)) := by
  have h2 := h.alloc (.cells Tryd.zeroCells22 22)
  have e2 : (Obj.cells Tryd.zeroCells22 22) = codesO (List.replicate 256 0) 22 := by rw [zero22]
  rw [e2] at h2 ⊢
  exact h2

set_option maxRecDepth 1000000 in
set_option maxHeartbeats 8000000 in
theorem plain_any (h : Sat W F w) : Calls Tryd.prog 4 #[] w fun e w' => e = .returned (codesV plainL) ∧ Sat W F w' := by
  have HF := Lib.hid (fresh_any (zero_one h))
  clear h
  obtain ⟨fl, hfl⟩ : ∃ fl, plainL = fl := ⟨_, rfl⟩
  rw [hfl]
  have HFN := Lib.hid (show fl.length = 256 by rw [← hfl]; exact plainL_len)
  have HFL := Lib.hid hfl
  clear hfl
  obtain ⟨fr, hfr⟩ : ∃ fr, freshL = fr := ⟨_, rfl⟩
  rw [hfr] at HF
  have HFN0 := Lib.hid (show fr.length = 256 by rw [← hfr]; exact freshL_len)
  have HFR := Lib.hid hfr
  clear hfr
  go_enter Tryd.func4, Tryd.ntmps4
  go_wp2_with fail
  refine Calls.mono HF.out ?_
  rintro e w1 ⟨rfl, hx⟩
  have ha := zero_one hx
  have HA := Lib.hid ha
  have HB := Lib.hid ha.blk
  clear hx ha
  go_simp
  go_step
  go_step
  go_simp
  go_step
  refine (wpList_store_row (by rfl) 22 (.tmp 1) (.tmp 2) (by rfl) w1.heap.size (fr.map (Value.int .i64)).toArray (by rfl) (by rfl) _ _ HB.out ?_ ?_ ?_ ?_)
  · rw [size_codes]; simp [HFN0.out]
  · simp [HFN0.out]
  · exact one_codes fr
  have HX := Lib.hid (Sat.setRowC (M := fr) HA.out)
  clear HB HA HF
  generalize (w1.alloc (.cells Tryd.zeroCells22 22)).setRow w1.heap.size (fr.map (Value.int .i64)).toArray = W1 at *
  generalize w1.heap.size = b1 at *
  obtain ⟨x0, k0, g0⟩ := HX.out.cellC 123 (by rw [HFN0.out]; omega)
  obtain ⟨x1, k1, g1⟩ := HX.out.cellC 125 (by rw [HFN0.out]; omega)
  obtain ⟨x2, k2, g2⟩ := HX.out.cellC 36 (by rw [HFN0.out]; omega)
  obtain ⟨x3, k3, g3⟩ := HX.out.cellC 38 (by rw [HFN0.out]; omega)
  obtain ⟨x4, k4, g4⟩ := HX.out.cellC 35 (by rw [HFN0.out]; omega)
  obtain ⟨x5, k5, g5⟩ := HX.out.cellC 94 (by rw [HFN0.out]; omega)
  obtain ⟨x6, k6, g6⟩ := HX.out.cellC 95 (by rw [HFN0.out]; omega)
  obtain ⟨x7, k7, g7⟩ := HX.out.cellC 126 (by rw [HFN0.out]; omega)
  obtain ⟨x8, k8, g8⟩ := HX.out.cellC 9 (by rw [HFN0.out]; omega)
  obtain ⟨x9, k9, g9⟩ := HX.out.cellC 12 (by rw [HFN0.out]; omega)
  obtain ⟨x10, k10, g10⟩ := HX.out.cellC 11 (by rw [HFN0.out]; omega)
  obtain ⟨x11, k11, g11⟩ := HX.out.cellC 1 (by rw [HFN0.out]; omega)
  have lb := HX.out.lt
  have HS := Lib.hid ((((((((((((HX.out.setC (i := 123) 1).setC (i := 125) 2).setC (i := 36) 3).setC (i := 38) 4).setC (i := 35) 6).setC (i := 94) 7).setC (i := 95) 8).setC (i := 126) 13).setC (i := 9) 10).setC (i := 12) 13).setC (i := 11) 7).setC (i := 1) 8)
  have e1 : ((((((((((((fr.set 123 1).set 125 2).set 36 3).set 38 4).set 35 6).set 94 7).set 95 8).set 126 13).set 9 10).set 12 13).set 11 7).set 1 8) = fl := by rw [← HFR.out, ← HFL.out]; rfl
  rw [e1] at HS
  clear e1
  go_upto_region 4 with fail
  generalize ((((((((((((W1.setCell ⟨b1, 123, none⟩ (.int .i64 1)).setCell ⟨b1, 125, none⟩ (.int .i64 2)).setCell ⟨b1, 36, none⟩ (.int .i64 3)).setCell ⟨b1, 38, none⟩ (.int .i64 4)).setCell ⟨b1, 35, none⟩ (.int .i64 6)).setCell ⟨b1, 94, none⟩ (.int .i64 7)).setCell ⟨b1, 95, none⟩ (.int .i64 8)).setCell ⟨b1, 126, none⟩ (.int .i64 13)).setCell ⟨b1, 9, none⟩ (.int .i64 10)).setCell ⟨b1, 12, none⟩ (.int .i64 13)).setCell ⟨b1, 11, none⟩ (.int .i64 7)).setCell ⟨b1, 1, none⟩ (.int .i64 8)) = W2 at *
  clear x0 k0 g0 x1 k1 g1 x2 k2 g2 x3 k3 g3 x4 k4 g4 x5 k5 g5 x6 k6 g6 x7 k7 g7 x8 k8 g8 x9 k9 g9 x10 k10 g10 x11 k11 g11 lb HX
  have hb1 := HS.out.blk
  have hb0 := HS.out.rot.blk
  go_wp2_with fail
  refine wp_load_row 22 (.tmp 1) (by rfl) b1 (by rfl) _ _ _ _ hb1 Tryd.underlying22 (by rfl) ?_ ?_
  · rw [size_codes]; simp [HFN.out]
  go_step
  refine wpList_store_row (by rfl) 22 (.tmp 0) (.tmp 15) (by rfl) w.heap.size (fl.map (Value.int .i64)).toArray (by rfl) (by rfl) _ _ hb0 ?_ ?_ ?_ ?_
  · rw [size_codes]; simp [HFN.out]
  · simp [HFN.out]
  · exact one_codes fl
  have HE := Lib.hid (Sat.setRowC (M := fl) HS.out.rot)
  clear hb0 hb1
  go_wp2
  (try simp only [Exit.inBlock, Exit.then])
  refine bodyPost_ret (v := codesV fl) (results_cell_row (fn := Tryd.f4) rfl _ _ w.heap.size 22 (fl.map (Value.int .i64)).toArray (0, 0) _ rfl HE.out.blk Tryd.underlying22 (by rfl) (by rw [size_codes]; simp [HFN.out])) rfl ⟨rfl, HE.out.r.r⟩

end Go.Proofs.YtpcdbeicpmjooaaDoor
