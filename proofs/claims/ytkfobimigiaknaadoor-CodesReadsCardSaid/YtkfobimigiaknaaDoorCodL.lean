/-
  The reference's lists of codes. Conditions: those that each theorem names.
-/
import Derived.Test.YtkfobimigiaknaaDoorCodK
namespace Go.Proofs.YtkfobimigiaknaaDoor
open Go.RowKit Go.Sp
variable {W w w' : World} {F F' : HProp}

theorem letterR_any (k : Nat) (w : World) : Calls Tryd.prog 27 #[.int .i64 k] w fun e w' => e = .returned (.bool (decide ((97 ≤ k ∧ k ≤ 122) ∨ (65 ≤ k ∧ k ≤ 90)))) ∧ w = w' := by
  by_cases h1 : (97 ≤ k ∧ k ≤ 122) ∨ (65 ≤ k ∧ k ≤ 90)
  · rw [decide_eq_true h1]
    have h2 : (65 ≤ (k : Int) ∧ (k : Int) ≤ 90) ∨ (65 ≤ (k : Int) ∧ ¬ (k : Int) ≤ 90 ∧ 97 ≤ (k : Int) ∧ (k : Int) ≤ 122) := by omega
    clear h1
    rcases h2 with ⟨j1, j2⟩ | ⟨j1, j2, j3, j4⟩
    all_goals
      go_enter Tryd.func27, Tryd.ntmps27
      go_wp2
      go_ret
      exact ⟨rfl, rfl⟩
  · rw [decide_eq_false h1]
    have h2 : (65 ≤ (k : Int) ∧ ¬ (k : Int) ≤ 90 ∧ ¬ 97 ≤ (k : Int)) ∨ (65 ≤ (k : Int) ∧ ¬ (k : Int) ≤ 90 ∧ 97 ≤ (k : Int) ∧ ¬ (k : Int) ≤ 122) ∨ (¬ 65 ≤ (k : Int) ∧ ¬ 97 ≤ (k : Int)) := by omega
    clear h1
    rcases h2 with ⟨j1, j2, j3⟩ | ⟨j1, j2, j3, j4⟩ | ⟨j1, j2⟩
    all_goals
      go_enter Tryd.func27, Tryd.ntmps27
      go_wp2
      go_ret
      exact ⟨rfl, rfl⟩

theorem freshR_eq : ((((((baseL.set 0 9).set 13 5).set 32 10).set 37 14).set 92 0).set 127 15) = freshL := by decide +kernel

set_option maxRecDepth 1000000 in
set_option maxHeartbeats 8000000 in
theorem freshR_any (h : Sat W F w) : Calls Tryd.prog 11 #[] w fun e w' => e = .returned (codesV freshL) ∧ Sat W F w' := by
  have HZ := Lib.hid (zero_two h)
  obtain ⟨fl, hfl⟩ : ∃ fl, freshL = fl := ⟨_, rfl⟩
  rw [hfl]
  have HFN := Lib.hid (show fl.length = 256 by rw [← hfl]; exact freshL_len)
  have HFL := Lib.hid hfl
  clear hfl
  clear h
  go_enter Tryd.func11, Tryd.ntmps11
  go_wp2_with fail
  go_loopg [2] 256 (fun g s3 wx => ∃ (k : Nat) (L : List Int), k ≤ 256 ∧ g = 256 - k ∧ s3 = .int .i64 k ∧ L.length = 256 ∧ L.take k = baseL.take k ∧ Sat W (pts (w.heap.size + 1) (codesO L 22) * (pts w.heap.size (codesO (List.replicate 256 0) 22) * F)) wx)
  case atStart => exact ⟨0, List.replicate 256 0, by omega, rfl, rfl, by simp, rfl, (show Sat W (pts (w.heap.size + 1) (codesO (List.replicate 256 0) 22) * (pts w.heap.size (codesO (List.replicate 256 0) 22) * F)) _ from HZ.out)⟩
  case round =>
    obtain ⟨k, L, hk, rfl, rfl, hl, ht, hx⟩ := hrel
    have HL := Lib.hid hl
    have HT := Lib.hid ht
    have HX := Lib.hid hx
    clear hl ht hx
    by_cases hlt : k < 256
    · obtain ⟨x, k0, f0⟩ := HX.out.cellC k (by rw [HL.out]; exact hlt)
      have lb := HX.out.lt
      have hb := baseL_at k hlt
      have i1 : (k : Int) < 256 := by omega
      have i2 : (0 : Int) ≤ (k : Int) := by omega
      have HLT := Lib.hid (letterR_any k)
      have h12 := HX.out.setC (i := k) 12
      obtain ⟨x2, k2, f2⟩ := h12.cellC k (by rw [List.length_set, HL.out]; exact hlt)
      by_cases h1 : (97 ≤ k ∧ k ≤ 122) ∨ (65 ≤ k ∧ k ≤ 90)
      · rw [if_pos h1] at hb
        rw [decide_eq_true h1] at HLT
        have HS := Lib.hid (h12.setC (i := k) 11)
        rw [List.set_set] at HS
        have HB := Lib.hid (take_set_succ HT.out (by rw [HL.out]; exact hlt) hb)
        clear hb h1 h12
        go_wp2_with fail
        refine Calls.mono (HLT.out _) ?_
        rintro e w2 ⟨rfl, rfl⟩
        go_wp2
        go_roundg (256 - (k + 1))
        case measure => omega
        case rel => exact ⟨k + 1, L.set k 11, by omega, rfl, by go_num, by rw [List.length_set]; exact HL.out, HB.out, HS.out⟩
      · rw [if_neg h1] at hb
        rw [decide_eq_false h1] at HLT
        have HS := Lib.hid h12
        have HB := Lib.hid (take_set_succ HT.out (by rw [HL.out]; exact hlt) hb)
        clear hb h1 h12
        go_wp2_with fail
        refine Calls.mono (HLT.out _) ?_
        rintro e w2 ⟨rfl, rfl⟩
        go_wp2
        go_roundg (256 - (k + 1))
        case measure => omega
        case rel => exact ⟨k + 1, L.set k 12, by omega, rfl, by go_num, by rw [List.length_set]; exact HL.out, HB.out, HS.out⟩
    · have hk2 : 256 = k := by omega
      subst hk2
      have hL : L = baseL := by
        have := HT.out
        rwa [List.take_of_length_le (by rw [HL.out]; exact Nat.le_refl _), List.take_of_length_le (by rw [baseL_len]; exact Nat.le_refl _)] at this
      subst hL
      have HS := Lib.hid ((((((HX.out.setC (i := 0) 9).setC (i := 13) 5).setC (i := 32) 10).setC (i := 37) 14).setC (i := 92) 0).setC (i := 127) 15)
      obtain ⟨x1, k1, g1⟩ := HX.out.cellC 92 (by rw [baseL_len]; omega)
      obtain ⟨x2, k2, g2⟩ := HX.out.cellC 13 (by rw [baseL_len]; omega)
      obtain ⟨x3, k3, g3⟩ := HX.out.cellC 32 (by rw [baseL_len]; omega)
      obtain ⟨x4, k4, g4⟩ := HX.out.cellC 0 (by rw [baseL_len]; omega)
      obtain ⟨x5, k5, g5⟩ := HX.out.cellC 37 (by rw [baseL_len]; omega)
      obtain ⟨x6, k6, g6⟩ := HX.out.cellC 127 (by rw [baseL_len]; omega)
      have lb := HX.out.lt
      rw [freshR_eq, HFL.out] at HS
      clear hlt
      go_upto_region 14 with fail
      generalize ((((((wr.setCell ⟨w.heap.size + 1, 0, none⟩ (.int .i64 9)).setCell ⟨w.heap.size + 1, 13, none⟩ (.int .i64 5)).setCell ⟨w.heap.size + 1, 32, none⟩ (.int .i64 10)).setCell ⟨w.heap.size + 1, 37, none⟩ (.int .i64 14)).setCell ⟨w.heap.size + 1, 92, none⟩ (.int .i64 0)).setCell ⟨w.heap.size + 1, 127, none⟩ (.int .i64 15)) = W2 at *
      clear x1 k1 g1 k2 g2 k3 g3 k4 g4 k5 g5 k6 g6 lb HX
      have hb1 := HS.out.blk
      have hb0 := HS.out.rot.blk
      go_wp2_with fail
      refine wp_load_row 22 (.tmp 1) (by rfl) (w.heap.size + 1) (by rfl) _ _ _ _ hb1 Tryd.underlying22 (by rfl) ?_ ?_
      · rw [size_codes]; simp [HFN.out]
      go_step
      refine wpList_store_row (by rfl) 22 (.tmp 0) (.tmp 19) (by rfl) w.heap.size (fl.map (Value.int .i64)).toArray (by rfl) (by rfl) _ _ hb0 ?_ ?_ ?_ ?_
      · rw [size_codes]; simp [HFN.out]
      · simp [HFN.out]
      · exact one_codes fl
      have HE := Lib.hid (Sat.setRowC (M := fl) HS.out.rot)
      clear hb0 hb1
      go_wp2
      (try simp only [Exit.inBlock, Exit.then])
      refine bodyPost_ret (v := codesV fl) (results_cell_row (fn := Tryd.f11) rfl _ _ w.heap.size 22 (fl.map (Value.int .i64)).toArray (0, 0) _ rfl HE.out.blk Tryd.underlying22 (by rfl) (by rw [size_codes]; simp [HFN.out])) rfl ⟨rfl, HE.out.r.r⟩

set_option maxRecDepth 1000000 in
set_option maxHeartbeats 8000000 in
theorem plainR_any (h : Sat W F w) : Calls Tryd.prog 13 #[] w fun e w' => e = .returned (codesV plainL) ∧ Sat W F w' := by
  have HF := Lib.hid (freshR_any (zero_one h))
  clear h
  obtain ⟨fl, hfl⟩ : ∃ fl, plainL = fl := ⟨_, rfl⟩
  rw [hfl]
  have HFN := Lib.hid (show fl.length = 256 by rw [← hfl]; exact plainL_len)
  have HFL := Lib.hid hfl
  clear hfl
  obtain ⟨fr, hfr⟩ : ∃ fr, freshL = fr := ⟨_, rfl⟩
  rw [hfr] at HF
  have HFN0 := Lib.hid (show fr.length = 256 by rw [← hfr]; exact freshL_len)
  have HFR := Lib.hid hfr
  clear hfr
  go_enter Tryd.func13, Tryd.ntmps13
  go_wp2_with fail
  refine Calls.mono HF.out ?_
  rintro e w1 ⟨rfl, hx⟩
  have ha := zero_one hx
  have HA := Lib.hid ha
  have HB := Lib.hid ha.blk
  clear hx ha
  go_simp
  go_step
  go_step
  go_simp
  go_step
  refine (wpList_store_row (by rfl) 22 (.tmp 1) (.tmp 2) (by rfl) w1.heap.size (fr.map (Value.int .i64)).toArray (by rfl) (by rfl) _ _ HB.out ?_ ?_ ?_ ?_)
  · rw [size_codes]; simp [HFN0.out]
  · simp [HFN0.out]
  · exact one_codes fr
  have HX := Lib.hid (Sat.setRowC (M := fr) HA.out)
  clear HB HA HF
  generalize (w1.alloc (.cells Tryd.zeroCells22 22)).setRow w1.heap.size (fr.map (Value.int .i64)).toArray = W1 at *
  generalize w1.heap.size = b1 at *
  obtain ⟨x0, k0, g0⟩ := HX.out.cellC 123 (by rw [HFN0.out]; omega)
  obtain ⟨x1, k1, g1⟩ := HX.out.cellC 125 (by rw [HFN0.out]; omega)
  obtain ⟨x2, k2, g2⟩ := HX.out.cellC 36 (by rw [HFN0.out]; omega)
  obtain ⟨x3, k3, g3⟩ := HX.out.cellC 38 (by rw [HFN0.out]; omega)
  obtain ⟨x4, k4, g4⟩ := HX.out.cellC 35 (by rw [HFN0.out]; omega)
  obtain ⟨x5, k5, g5⟩ := HX.out.cellC 94 (by rw [HFN0.out]; omega)
  obtain ⟨x6, k6, g6⟩ := HX.out.cellC 95 (by rw [HFN0.out]; omega)
  obtain ⟨x7, k7, g7⟩ := HX.out.cellC 126 (by rw [HFN0.out]; omega)
  obtain ⟨x8, k8, g8⟩ := HX.out.cellC 9 (by rw [HFN0.out]; omega)
  obtain ⟨x9, k9, g9⟩ := HX.out.cellC 12 (by rw [HFN0.out]; omega)
  obtain ⟨x10, k10, g10⟩ := HX.out.cellC 11 (by rw [HFN0.out]; omega)
  obtain ⟨x11, k11, g11⟩ := HX.out.cellC 1 (by rw [HFN0.out]; omega)
  have lb := HX.out.lt
  have HS := Lib.hid ((((((((((((HX.out.setC (i := 123) 1).setC (i := 125) 2).setC (i := 36) 3).setC (i := 38) 4).setC (i := 35) 6).setC (i := 94) 7).setC (i := 95) 8).setC (i := 126) 13).setC (i := 9) 10).setC (i := 12) 13).setC (i := 11) 7).setC (i := 1) 8)
  have e1 : ((((((((((((fr.set 123 1).set 125 2).set 36 3).set 38 4).set 35 6).set 94 7).set 95 8).set 126 13).set 9 10).set 12 13).set 11 7).set 1 8) = fl := by rw [← HFR.out, ← HFL.out]; rfl
  rw [e1] at HS
  clear e1
  go_upto_region 14 with fail
  generalize ((((((((((((W1.setCell ⟨b1, 123, none⟩ (.int .i64 1)).setCell ⟨b1, 125, none⟩ (.int .i64 2)).setCell ⟨b1, 36, none⟩ (.int .i64 3)).setCell ⟨b1, 38, none⟩ (.int .i64 4)).setCell ⟨b1, 35, none⟩ (.int .i64 6)).setCell ⟨b1, 94, none⟩ (.int .i64 7)).setCell ⟨b1, 95, none⟩ (.int .i64 8)).setCell ⟨b1, 126, none⟩ (.int .i64 13)).setCell ⟨b1, 9, none⟩ (.int .i64 10)).setCell ⟨b1, 12, none⟩ (.int .i64 13)).setCell ⟨b1, 11, none⟩ (.int .i64 7)).setCell ⟨b1, 1, none⟩ (.int .i64 8)) = W2 at *
  clear x0 k0 g0 x1 k1 g1 x2 k2 g2 x3 k3 g3 x4 k4 g4 x5 k5 g5 x6 k6 g6 x7 k7 g7 x8 k8 g8 x9 k9 g9 x10 k10 g10 x11 k11 g11 lb HX
  have hb1 := HS.out.blk
  have hb0 := HS.out.rot.blk
  go_wp2_with fail
  refine wp_load_row 22 (.tmp 1) (by rfl) b1 (by rfl) _ _ _ _ hb1 Tryd.underlying22 (by rfl) ?_ ?_
  · rw [size_codes]; simp [HFN.out]
  go_step
  refine wpList_store_row (by rfl) 22 (.tmp 0) (.tmp 15) (by rfl) w.heap.size (fl.map (Value.int .i64)).toArray (by rfl) (by rfl) _ _ hb0 ?_ ?_ ?_ ?_
  · rw [size_codes]; simp [HFN.out]
  · simp [HFN.out]
  · exact one_codes fl
  have HE := Lib.hid (Sat.setRowC (M := fl) HS.out.rot)
  clear hb0 hb1
  go_wp2
  (try simp only [Exit.inBlock, Exit.then])
  refine bodyPost_ret (v := codesV fl) (results_cell_row (fn := Tryd.f13) rfl _ _ w.heap.size 22 (fl.map (Value.int .i64)).toArray (0, 0) _ rfl HE.out.blk Tryd.underlying22 (by rfl) (by rw [size_codes]; simp [HFN.out])) rfl ⟨rfl, HE.out.r.r⟩

end Go.Proofs.YtkfobimigiaknaaDoor
