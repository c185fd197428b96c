
/-
  The law's small font, read out of its file. Conditions: those that each theorem names.
-/
import Derived.Test.YtembknlhocijkaaFtT
import Derived.Test.YtembknlhocijkaaFtV
namespace Go.Proofs.Ytembknlhocijkaa
open Go.RowKit Go.Sp
variable {w w' W : World} {A : HProp} {x : FV}

abbrev errO : Obj := .cells #[.int .i64 0] 22
set_option maxRecDepth 100000 in
set_option maxHeartbeats 8000000 in
theorem read_file {v : Value} (h : RdA w v smallB) : Calls Try.prog 13 #[v] w fun e w' => ∃ x, e = .returned (.tuple #[smallF.val x, .int .i64 0]) ∧ RdF w' x smallF ∧ Ext w w' := by
  have hmf : ∀ (fn : Fn) (first cap : Array Value) (w : World), (Instr.makeFunc fn first cap).run Try.prog w = .ok (.func fn first cap) w := fun _ _ _ _ => rfl
  have hr := h
  obtain ⟨b, off, cap, rfl, hc, -, hcell, lb⟩ := h
  rw [show smallB.length = 68 from by decide] at *
  have hs := (((Sat.start w).alloc font0).alloc errO).alloc (rdB (.slice (some ⟨b, off, none⟩) 68 cap))
  rw [World.size_alloc, World.size_alloc] at hs
  obtain ⟨c2, hc2⟩ : ∃ c2, w.heap.size = c2 := ⟨_, rfl⟩
  obtain ⟨W3, hW3⟩ : ∃ W3, ((w.alloc font0).alloc errO).alloc (rdB (.slice (some ⟨b, off, none⟩) 68 cap)) = W3 := ⟨_, rfl⟩
  rw [hc2, hW3] at hs
  have HR := Lib.hid (read_any (A := pts (c2 + 1) errO * (pts c2 font0 * own w)) (fun w' h => h.r.r.toExt) hr hs)
  have HC2 := Lib.hid hc2
  have HW3 := Lib.hid hW3
  clear hs hr hc hcell lb hc2 hW3
  go_enter_defers Try.func13, Try.ntmps13
  go_wp2_with fail
  rw [HC2.out, HW3.out]
  with_reducible refine Calls.mono HR.out ?_
  rintro e w4 ⟨x, X, rfl, hX, v', hs⟩
  obtain ⟨cb, co, cc, sa, sc, ka, kc, pa, pc, rb, ro, rc, rfl, -⟩ := small_vals (hX _ _ hs)
  have HX := Lib.hid hX
  have HS := Lib.hid (hs.of_eq (show _ = pts c2 font0 * (pts (c2 + 1) errO * (X * (pts (c2 + 1 + 1) (rdB v') * own w))) by ac_rfl))
  clear hs hX HR
  have d0 := HS.out.cell (i := 0) rfl
  have d1 := HS.out.cell (i := 1) rfl
  have d2 := HS.out.cell (i := 2) rfl
  have d3 := HS.out.cell (i := 3) rfl
  have d4 := HS.out.cell (i := 4) rfl
  have d5 := HS.out.cell (i := 5) rfl
  have d6 := HS.out.cell (i := 6) rfl
  have d7 := HS.out.cell (i := 7) rfl
  have f0 := HS.out.free (i := 0)
  have f1 := HS.out.free (i := 1)
  have f2 := HS.out.free (i := 2)
  have f3 := HS.out.free (i := 3)
  have f4 := HS.out.free (i := 4)
  have f5 := HS.out.free (i := 5)
  have f6 := HS.out.free (i := 6)
  have f7 := HS.out.free (i := 7)
  have ld := HS.out.lt
  have hs2 := sat_set8 HS.out (.int .u32 smallF.check) (.int .i64 smallF.design) (.int .i64 smallF.first) (.slice (some ⟨cb, co, none⟩) 1 cc) (.slice sa 0 sc) (.slice ka 0 kc) (.slice pa 0 pc) (.slice (some ⟨rb, ro, none⟩) 2 rc)
  obtain ⟨W5, hW5⟩ : ∃ W5, ((((((((w4.setCell ⟨c2, 0, none⟩ (.int .u32 smallF.check)).setCell ⟨c2, 1, none⟩ (.int .i64 smallF.design)).setCell ⟨c2, 2, none⟩ (.int .i64 smallF.first)).setCell ⟨c2, 3, none⟩ (.slice (some ⟨cb, co, none⟩) 1 cc)).setCell ⟨c2, 4, none⟩ (.slice sa 0 sc)).setCell ⟨c2, 5, none⟩ (.slice ka 0 kc)).setCell ⟨c2, 6, none⟩ (.slice pa 0 pc)).setCell ⟨c2, 7, none⟩ (.slice (some ⟨rb, ro, none⟩) 2 rc)) = W5 := ⟨_, rfl⟩
  rw [hW5] at hs2
  have HS2 := Lib.hid hs2
  have HW5 := Lib.hid hW5
  clear hs2 hW5
  go_upto_region 5 with fail
  rw [HW5.out]
  clear d0 d1 d2 d3 d4 d5 d6 d7 f0 f1 f2 f3 f4 f5 f6 f7 ld
  clear HW5 HS
  have HS3 := Lib.hid (HS2.out.of_eq (show _ = X * (pts c2 (smallF.box ⟨.slice (some ⟨cb, co, none⟩) 1 cc, .slice sa 0 sc, .slice ka 0 kc, .slice pa 0 pc, .slice (some ⟨rb, ro, none⟩) 2 rc⟩) * (pts (c2 + 1) errO * (pts (c2 + 1 + 1) (rdB v') * own w))) by ac_rfl))
  have hc := check_any (HX.out _ _ HS3.out)
  rw [small_check] at hc
  have HC := Lib.hid hc
  have HD := Lib.hid (fun w => demand_any w)
  clear hc
  have d0 := HS2.out.cell (i := 0) rfl
  have d1 := HS2.out.cell (i := 1) rfl
  have d2 := HS2.out.cell (i := 2) rfl
  have d3 := HS2.out.cell (i := 3) rfl
  have d4 := HS2.out.cell (i := 4) rfl
  have d5 := HS2.out.cell (i := 5) rfl
  have d6 := HS2.out.cell (i := 6) rfl
  have d7 := HS2.out.cell (i := 7) rfl
  have f0 := HS2.out.free (i := 0)
  have f1 := HS2.out.free (i := 1)
  have f2 := HS2.out.free (i := 2)
  have f3 := HS2.out.free (i := 3)
  have f4 := HS2.out.free (i := 4)
  have f5 := HS2.out.free (i := 5)
  have f6 := HS2.out.free (i := 6)
  have f7 := HS2.out.free (i := 7)
  have ld := HS2.out.lt
  go_wp2_with fail
  with_reducible refine Calls.mono HC.out ?_
  rintro e w6 ⟨rfl, hx⟩
  have HS4 := Lib.hid (HS2.out.ext hx)
  clear d0 d1 d2 d3 d4 d5 d6 d7 f0 f1 f2 f3 f4 f5 f6 f7 ld
  clear hx HS2 HS3 HC
  go_wp2_with fail
  with_reducible refine Calls.mono (HD.out _) ?_
  rintro e w7 ⟨rfl, hw7⟩
  have hw8 := hw7.symm
  clear hw7
  subst hw8
  have d0 := HS4.out.cell (i := 0) rfl
  have d1 := HS4.out.cell (i := 1) rfl
  have d2 := HS4.out.cell (i := 2) rfl
  have d3 := HS4.out.cell (i := 3) rfl
  have d4 := HS4.out.cell (i := 4) rfl
  have d5 := HS4.out.cell (i := 5) rfl
  have d6 := HS4.out.cell (i := 6) rfl
  have d7 := HS4.out.cell (i := 7) rfl
  have f0 := HS4.out.free (i := 0)
  have f1 := HS4.out.free (i := 1)
  have f2 := HS4.out.free (i := 2)
  have f3 := HS4.out.free (i := 3)
  have f4 := HS4.out.free (i := 4)
  have f5 := HS4.out.free (i := 5)
  have f6 := HS4.out.free (i := 6)
  have f7 := HS4.out.free (i := 7)
  have ld := HS4.out.lt
  have hs5 := sat_set8 HS4.out (.int .u32 smallF.check) (.int .i64 smallF.design) (.int .i64 smallF.first) (.slice (some ⟨cb, co, none⟩) 1 cc) (.slice sa 0 sc) (.slice ka 0 kc) (.slice pa 0 pc) (.slice (some ⟨rb, ro, none⟩) 2 rc)
  obtain ⟨W8, hW8⟩ : ∃ W8, ((((((((w6.setCell ⟨c2, 0, none⟩ (.int .u32 smallF.check)).setCell ⟨c2, 1, none⟩ (.int .i64 smallF.design)).setCell ⟨c2, 2, none⟩ (.int .i64 smallF.first)).setCell ⟨c2, 3, none⟩ (.slice (some ⟨cb, co, none⟩) 1 cc)).setCell ⟨c2, 4, none⟩ (.slice sa 0 sc)).setCell ⟨c2, 5, none⟩ (.slice ka 0 kc)).setCell ⟨c2, 6, none⟩ (.slice pa 0 pc)).setCell ⟨c2, 7, none⟩ (.slice (some ⟨rb, ro, none⟩) 2 rc)) = W8 := ⟨_, rfl⟩
  rw [hW8] at hs5
  have HS5 := Lib.hid (hs5.of_eq (show _ = pts (c2 + 1) errO * (pts c2 (smallF.box ⟨.slice (some ⟨cb, co, none⟩) 1 cc, .slice sa 0 sc, .slice ka 0 kc, .slice pa 0 pc, .slice (some ⟨rb, ro, none⟩) 2 rc⟩) * (X * (pts (c2 + 1 + 1) (rdB v') * own w))) by ac_rfl))
  have HW8 := Lib.hid hW8
  clear hs5 hW8
  have g0 : w6.cell? ⟨c2 + 1, 0, none⟩ = some (.int .i64 0) := HS4.out.r.cell (i := 0) rfl
  have g1 := HS4.out.r.free (i := 0)
  have g2 := HS4.out.r.lt
  have HS6 := Lib.hid (HS5.out.set (i := 0) (v := .int .i64 0))
  go_wp2
  rw [HW8.out]
  clear HW8 g0 g1 g2 HS4 HS5
  clear d0 d1 d2 d3 d4 d5 d6 d7 f0 f1 f2 f3 f4 f5 f6 f7 ld
  refine leaves_cons (f := 26) (args := #[.pointer (some ⟨c2, 0, none⟩), .pointer (some ⟨c2 + 1, 0, none⟩)]) (by simp) (by simp [go_sem]) ?_
  refine (catch_idle c2 (c2 + 1) _).mono ?_
  rintro e u' w'' ⟨rfl, rfl, hx⟩
  have hs7 := HS6.out.ext hx
  have HS7 := Lib.hid hs7
  have g0 : w''.cell? ⟨c2 + 1, 0, none⟩ = some (.int .i64 0) := hs7.cell (i := 0) rfl
  have d0 := hs7.r.cell (i := 0) rfl
  have d1 := hs7.r.cell (i := 1) rfl
  have d2 := hs7.r.cell (i := 2) rfl
  have d3 := hs7.r.cell (i := 3) rfl
  have d4 := hs7.r.cell (i := 4) rfl
  have d5 := hs7.r.cell (i := 5) rfl
  have d6 := hs7.r.cell (i := 6) rfl
  have d7 := hs7.r.cell (i := 7) rfl
  clear hs7 hx HS6
  refine ⟨.tuple #[smallF.val ⟨.slice (some ⟨cb, co, none⟩) 1 cc, .slice sa 0 sc, .slice ka 0 kc, .slice pa 0 pc, .slice (some ⟨rb, ro, none⟩) 2 rc⟩, .int .i64 0], by unfold results; go_simp, _, rfl, HX.out _ _ HS7.out.r.r, HS7.out.r.r.r.r.toExt⟩
end Go.Proofs.Ytembknlhocijkaa
