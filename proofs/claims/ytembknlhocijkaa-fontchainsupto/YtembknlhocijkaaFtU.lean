
/-
  The small font is not trimmed. Conditions: those that each theorem names.
-/
import Derived.Test.YtembknlhocijkaaFtS
namespace Go.Proofs.Ytembknlhocijkaa
open Go.RowKit Go.Sp
variable {w w' W : World} {A : HProp} {x : FV}

abbrev font0 : Obj := fontO (.int .u32 0) (.int .i64 0) (.int .i64 0) (.slice none 0 0) (.slice none 0 0) (.slice none 0 0) (.slice none 0 0) (.slice none 0 0)
set_option maxRecDepth 100000 in
set_option maxHeartbeats 8000000 in
theorem trimmed_any (h : RdF w x smallF) : Calls Try.prog 46 #[smallF.val x] w fun e w' => e = .returned (smallF.val x) ∧ Ext w w' := by
  obtain ⟨cb, co, cc, sa, sc, ka, kc, pa, pc, rb, ro, rc, rfl, hcell⟩ := small_vals h
  have hs := ((Sat.start w).alloc (smallF.box ⟨.slice (some ⟨cb, co, none⟩) 1 cc, .slice sa 0 sc, .slice ka 0 kc, .slice pa 0 pc, .slice (some ⟨rb, ro, none⟩) 2 rc⟩)).alloc font0
  rw [World.size_alloc] at hs
  obtain ⟨b0, hb0⟩ : ∃ b0, w.heap.size = b0 := ⟨_, rfl⟩
  obtain ⟨X0, hX0⟩ : ∃ X0, (w.alloc (smallF.box ⟨.slice (some ⟨cb, co, none⟩) 1 cc, .slice sa 0 sc, .slice ka 0 kc, .slice pa 0 pc, .slice (some ⟨rb, ro, none⟩) 2 rc⟩)).alloc font0 = X0 := ⟨_, rfl⟩
  rw [hb0, hX0] at hs
  obtain ⟨-, -, -, -, c4, -, lb⟩ := hcell _ hs.r.r.toExt
  have e0 := hs.r.cell (i := 0) rfl
  have e1 := hs.r.cell (i := 1) rfl
  have e2 := hs.r.cell (i := 2) rfl
  have e3 := hs.r.cell (i := 3) rfl
  have e4 := hs.r.cell (i := 4) rfl
  have e5 := hs.r.cell (i := 5) rfl
  have e6 := hs.r.cell (i := 6) rfl
  have e7 := hs.r.cell (i := 7) rfl
  have le := hs.r.lt
  have c0 := hs.cell (i := 0) rfl
  have c1 := hs.cell (i := 1) rfl
  have c2 := hs.cell (i := 2) rfl
  have c3 := hs.cell (i := 3) rfl
  have c4' := hs.cell (i := 4) rfl
  have c5 := hs.cell (i := 5) rfl
  have c6 := hs.cell (i := 6) rfl
  have c7 := hs.cell (i := 7) rfl
  have f0 := hs.free (i := 0)
  have f1 := hs.free (i := 1)
  have f2 := hs.free (i := 2)
  have f3 := hs.free (i := 3)
  have f4 := hs.free (i := 4)
  have f5 := hs.free (i := 5)
  have f6 := hs.free (i := 6)
  have f7 := hs.free (i := 7)
  have lc := hs.lt
  have HX0 := Lib.hid hX0
  have HB0 := Lib.hid hb0
  have G := Lib.hid (sat_set8 hs (.int .u32 7) (.int .i64 10485760) (.int .i64 97) (.slice (some ⟨cb, co, none⟩) 1 cc) (.slice sa 0 sc) (.slice ka 0 kc) (.slice pa 0 pc) (.slice (some ⟨rb, ro, none⟩) 2 rc))
  simp only [smallF] at e0 e1 e2
  clear hs hX0 hb0 hcell h
  go_enter Try.func46, Try.ntmps46
  go_upto_region 1 with fail
  rw [HB0.out, HX0.out]
  clear HB0 HX0
  go_wp2_with fail
  go_loopg [3] 0 (fun gg s3 wx => gg = 0 ∧ wx = X0)
  case atStart => exact ⟨rfl, rfl⟩
  case round =>
    obtain ⟨hg, hw⟩ := hrel
    have hw2 := hw.symm
    clear hg hw
    subst hw2
    go_wp2_with fail
    go_loopg [27] 0 (fun gg s27 wx => gg = 0 ∧ wx = X0)
    case atStart => exact ⟨rfl, rfl⟩
    case round =>
      obtain ⟨hg, hw⟩ := hrel
      have hw2 := hw.symm
      clear hg hw
      subst hw2
      go_wp2
      clear e0 e1 e2 e3 e4 e5 e6 e7 le c0 c1 c2 c3 c4' c5 c6 c7 f0 f1 f2 f3 f4 f5 f6 f7 lc
      have d0 := G.out.cell (i := 0) rfl
      have d1 := G.out.cell (i := 1) rfl
      have d2 := G.out.cell (i := 2) rfl
      have d3 := G.out.cell (i := 3) rfl
      have d4 := G.out.cell (i := 4) rfl
      have d5 := G.out.cell (i := 5) rfl
      have d6 := G.out.cell (i := 6) rfl
      have d7 := G.out.cell (i := 7) rfl
      refine bodyPost_ret (v := smallF.val ⟨.slice (some ⟨cb, co, none⟩) 1 cc, .slice sa 0 sc, .slice ka 0 kc, .slice pa 0 pc, .slice (some ⟨rb, ro, none⟩) 2 rc⟩) (by unfold results smallF; go_simp) rfl ?_
      exact ⟨rfl, G.out.r.r.toExt⟩
end Go.Proofs.Ytembknlhocijkaa
