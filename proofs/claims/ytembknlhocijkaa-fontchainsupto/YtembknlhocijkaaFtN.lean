
/-
  The law's small font, made; the law's num. Conditions: none.
-/
import Derived.Test.YtembknlhocijkaaFtM
namespace Go.Proofs.Ytembknlhocijkaa
open Go.RowKit Go.Sp
variable {w W : World} {A : HProp} {x : FV}

set_option maxRecDepth 100000 in
theorem num_any (a : Int) (w : World) : Calls Try.prog 6 #[.int .i64 a] w fun e w' => e = .returned (.int .i64 a) ∧ w' = w := by
  go_enter Try.func6, Try.ntmps6
  go_wp2
  go_ret
  exact ⟨rfl, rfl⟩
abbrev fontO (a b c cv sv kv pv rv : Value) : Obj := .cells #[a, b, c, cv, sv, kv, pv, rv] 35
theorem fset0 (c0 c1 c2 c3 c4 c5 c6 c7 v : Value) : (#[c0, c1, c2, c3, c4, c5, c6, c7] : Array Value).setIfInBounds 0 v = #[v, c1, c2, c3, c4, c5, c6, c7] := rfl
theorem fset1 (c0 c1 c2 c3 c4 c5 c6 c7 v : Value) : (#[c0, c1, c2, c3, c4, c5, c6, c7] : Array Value).setIfInBounds 1 v = #[c0, v, c2, c3, c4, c5, c6, c7] := rfl
theorem fset2 (c0 c1 c2 c3 c4 c5 c6 c7 v : Value) : (#[c0, c1, c2, c3, c4, c5, c6, c7] : Array Value).setIfInBounds 2 v = #[c0, c1, v, c3, c4, c5, c6, c7] := rfl
theorem fset3 (c0 c1 c2 c3 c4 c5 c6 c7 v : Value) : (#[c0, c1, c2, c3, c4, c5, c6, c7] : Array Value).setIfInBounds 3 v = #[c0, c1, c2, v, c4, c5, c6, c7] := rfl
theorem fset4 (c0 c1 c2 c3 c4 c5 c6 c7 v : Value) : (#[c0, c1, c2, c3, c4, c5, c6, c7] : Array Value).setIfInBounds 4 v = #[c0, c1, c2, c3, v, c5, c6, c7] := rfl
theorem fset5 (c0 c1 c2 c3 c4 c5 c6 c7 v : Value) : (#[c0, c1, c2, c3, c4, c5, c6, c7] : Array Value).setIfInBounds 5 v = #[c0, c1, c2, c3, c4, v, c6, c7] := rfl
theorem fset6 (c0 c1 c2 c3 c4 c5 c6 c7 v : Value) : (#[c0, c1, c2, c3, c4, c5, c6, c7] : Array Value).setIfInBounds 6 v = #[c0, c1, c2, c3, c4, c5, v, c7] := rfl
theorem fset7 (c0 c1 c2 c3 c4 c5 c6 c7 v : Value) : (#[c0, c1, c2, c3, c4, c5, c6, c7] : Array Value).setIfInBounds 7 v = #[c0, c1, c2, c3, c4, c5, c6, v] := rfl
theorem sat_set8 {b : Nat} {c0 c1 c2 c3 c4 c5 c6 c7 : Value} (h : Sat W (pts b (fontO c0 c1 c2 c3 c4 c5 c6 c7) * A) w) (v0 v1 v2 v3 v4 v5 v6 v7 : Value) :
    Sat W (pts b (fontO v0 v1 v2 v3 v4 v5 v6 v7) * A) ((((((((w.setCell ⟨b, 0, none⟩ v0).setCell ⟨b, 1, none⟩ v1).setCell ⟨b, 2, none⟩ v2).setCell ⟨b, 3, none⟩ v3).setCell ⟨b, 4, none⟩ v4).setCell ⟨b, 5, none⟩ v5).setCell ⟨b, 6, none⟩ v6).setCell ⟨b, 7, none⟩ v7) := by
  have h1 := h.set (i := 0) (v := v0)
  rw [fset0] at h1
  have h2 := h1.set (i := 1) (v := v1)
  rw [fset1] at h2
  have h3 := h2.set (i := 2) (v := v2)
  rw [fset2] at h3
  have h4 := h3.set (i := 3) (v := v3)
  rw [fset3] at h4
  have h5 := h4.set (i := 4) (v := v4)
  rw [fset4] at h5
  have h6 := h5.set (i := 5) (v := v5)
  rw [fset5] at h6
  have h7 := h6.set (i := 6) (v := v6)
  rw [fset6] at h7
  have h8 := h7.set (i := 7) (v := v7)
  rw [fset7] at h8
  exact h8
theorem small_rd {b c : Nat} (h : Sat W (pts b (.cells #[.int .i64 0, .int .i64 262144] 3) * (pts c (.cells #[.int .i64 524288, .int .i64 262144, .int .i64 0, .int .i64 0, .int .i64 0, .int .i64 0] 41) * A)) w) :
    RdF w ⟨.slice (some ⟨c, 0, none⟩) 1 1, .slice none 0 0, .slice none 0 0, .slice none 0 0, .slice (some ⟨b, 0, none⟩) 2 2⟩ smallF := by
  have h1 := Sat.row_whole (size := 1) 2 h (by simp only [maxLen]; omega) rfl
  have h2 := Sat.row_whole (size := 6) 1 h.r (by simp only [maxLen]; omega) rfl
  refine ⟨⟨h2.rd, _, _, rfl, by decide⟩, RdL.empty .., RdL.empty .., RdL.empty .., ⟨h1.rd, _, _, rfl, by decide⟩, ?_, by decide, by decide, by decide, by decide, by decide⟩
  intro m hm
  simp only [smallF, List.mem_singleton] at hm
  subst hm
  exact ⟨by decide, by decide⟩
set_option maxRecDepth 100000 in
set_option maxHeartbeats 8000000 in
theorem small_any (w : World) : Calls Try.prog 12 #[] w fun e w' => ∃ x, e = .returned (smallF.val x) ∧ RdF w' x smallF ∧ Ext w w' := by
  have h0 := (Sat.start w).alloc (fontO (.int .u32 0) (.int .i64 0) (.int .i64 0) (.slice none 0 0) (.slice none 0 0) (.slice none 0 0) (.slice none 0 0) (.slice none 0 0))
  obtain ⟨b0, hb0⟩ : ∃ b0, w.heap.size = b0 := ⟨_, rfl⟩
  obtain ⟨X0, hX0⟩ : ∃ X0, w.alloc (fontO (.int .u32 0) (.int .i64 0) (.int .i64 0) (.slice none 0 0) (.slice none 0 0) (.slice none 0 0) (.slice none 0 0) (.slice none 0 0)) = X0 := ⟨_, rfl⟩
  rw [hb0, hX0] at h0
  have h1 := (h0.alloc (.cells #[.int .i64 524288, .int .i64 262144, .int .i64 0, .int .i64 0, .int .i64 0, .int .i64 0] 41)).alloc (.cells #[.int .i64 0, .int .i64 262144] 3)
  rw [World.size_alloc] at h1
  obtain ⟨b1, hb1⟩ : ∃ b1, X0.heap.size = b1 := ⟨_, rfl⟩
  rw [hb1] at h1
  have HB0 := Lib.hid hb0
  have HX0 := Lib.hid hX0
  have HB1 := Lib.hid hb1
  have h2 := h1.of_eq (show _ = pts b0 (fontO (.int .u32 0) (.int .i64 0) (.int .i64 0) (.slice none 0 0) (.slice none 0 0) (.slice none 0 0) (.slice none 0 0) (.slice none 0 0)) * (pts (b1 + 1) (.cells #[.int .i64 0, .int .i64 262144] 3) * (pts b1 (.cells #[.int .i64 524288, .int .i64 262144, .int .i64 0, .int .i64 0, .int .i64 0, .int .i64 0] 41) * own w)) by ac_rfl)
  have HS := Lib.hid h2
  have h3 := sat_set8 h2 (.int .u32 7) (.int .i64 10485760) (.int .i64 97) (.slice (some ⟨b1, 0, none⟩) 1 1) (.slice none 0 0) (.slice none 0 0) (.slice none 0 0) (.slice (some ⟨b1 + 1, 0, none⟩) 2 2)
  have G := Lib.hid h3
  clear h0 h1 h2 h3 hb0 hX0 hb1
  go_enter Try.func12, Try.ntmps12
  go_upto_region 1 with fail
  rw [HB0.out, HX0.out]
  clear HX0 HB0
  have c0 := HS.out.cell (i := 0) rfl
  have c1 := HS.out.cell (i := 1) rfl
  have c2 := HS.out.cell (i := 2) rfl
  have c3 := HS.out.cell (i := 3) rfl
  have c4 := HS.out.cell (i := 4) rfl
  have c5 := HS.out.cell (i := 5) rfl
  have c6 := HS.out.cell (i := 6) rfl
  have c7 := HS.out.cell (i := 7) rfl
  have f0 := HS.out.free (i := 0)
  have f1 := HS.out.free (i := 1)
  have f2 := HS.out.free (i := 2)
  have f3 := HS.out.free (i := 3)
  have f4 := HS.out.free (i := 4)
  have f5 := HS.out.free (i := 5)
  have f6 := HS.out.free (i := 6)
  have f7 := HS.out.free (i := 7)
  have lc := HS.out.lt
  go_wp2
  clear c0 c1 c2 c3 c4 c5 c6 c7 f0 f1 f2 f3 f4 f5 f6 f7 lc HS
  have d0 := G.out.cell (i := 0) rfl
  have d1 := G.out.cell (i := 1) rfl
  have d2 := G.out.cell (i := 2) rfl
  have d3 := G.out.cell (i := 3) rfl
  have d4 := G.out.cell (i := 4) rfl
  have d5 := G.out.cell (i := 5) rfl
  have d6 := G.out.cell (i := 6) rfl
  have d7 := G.out.cell (i := 7) rfl
  rw [HB1.out]
  refine bodyPost_ret (v := smallF.val ⟨.slice (some ⟨b1, 0, none⟩) 1 1, .slice none 0 0, .slice none 0 0, .slice none 0 0, .slice (some ⟨b1 + 1, 0, none⟩) 2 2⟩) (by unfold results smallF; go_simp) rfl ?_
  exact ⟨_, rfl, small_rd G.out.r, G.out.r.r.r.toExt⟩
end Go.Proofs.Ytembknlhocijkaa
