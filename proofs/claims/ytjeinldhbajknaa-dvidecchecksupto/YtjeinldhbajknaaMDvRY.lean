import Derived.Test.YtjeinldhbajknaaMDvRV
/-
  The document's Last. Conditions: those that each theorem names.
-/
namespace Go.Proofs.Ytjeinldhbajknaa
open Go.RowKit Go.Sp Go.Conc
variable {W w w' : World} {A : HProp}

abbrev rtC (a b c d e : Int) : Array Value := #[.int .i64 a, .int .i64 b, .int .i64 c, .int .i64 d, .int .i64 e]
set_option maxRecDepth 100000 in
set_option maxHeartbeats 4000000 in
theorem lastR_any {v : Value} {l : List UInt8} (hv : ∀ w', Sat W A w' → Rd w' v l.length 1 (l.map byteV)) (hcap : ∀ a n c, v = .slice a n c → l.length ≤ c) (h : Sat W A w) :
    Calls Try.prog 18 #[v] w fun e w' => e = .returned (.tuple #[tailV (postM l), .int .i64 (errM l)]) ∧ Sat W A w' := by
  have hx := h.alloc (.cells (rtC 0 0 0 0 0) 51)
  obtain ⟨b2, hb2⟩ : ∃ b2, w.heap.size = b2 := ⟨_, rfl⟩
  obtain ⟨W1, hW1⟩ : ∃ W1, w.alloc (.cells (rtC 0 0 0 0 0) 51) = W1 := ⟨_, rfl⟩
  rw [hb2, hW1] at hx
  have HW := Lib.hid (wholeR_any (fun w' h => hv w' h.r) hcap hx)
  have HW1 := Lib.hid hW1
  clear hv hcap h hx hW1
  go_enter Try.func18, Try.ntmps18
  go_wp2_with fail
  rw [HW1.out]
  with_reducible refine Calls.mono HW.out ?_
  clear HW HW1 hb2
  rintro e w2 (⟨hbig, cs, ⟨s, dv, av, pv, tv, ⟨⟨w1, w3, w4, rfl⟩, ⟨w5, w6, w7, rfl⟩, ⟨w8, w9, w10, rfl⟩, ⟨w11, w12, w13, rfl⟩⟩, rfl⟩, rfl, h2⟩ | ⟨hle, hn, cs, ⟨s, dv, av, pv, tv, ⟨⟨w1, w3, w4, rfl⟩, ⟨w5, w6, w7, rfl⟩, ⟨w8, w9, w10, rfl⟩, ⟨w11, w12, w13, rfl⟩⟩, rfl⟩, rfl, h2⟩ | ⟨hle, os, s, V, oa, oc, dv, av, pv, tv, hs, hmap, hin, hfit, rfl, h2⟩)
  · obtain ⟨r1, -, -, r2⟩ := res_big hbig
    have HE := Lib.hid r1
    have HP := Lib.hid r2
    clear hbig r1 r2
    obtain ⟨W3, hW3⟩ : ∃ W3, w2.alloc (.cells (stC s (.slice w1 w3 w4) (.slice w5 w6 w7) (.slice w8 w9 w10) (.slice w11 w12 w13)) 80) = W3 := ⟨_, rfl⟩
    have HW3 := Lib.hid hW3
    have H3 := Lib.hid (show Sat W (pts b2 (.cells (rtC 0 0 0 0 0) 51) * A) W3 from hW3 ▸ h2.allocD)
    clear hW3 h2
    go_upto_region 2 with fail
    rw [HW3.out]
    have c0 := H3.out.cell (i := 0) rfl
    have c1 := H3.out.cell (i := 1) rfl
    have c2 := H3.out.cell (i := 2) rfl
    have c3 := H3.out.cell (i := 3) rfl
    have c4 := H3.out.cell (i := 4) rfl
    have f0 := H3.out.free (i := 0)
    have f1 := H3.out.free (i := 1)
    have f2 := H3.out.free (i := 2)
    have f3 := H3.out.free (i := 3)
    have f4 := H3.out.free (i := 4)
    have lb := H3.out.lt
    go_wp2
    have h5 := ((((H3.out.set (i := 0) (v := .int .i64 0)).set (i := 1) (v := .int .i64 0)).set (i := 2) (v := .int .i64 0)).set (i := 3) (v := .int .i64 0)).set (i := 4) (v := .int .i64 0)
    clear c0 c1 c2 c3 c4 f0 f1 f2 f3 f4 lb
    obtain ⟨W5, hW5⟩ : ∃ W5, ((((W3.setCell ⟨b2, 0, none⟩ (.int .i64 0)).setCell ⟨b2, 1, none⟩ (.int .i64 0)).setCell ⟨b2, 2, none⟩ (.int .i64 0)).setCell ⟨b2, 3, none⟩ (.int .i64 0)).setCell ⟨b2, 4, none⟩ (.int .i64 0) = W5 := ⟨_, rfl⟩
    rw [hW5] at h5 ⊢
    have h6 : Sat W (pts b2 (.cells (rtC 0 0 0 0 0) 51) * A) W5 := h5
    have c0 := h6.cell (i := 0) rfl
    have c1 := h6.cell (i := 1) rfl
    have c2 := h6.cell (i := 2) rfl
    have c3 := h6.cell (i := 3) rfl
    have c4 := h6.cell (i := 4) rfl
    have hl := h6.lt
    clear hW5 h5
    refine bodyPost_ret (v := .tuple #[.agg (rtC 0 0 0 0 0), .int .i64 6]) (by unfold results; go_simp) rfl ⟨?_, h6.r⟩
    rw [HE.out, HP.out]; rfl
  · obtain ⟨r1, -, -, r2⟩ := res_none hle hn
    have HE := Lib.hid r1
    have HP := Lib.hid r2
    clear hle hn r1 r2
    obtain ⟨W3, hW3⟩ : ∃ W3, w2.alloc (.cells (stC s (.slice w1 w3 w4) (.slice w5 w6 w7) (.slice w8 w9 w10) (.slice w11 w12 w13)) 80) = W3 := ⟨_, rfl⟩
    have HW3 := Lib.hid hW3
    have H3 := Lib.hid (show Sat W (pts b2 (.cells (rtC 0 0 0 0 0) 51) * A) W3 from hW3 ▸ h2.allocD)
    clear hW3 h2
    go_upto_region 2 with fail
    rw [HW3.out]
    have c0 := H3.out.cell (i := 0) rfl
    have c1 := H3.out.cell (i := 1) rfl
    have c2 := H3.out.cell (i := 2) rfl
    have c3 := H3.out.cell (i := 3) rfl
    have c4 := H3.out.cell (i := 4) rfl
    have f0 := H3.out.free (i := 0)
    have f1 := H3.out.free (i := 1)
    have f2 := H3.out.free (i := 2)
    have f3 := H3.out.free (i := 3)
    have f4 := H3.out.free (i := 4)
    have lb := H3.out.lt
    go_wp2
    have h5 := ((((H3.out.set (i := 0) (v := .int .i64 0)).set (i := 1) (v := .int .i64 0)).set (i := 2) (v := .int .i64 0)).set (i := 3) (v := .int .i64 0)).set (i := 4) (v := .int .i64 0)
    clear c0 c1 c2 c3 c4 f0 f1 f2 f3 f4 lb
    obtain ⟨W5, hW5⟩ : ∃ W5, ((((W3.setCell ⟨b2, 0, none⟩ (.int .i64 0)).setCell ⟨b2, 1, none⟩ (.int .i64 0)).setCell ⟨b2, 2, none⟩ (.int .i64 0)).setCell ⟨b2, 3, none⟩ (.int .i64 0)).setCell ⟨b2, 4, none⟩ (.int .i64 0) = W5 := ⟨_, rfl⟩
    rw [hW5] at h5 ⊢
    have h6 : Sat W (pts b2 (.cells (rtC 0 0 0 0 0) 51) * A) W5 := h5
    have c0 := h6.cell (i := 0) rfl
    have c1 := h6.cell (i := 1) rfl
    have c2 := h6.cell (i := 2) rfl
    have c3 := h6.cell (i := 3) rfl
    have c4 := h6.cell (i := 4) rfl
    have hl := h6.lt
    clear hW5 h5
    refine bodyPost_ret (v := .tuple #[.agg (rtC 0 0 0 0 0), .int .i64 240]) (by unfold results; go_simp) rfl ⟨?_, h6.r⟩
    rw [HE.out, HP.out]; rfl
  · obtain ⟨r1, -, -, r2, r3⟩ := res_some hle hs
    have HE := Lib.hid r1
    have HP := Lib.hid r2
    obtain ⟨w1, w4, e1, -⟩ := h2.r.r.row_val
    obtain ⟨w5, w7, e2, -⟩ := h2.r.r.r.row_val
    obtain ⟨w8, w9, w10, e3⟩ := hin.1.slice (fun x hx => argsH_rd h2.r hx)
    have htm : (s.tail, tv) ∈ V := by
      rcases hin.2 with h | h
      · exact h
      · rw [h.1] at r3; cases r3
    obtain ⟨_, _, w11, w13, e4, -⟩ := argsH_rd h2.r htm
    simp only [r3] at e4
    subst e1 e2 e3 e4
    obtain ⟨W3, hW3⟩ : ∃ W3, w2.alloc (.cells (stC s (.slice w1 s.defs.length w4) (.slice w5 s.again.length w7) (.slice w8 w9 w10) (.slice w11 8 w13)) 80) = W3 := ⟨_, rfl⟩
    have HW3 := Lib.hid hW3
    have h3 := h2.alloc (.cells (stC s (.slice w1 s.defs.length w4) (.slice w5 s.again.length w7) (.slice w8 w9 w10) (.slice w11 8 w13)) 80)
    obtain ⟨b5, hb5⟩ : ∃ b5, w2.heap.size = b5 := ⟨_, rfl⟩
    rw [hW3, hb5] at h3
    have k15 := h3.cell (i := 15) rfl
    have hrd3 : Rd W3 (.slice w11 8 w13) s.tail.args.length 1 (intsL s.tail.args) := argsH_rd h3.r.r htm
    obtain ⟨gp, po, hap, q3⟩ := rd_arg hrd3 3 (by rw [r3]; omega)
    subst hap
    obtain ⟨g', off', hap, q4⟩ := rd_arg hrd3 4 (by rw [r3]; omega)
    cases hap
    obtain ⟨g', off', hap, q5⟩ := rd_arg hrd3 5 (by rw [r3]; omega)
    cases hap
    obtain ⟨g', off', hap, q6⟩ := rd_arg hrd3 6 (by rw [r3]; omega)
    cases hap
    obtain ⟨g', off', hap, q7⟩ := rd_arg hrd3 7 (by rw [r3]; omega)
    cases hap
    have HEX := Lib.hid (Ext.refl W3).drew
    have H3 := Lib.hid (show Sat W (pts b2 (.cells (rtC 0 0 0 0 0) 51) * A) W3 from h3.r.r.r.r.r)
    obtain ⟨p3, hp3⟩ : ∃ x, s.tail.args.getD 3 0 = x := ⟨_, rfl⟩
    obtain ⟨p4, hp4⟩ : ∃ x, s.tail.args.getD 4 0 = x := ⟨_, rfl⟩
    obtain ⟨p5, hp5⟩ : ∃ x, s.tail.args.getD 5 0 = x := ⟨_, rfl⟩
    obtain ⟨p6, hp6⟩ : ∃ x, s.tail.args.getD 6 0 = x := ⟨_, rfl⟩
    obtain ⟨p7, hp7⟩ : ∃ x, s.tail.args.getD 7 0 = x := ⟨_, rfl⟩
    have HPS := Lib.hid (show tailV (postM l) = .agg (rtC p3 p4 p5 p6 p7) by
      rw [HP.out]
      unfold tailV
      rw [hp3, hp4, hp5, hp6, hp7])
    rw [hp3] at q3
    rw [hp4] at q4
    rw [hp5] at q5
    rw [hp6] at q6
    rw [hp7] at q7
    clear hle hs hmap hin hfit h2 r1 r2 r3 hrd3 htm hW3 h3 hp3 hp4 hp5 hp6 hp7
    go_upto_region 5 with fail
    rw [HW3.out]
    have g3 := HEX.out.cell q3
    have g4 := HEX.out.cell q4
    have g5 := HEX.out.cell q5
    have g6 := HEX.out.cell q6
    have g7 := HEX.out.cell q7
    have h4 := H3.out.drew
    clear q3 q4 q5 q6 q7 k15 H3 hb5 HW3
    obtain ⟨W9, hW9⟩ : ∃ W9, W3.drew = W9 := ⟨_, rfl⟩
    rw [hW9] at h4 g3 g4 g5 g6 g7
    have H3 := Lib.hid h4
    clear h4 HEX
    refine wp_region_tail (fun w' => w' = W9) 16 (by kernel_rfl) (by kernel_rfl) hW9 ?_
    simp only [List.take_succ_cons, List.take_zero, List.drop_succ_cons, List.drop_zero]
    clear hW9
    iterate 16
      with_reducible refine wpQuiet_val (v := ?_) ?_
      rotate_left 1
      intro K hK
      refine ⟨by kernel_rfl, fun w9 hw9 => ?_, ?_⟩
      · subst hw9; go_simp; try with_reducible rfl
      go_simp
      with_reducible refine hK _ ?_
      clear hK K
    refine wpQuiet_nil ?_
    clear g3 g4 g5 g6 g7
    rintro w17 rfl
    have c0 := H3.out.cell (i := 0) rfl
    have c1 := H3.out.cell (i := 1) rfl
    have c2 := H3.out.cell (i := 2) rfl
    have c3 := H3.out.cell (i := 3) rfl
    have c4 := H3.out.cell (i := 4) rfl
    have f0 := H3.out.free (i := 0)
    have f1 := H3.out.free (i := 1)
    have f2 := H3.out.free (i := 2)
    have f3 := H3.out.free (i := 3)
    have f4 := H3.out.free (i := 4)
    have lb := H3.out.lt
    go_wp2
    have h5 := ((((H3.out.set (i := 0) (v := .int .i64 p3)).set (i := 1) (v := .int .i64 p4)).set (i := 2) (v := .int .i64 p5)).set (i := 3) (v := .int .i64 p6)).set (i := 4) (v := .int .i64 p7)
    clear c0 c1 c2 c3 c4 f0 f1 f2 f3 f4 lb
    obtain ⟨W5, hW5⟩ : ∃ W5, ((((w17.setCell ⟨b2, 0, none⟩ (.int .i64 p3)).setCell ⟨b2, 1, none⟩ (.int .i64 p4)).setCell ⟨b2, 2, none⟩ (.int .i64 p5)).setCell ⟨b2, 3, none⟩ (.int .i64 p6)).setCell ⟨b2, 4, none⟩ (.int .i64 p7) = W5 := ⟨_, rfl⟩
    rw [hW5] at h5 ⊢
    have h6 : Sat W (pts b2 (.cells (rtC p3 p4 p5 p6 p7) 51) * A) W5 := h5
    have c0 := h6.cell (i := 0) rfl
    have c1 := h6.cell (i := 1) rfl
    have c2 := h6.cell (i := 2) rfl
    have c3 := h6.cell (i := 3) rfl
    have c4 := h6.cell (i := 4) rfl
    have hl := h6.lt
    clear hW5 h5
    refine bodyPost_ret (v := .tuple #[.agg (rtC p3 p4 p5 p6 p7), .int .i64 0]) (by unfold results; go_simp) rfl ⟨?_, h6.r⟩
    rw [HPS.out, HE.out]

end Go.Proofs.Ytjeinldhbajknaa
