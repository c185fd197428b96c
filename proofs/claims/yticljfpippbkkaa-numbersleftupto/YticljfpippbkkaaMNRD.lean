import Derived.Test.YticljfpippbkkaaMNRA
import Derived.Deep.LoopGhost
import Derived.Test.YticljfpippbkkaaMTM
import Derived.Great.BuildSlice
/-
  The document's table, of one state: a register gets a value. Conditions: those that each theorem names.
-/
namespace Go.Proofs.Yticljfpippbkkaa
open Go.RowKit Go.Sp
variable {W w w' : World} {F A : HProp}

theorem stReg_at {bs : Nat} {nv : Value} {R : Nat → RegV} (h : Sat W (pts bs (.cells (stCells nv R) 132) * A) w) {j : Nat} (hj : j < 1536) (o : Nat) (ho : o < 7) :
    ∃ x, w.cell? ⟨bs, 2 + j * 7 + o, none⟩ = some x ∧ w.frozen? ⟨bs, 2 + j * 7 + o, none⟩ = false := by
  have h1 := st_reg nv R hj ho
  cases hc : (R j).cells[o]? with
  | none =>
    have : (R j).cells.length ≤ o := List.getElem?_eq_none_iff.1 hc
    simp [RegV.cells] at this
    omega
  | some x => exact ⟨x, h.cell (h1.trans hc), h.free⟩
/-- a register of the document's table gets a value -/
theorem put_endR {b bs : Nat} {nv u : Value} {NL : List (ByteArray × Mean)} {S : Nat → RegS} {m : Nat → Option Obj} {R : Nat → RegV} {v : RegS} {c i : Nat} (hc : c ≤ 5) (hi : i < 256) (hl : v.toks.length ≤ 20000)
    (hT : ∀ j, j < 1536 → Rep m (R j) (S j) ∧ (S j).toks.length ≤ 20000)
    (h : Sat W (pts bs (.cells (stCells nv R) 132) * (rowT u v.toks * (roH m * (pts b (rtO bs) * (rowN nv NL * F))))) w) :
    RfAt W F b ⟨NL, setS S (c * 256 + i) v⟩ (((((((w.setCell ⟨bs, 2 + c * 1792 + i * 7, none⟩ (.int .i64 v.n)).setCell ⟨bs, 2 + c * 1792 + i * 7 + 1, none⟩ (.int .i64 v.g.nat)).setCell ⟨bs, 2 + c * 1792 + i * 7 + 2, none⟩ (.int .i64 v.g.stretch)).setCell ⟨bs, 2 + c * 1792 + i * 7 + 3, none⟩ (.int .i64 v.g.shrink)).setCell ⟨bs, 2 + c * 1792 + i * 7 + 4, none⟩ (.int .i64 v.g.so)).setCell ⟨bs, 2 + c * 1792 + i * 7 + 5, none⟩ (.int .i64 v.g.ko)).setCell ⟨bs, 2 + c * 1792 + i * 7 + 6, none⟩ u) := by
  have hj : c * 256 + i < 1536 := by omega
  have e : 2 + c * 1792 + i * 7 = 2 + (c * 256 + i) * 7 := by omega
  have h2 := ((((((h.set (i := 2 + c * 1792 + i * 7) (v := .int .i64 v.n)).set (i := 2 + c * 1792 + i * 7 + 1) (v := .int .i64 v.g.nat)).set (i := 2 + c * 1792 + i * 7 + 2) (v := .int .i64 v.g.stretch)).set (i := 2 + c * 1792 + i * 7 + 3) (v := .int .i64 v.g.shrink)).set (i := 2 + c * 1792 + i * 7 + 4) (v := .int .i64 v.g.so)).set (i := 2 + c * 1792 + i * 7 + 5) (v := .int .i64 v.g.ko)).set (i := 2 + c * 1792 + i * 7 + 6) (v := u)
  have h3 := st_set_reg nv R (c * 256 + i) hj ⟨v.n, v.g, u⟩
  simp only [RegV.at] at h3
  rw [← e] at h3
  rw [h3] at h2
  have h4 := h2.of_eq (show _ = rowT u v.toks * (roH m * (pts bs (.cells (stCells nv (setR R (c * 256 + i) ⟨v.n, v.g, u⟩)) 132) * (pts b (rtO bs) * (rowN nv NL * F)))) by ac_rfl)
  obtain ⟨m', h5, hm, hr⟩ := h4.row_stays
  refine ⟨m', bs, nv, setR R (c * 256 + i) ⟨v.n, v.g, u⟩, fun j hj => ?_, h5.of_eq (by ac_rfl)⟩
  by_cases hjj : j = c * 256 + i
  · subst hjj
    simp only [setR, setS, if_true]
    exact ⟨⟨rfl, rfl, hr⟩, hl⟩
  · simp only [setR, setS, if_neg hjj]
    exact ⟨(hT j hj).1.mono hm, (hT j hj).2⟩
theorem set7w {b : Nat} {cs : Array Value} {e : TypeId} {f : Nat × Nat} (h : Sat W (pts b (.cells cs e f) * A) w) (i0 i1 i2 i3 i4 i5 i6 : Nat) (b0 b1 b2 b3 b4 b5 b6 : Value) :
    ∃ cs', Sat W (pts b (.cells cs' e f) * A) (((((((w.setCell ⟨b, i0, none⟩ b0).setCell ⟨b, i1, none⟩ b1).setCell ⟨b, i2, none⟩ b2).setCell ⟨b, i3, none⟩ b3).setCell ⟨b, i4, none⟩ b4).setCell ⟨b, i5, none⟩ b5).setCell ⟨b, i6, none⟩ b6) :=
  ⟨_, ((((((h.set (i := i0) (v := b0)).set (i := i1) (v := b1)).set (i := i2) (v := b2)).set (i := i3) (v := b3)).set (i := i4) (v := b4)).set (i := i5) (v := b5)).set (i := i6) (v := b6)⟩
set_option maxRecDepth 100000 in
set_option maxHeartbeats 8000000 in
/-- put, in the one state that there is; no tokens -/
theorem putR_any {b : Nat} {S : RfS} {c i : Nat} (n : Int) (g : Gl) (hc : c ≤ 5) (hi : i < 256) (h : RfAt W F b S w) :
    Calls Try.prog 67 #[.pointer (some ⟨b, 0, none⟩), .int .i64 c, .int .i64 i, valV n g (.slice none 0 0), .bool false] w fun e w' => e = .returned (.tuple #[]) ∧ RfAt W F b ⟨S.names, setS S.regs (c * 256 + i) ⟨n, g, []⟩⟩ w' := by
  obtain ⟨g1, g2, g3, g4, g5⟩ := g
  obtain ⟨m, bs, nv, R, hT, hs⟩ := h
  have HT := Lib.hid hT
  obtain ⟨b8, hb8⟩ : ∃ b8, w.heap.size = b8 := ⟨_, rfl⟩
  have h1 := (hs.alloc (valO15 n ⟨g1, g2, g3, g4, g5⟩ (.slice (some ⟨b8 + 1, 0, none⟩) 0 0)))
  have h2 := ((h1.alloc (.cells #[] 28)).row_whole 0 (size := 3) (by simp [maxLen]) (by simp)).of_eq (show _ = rowT (.slice (some ⟨(w.alloc (valO15 n ⟨g1, g2, g3, g4, g5⟩ (.slice (some ⟨b8 + 1, 0, none⟩) 0 0))).heap.size, 0, none⟩) 0 0) [] * _ from rfl)
  rw [World.size_alloc, hb8] at h2
  obtain ⟨w1, hw1⟩ : ∃ w1, (w.alloc (valO15 n ⟨g1, g2, g3, g4, g5⟩ (.slice (some ⟨b8 + 1, 0, none⟩) 0 0))).alloc (.cells #[] 28) = w1 := ⟨_, rfl⟩
  rw [hw1] at h2
  have H2 := Lib.hid h2
  clear hs hT h1 h2
  go_enter Try.func67, Try.ntmps67
  go_upto_region 2 with fail
  (try rw [hw1])
  obtain ⟨b9, hb9⟩ : ∃ b9, b8 + 1 = b9 := ⟨_, rfl⟩
  rw [hb9] at H2
  (try rw [hb9])
  clear hb8 hw1 hb9
  go_wp2_with fail
  go_loopg [10] 1 (fun gg s10 wx => (gg = 1 ∧ s10 = .int .i64 0 ∧ wx = w1) ∨ (gg = 0 ∧ s10 = .int .i64 1 ∧ RfAt W F b ⟨S.names, setS S.regs (c * 256 + i) ⟨n, ⟨g1, g2, g3, g4, g5⟩, []⟩⟩ wx))
  case atStart => exact .inl ⟨rfl, rfl, rfl⟩
  case round =>
    rcases hrel with ⟨hg, rfl, rfl⟩ | ⟨hg, rfl, hx⟩
    · have hs := H2.out.of_eq (show _ = pts b (rtO bs) * (pts bs (.cells (stCells nv R) 132) * (pts b8 (valO15 n ⟨g1, g2, g3, g4, g5⟩ (.slice (some ⟨b9, 0, none⟩) 0 0)) * (rowT (.slice (some ⟨b9, 0, none⟩) 0 0) [] * (rowN nv S.names * (roH m * F))))) by ac_rfl)
      have c0 := hs.cell (i := 0) rfl
      have lb := hs.lt
      go_upto_region 6 with fail
      have h9 := hs.drew
      obtain ⟨W9, hW9⟩ : ∃ W9, wr.drew = W9 := ⟨_, rfl⟩
      rw [hW9] at h9
      clear c0 lb hs
      have hj : c * 256 + i < 1536 := by omega
      have ea : 2 + (c * 256 + i) * 7 = 2 + c * 1792 + i * 7 := by omega
      obtain ⟨x0, y0, f0⟩ := stReg_at h9.r hj 0 (by omega)
      obtain ⟨x1, y1, f1⟩ := stReg_at h9.r hj 1 (by omega)
      obtain ⟨x2, y2, f2⟩ := stReg_at h9.r hj 2 (by omega)
      obtain ⟨x3, y3, f3⟩ := stReg_at h9.r hj 3 (by omega)
      obtain ⟨x4, y4, f4⟩ := stReg_at h9.r hj 4 (by omega)
      obtain ⟨x5, y5, f5⟩ := stReg_at h9.r hj 5 (by omega)
      obtain ⟨x6, y6, f6⟩ := stReg_at h9.r hj 6 (by omega)
      rw [ea] at y0 f0 y1 f1 y2 f2 y3 f3 y4 f4 y5 f5 y6 f6
      simp only [Nat.add_zero] at y0 f0
      have ls := h9.r.lt
      have i1 : (c : Int) < 6 := by omega
      have i2 : (i : Int) < 256 := by omega
      obtain ⟨C, hC⟩ : ∃ C : World → Prop, C = fun w' => ∃ X, Sat W (pts b (rtO bs) * (pts b8 (valO15 n ⟨g1, g2, g3, g4, g5⟩ (.slice (some ⟨b9, 0, none⟩) 0 0)) * X)) w' := ⟨_, rfl⟩
      have HCC := Lib.hid (show ∀ w', C w' → w'.cell? ⟨b, 0, none⟩ = some (.slice (some ⟨bs, 0, none⟩) 1 1) ∧ b < w'.heap.size ∧ w'.cell? ⟨b8, 0, none⟩ = some (.int .i64 n) ∧ w'.cell? ⟨b8, 1, none⟩ = some (.int .i64 g1) ∧ w'.cell? ⟨b8, 2, none⟩ = some (.int .i64 g2) ∧ w'.cell? ⟨b8, 3, none⟩ = some (.int .i64 g3) ∧ w'.cell? ⟨b8, 4, none⟩ = some (.int .i64 g4) ∧ w'.cell? ⟨b8, 5, none⟩ = some (.int .i64 g5) ∧ w'.cell? ⟨b8, 6, none⟩ = some (.slice (some ⟨b9, 0, none⟩) 0 0) from fun w' h => by
        rw [hC] at h
        obtain ⟨X, h⟩ := h
        exact ⟨h.cell rfl, h.lt, h.r.cell rfl, h.r.cell rfl, h.r.cell rfl, h.r.cell rfl, h.r.cell rfl, h.r.cell rfl, h.r.cell rfl⟩)
      have hc9 : C W9 := by
        rw [hC]
        exact ⟨_, h9.of_eq (show _ = pts b (rtO bs) * (pts b8 (valO15 n ⟨g1, g2, g3, g4, g5⟩ (.slice (some ⟨b9, 0, none⟩) 0 0)) * (pts bs (.cells (stCells nv R) 132) * (rowT (.slice (some ⟨b9, 0, none⟩) 0 0) [] * (rowN nv S.names * (roH m * F))))) by ac_rfl)⟩
      have h10 := h9.of_eq (show _ = pts b8 (valO15 n ⟨g1, g2, g3, g4, g5⟩ (.slice (some ⟨b9, 0, none⟩) 0 0)) * (pts bs (.cells (stCells nv R) 132) * (rowT (.slice (some ⟨b9, 0, none⟩) 0 0) [] * (roH m * (pts b (rtO bs) * (rowN nv S.names * F))))) by ac_rfl)
      have hpe := put_endR (v := ⟨n, ⟨g1, g2, g3, g4, g5⟩, []⟩) (u := .slice (some ⟨b9, 0, none⟩) 0 0) hc hi (by simp) HT.out (F := pts b8 (valO15 n ⟨g1, g2, g3, g4, g5⟩ (.slice (some ⟨b9, 0, none⟩) 0 0)) * F) (h10.of_eq (show _ = pts bs (.cells (stCells nv R) 132) * (rowT (.slice (some ⟨b9, 0, none⟩) 0 0) [] * (roH m * (pts b (rtO bs) * (rowN nv S.names * (pts b8 (valO15 n ⟨g1, g2, g3, g4, g5⟩ (.slice (some ⟨b9, 0, none⟩) 0 0)) * F))))) by ac_rfl))
      simp only at hpe
      have HPE := Lib.hid hpe
      have HC9 := Lib.hid hc9
      obtain ⟨cs', hz⟩ := set7w (h10.of_eq (show _ = pts bs (.cells (stCells nv R) 132) * (pts b (rtO bs) * (pts b8 (valO15 n ⟨g1, g2, g3, g4, g5⟩ (.slice (some ⟨b9, 0, none⟩) 0 0)) * (rowT (.slice (some ⟨b9, 0, none⟩) 0 0) [] * (roH m * (rowN nv S.names * F))))) by ac_rfl)) (2 + c * 1792 + i * 7) (2 + c * 1792 + i * 7 + 1) (2 + c * 1792 + i * 7 + 2) (2 + c * 1792 + i * 7 + 3) (2 + c * 1792 + i * 7 + 4) (2 + c * 1792 + i * 7 + 5) (2 + c * 1792 + i * 7 + 6) (.int .i64 n) (.int .i64 g1) (.int .i64 g2) (.int .i64 g3) (.int .i64 g4) (.int .i64 g5) (.slice (some ⟨b9, 0, none⟩) 0 0)
      have hcz : C (((((((W9.setCell ⟨bs, 2 + c * 1792 + i * 7, none⟩ (.int .i64 n)).setCell ⟨bs, 2 + c * 1792 + i * 7 + 1, none⟩ (.int .i64 g1)).setCell ⟨bs, 2 + c * 1792 + i * 7 + 2, none⟩ (.int .i64 g2)).setCell ⟨bs, 2 + c * 1792 + i * 7 + 3, none⟩ (.int .i64 g3)).setCell ⟨bs, 2 + c * 1792 + i * 7 + 4, none⟩ (.int .i64 g4)).setCell ⟨bs, 2 + c * 1792 + i * 7 + 5, none⟩ (.int .i64 g5)).setCell ⟨bs, 2 + c * 1792 + i * 7 + 6, none⟩ (.slice (some ⟨b9, 0, none⟩) 0 0)) := by
        rw [hC]
        exact ⟨_, hz.of_eq (show _ = pts b (rtO bs) * (pts b8 (valO15 n ⟨g1, g2, g3, g4, g5⟩ (.slice (some ⟨b9, 0, none⟩) 0 0)) * (pts bs (.cells cs' 132) * (rowT (.slice (some ⟨b9, 0, none⟩) 0 0) [] * (roH m * (rowN nv S.names * F))))) by ac_rfl)⟩
      have HCZ := Lib.hid hcz
      clear hz hcz
      clear h9 h10 hpe hC hc9
      refine wp_region_C C (by kernel_rfl) ?_
      rw [hW9]
      refine wpC_take (i := 0) (v := ?_) rfl (by kernel_rfl) (by kernel_rfl) (by kernel_rfl) (fun _ _ _ h => h) (by rfl) ?_ ?_
      rotate_left 1
      · intro w hw; (obtain ⟨c0, lb, d0, d1, d2, d3, d4, d5, d6⟩ := HCC.out _ hw; go_simp; try with_reducible rfl)
      refine wpC_take (i := 1) (v := ?_) rfl (by kernel_rfl) (by kernel_rfl) (by kernel_rfl) (fun _ _ _ h => h) (by rfl) ?_ ?_
      rotate_left 1
      · intro w hw; (obtain ⟨c0, lb, d0, d1, d2, d3, d4, d5, d6⟩ := HCC.out _ hw; go_simp; try with_reducible rfl)
      refine wpC_take (i := 2) (v := ?_) rfl (by kernel_rfl) (by kernel_rfl) (by kernel_rfl) (fun _ _ _ h => h) (by rfl) ?_ ?_
      rotate_left 1
      · intro w hw; (obtain ⟨c0, lb, d0, d1, d2, d3, d4, d5, d6⟩ := HCC.out _ hw; go_simp; try with_reducible rfl)
      refine wpC_take (i := 3) (v := ?_) rfl (by kernel_rfl) (by kernel_rfl) (by kernel_rfl) (fun _ _ _ h => h) (by rfl) ?_ ?_
      rotate_left 1
      · intro w hw; (obtain ⟨c0, lb, d0, d1, d2, d3, d4, d5, d6⟩ := HCC.out _ hw; go_simp; try with_reducible rfl)
      refine wpC_take (i := 4) (v := ?_) rfl (by kernel_rfl) (by kernel_rfl) (by kernel_rfl) (fun _ _ _ h => h) (by rfl) ?_ ?_
      rotate_left 1
      · intro w hw; (obtain ⟨c0, lb, d0, d1, d2, d3, d4, d5, d6⟩ := HCC.out _ hw; go_simp; try with_reducible rfl)
      refine wpC_take (i := 5) (v := ?_) rfl (by kernel_rfl) (by kernel_rfl) (by kernel_rfl) (fun _ _ _ h => h) (by rfl) ?_ ?_
      rotate_left 1
      · intro w hw; (obtain ⟨c0, lb, d0, d1, d2, d3, d4, d5, d6⟩ := HCC.out _ hw; go_simp; try with_reducible rfl)
      refine wpC_take (i := 6) (v := ?_) rfl (by kernel_rfl) (by kernel_rfl) (by kernel_rfl) (fun _ _ _ h => h) (by rfl) ?_ ?_
      rotate_left 1
      · intro w hw; (obtain ⟨c0, lb, d0, d1, d2, d3, d4, d5, d6⟩ := HCC.out _ hw; go_simp; try with_reducible rfl)
      refine wpC_take (i := 7) (v := ?_) rfl (by kernel_rfl) (by kernel_rfl) (by kernel_rfl) (fun _ _ _ h => h) (by rfl) ?_ ?_
      rotate_left 1
      · intro w hw; (obtain ⟨c0, lb, d0, d1, d2, d3, d4, d5, d6⟩ := HCC.out _ hw; go_simp; try with_reducible rfl)
      refine wpC_take (i := 8) (v := ?_) rfl (by kernel_rfl) (by kernel_rfl) (by kernel_rfl) (fun _ _ _ h => h) (by rfl) ?_ ?_
      rotate_left 1
      · intro w hw; (obtain ⟨c0, lb, d0, d1, d2, d3, d4, d5, d6⟩ := HCC.out _ hw; go_simp; try with_reducible rfl)
      refine wpC_take (i := 9) (v := ?_) rfl (by kernel_rfl) (by kernel_rfl) (by kernel_rfl) (fun _ _ _ h => h) (by rfl) ?_ ?_
      rotate_left 1
      · intro w hw; (obtain ⟨c0, lb, d0, d1, d2, d3, d4, d5, d6⟩ := HCC.out _ hw; go_simp; try with_reducible rfl)
      refine wpC_take (i := 10) (v := ?_) rfl (by kernel_rfl) (by kernel_rfl) (by kernel_rfl) (fun _ _ _ h => h) (by rfl) ?_ ?_
      rotate_left 1
      · intro w hw; (obtain ⟨c0, lb, d0, d1, d2, d3, d4, d5, d6⟩ := HCC.out _ hw; go_simp; try with_reducible rfl)
      refine wpC_take (i := 11) (v := ?_) rfl (by kernel_rfl) (by kernel_rfl) (by kernel_rfl) (fun _ _ _ h => h) (by rfl) ?_ ?_
      rotate_left 1
      · intro w hw; (obtain ⟨c0, lb, d0, d1, d2, d3, d4, d5, d6⟩ := HCC.out _ hw; go_simp; try with_reducible rfl)
      refine wpC_one (i := 12) rfl (by kernel_rfl) (HC9.out) (fun K hK => ?_)
      go_simp
      obtain ⟨WZ, hWZ⟩ : ∃ WZ, (((((((W9.setCell ⟨bs, 2 + c * 1792 + i * 7, none⟩ (.int .i64 n)).setCell ⟨bs, 2 + c * 1792 + i * 7 + 1, none⟩ (.int .i64 g1)).setCell ⟨bs, 2 + c * 1792 + i * 7 + 2, none⟩ (.int .i64 g2)).setCell ⟨bs, 2 + c * 1792 + i * 7 + 3, none⟩ (.int .i64 g3)).setCell ⟨bs, 2 + c * 1792 + i * 7 + 4, none⟩ (.int .i64 g4)).setCell ⟨bs, 2 + c * 1792 + i * 7 + 5, none⟩ (.int .i64 g5)).setCell ⟨bs, 2 + c * 1792 + i * 7 + 6, none⟩ (.slice (some ⟨b9, 0, none⟩) 0 0)) = WZ := ⟨_, rfl⟩
      rw [hWZ] at HPE HCZ
      rw [hWZ]
      refine hK _ _ ?_
      clear hK K hWZ hW9 y0 y1 y2 y3 y4 y5 y6 f0 f1 f2 f3 f4 f5 f6
      refine wpC_done (by kernel_rfl) (HCZ.out) ?_
      have HP2 := Lib.hid HPE.out.less
      clear HPE HCZ HC9 HCC ls
      go_wp2
      go_roundg 0
      case measure => omega
      case rel => exact .inr ⟨rfl, by go_num, HP2.out⟩
    · have HX := Lib.hid hx
      clear hx H2
      obtain ⟨m2, bs2, nv2, R2, hT2, hs2⟩ := HX.out
      have c0 := hs2.cell (i := 0) rfl
      have lb := hs2.lt
      clear hT2 hs2
      go_wp2
      go_end0
      exact ⟨rfl, HX.out⟩

set_option maxRecDepth 100000 in
set_option maxHeartbeats 4000000 in
theorem setR1_any {b : Nat} {S : RfS} {i : Nat} (n : Int) (g : Gl) (hi : i < 256) (h : RfAt W F b S w) :
    Calls Try.prog 42 #[.pointer (some ⟨b, 0, none⟩), .int .i64 1, .int .i64 i, valV n g (.slice none 0 0), .bool false] w fun e w' => e = .returned (.int .i64 (if valR 1 n g = true then 0 else 1)) ∧
      RfAt W F b (if valR 1 n g = true then ⟨S.names, setS S.regs (1 * 256 + i) ⟨n, g, []⟩⟩ else S) w' := by
  obtain ⟨g1, g2, g3, g4, g5⟩ := g
  have h1 := h.alloc (valO15 n ⟨g1, g2, g3, g4, g5⟩ (.slice none 0 0))
  obtain ⟨b8, hb8⟩ : ∃ b8, w.heap.size = b8 := ⟨_, rfl⟩
  obtain ⟨w1, hw1⟩ : ∃ w1, w.alloc (valO15 n ⟨g1, g2, g3, g4, g5⟩ (.slice none 0 0)) = w1 := ⟨_, rfl⟩
  rw [hw1, hb8] at h1
  have HW := Lib.hid (wrongR_any b 1 i w1)
  rw [show wrongE 1 (i : Int) = 0 by unfold wrongE; rw [if_neg (by omega), if_neg (by omega)]] at HW
  have HV := Lib.hid (value1_any n ⟨g1, g2, g3, g4, g5⟩ w1)
  have HP := Lib.hid (fun w (h : RfAt W (pts b8 (valO15 n ⟨g1, g2, g3, g4, g5⟩ (.slice none 0 0)) * F) b S w) => putR_any (c := 1) n ⟨g1, g2, g3, g4, g5⟩ (by omega) hi h)
  have H1 := Lib.hid h1
  obtain ⟨v, hv⟩ : ∃ v, valR 1 n ⟨g1, g2, g3, g4, g5⟩ = v := ⟨_, rfl⟩
  rw [hv] at HV
  rw [hv]
  clear h h1 hv
  cases v
  · simp only [Bool.false_eq_true, if_false]
    go_enter Try.func42, Try.ntmps42
    go_upto_region 1 with fail
    (try rw [hw1])
    (try rw [hb8])
    have d0 := H1.out.sat.cell (i := 0) rfl
    have d1 := H1.out.sat.cell (i := 1) rfl
    have d2 := H1.out.sat.cell (i := 2) rfl
    have d3 := H1.out.sat.cell (i := 3) rfl
    have d4 := H1.out.sat.cell (i := 4) rfl
    have d5 := H1.out.sat.cell (i := 5) rfl
    have d6 := H1.out.sat.cell (i := 6) rfl
    clear hw1 hb8
    go_wp2_with fail
    with_reducible refine Calls.mono HW.out ?_
    rintro e w' ⟨rfl, rfl⟩
    go_wp2_with fail
    with_reducible refine Calls.mono HV.out ?_
    rintro e w2 ⟨rfl, hx⟩
    have H2 := Lib.hid (H1.out.ext hx)
    clear hx H1
    go_wp2
    go_ret
    exact ⟨rfl, H2.out.less⟩
  · simp only [if_true]
    go_enter Try.func42, Try.ntmps42
    go_upto_region 1 with fail
    (try rw [hw1])
    (try rw [hb8])
    have d0 := H1.out.sat.cell (i := 0) rfl
    have d1 := H1.out.sat.cell (i := 1) rfl
    have d2 := H1.out.sat.cell (i := 2) rfl
    have d3 := H1.out.sat.cell (i := 3) rfl
    have d4 := H1.out.sat.cell (i := 4) rfl
    have d5 := H1.out.sat.cell (i := 5) rfl
    have d6 := H1.out.sat.cell (i := 6) rfl
    clear hw1 hb8
    go_wp2_with fail
    with_reducible refine Calls.mono HW.out ?_
    rintro e w' ⟨rfl, rfl⟩
    go_wp2_with fail
    with_reducible refine Calls.mono HV.out ?_
    rintro e w2 ⟨rfl, hx⟩
    have H2 := Lib.hid (H1.out.ext hx)
    clear hx H1 d0 d1 d2 d3 d4 d5 d6
    have d0 := H2.out.sat.cell (i := 0) rfl
    have d1 := H2.out.sat.cell (i := 1) rfl
    have d2 := H2.out.sat.cell (i := 2) rfl
    have d3 := H2.out.sat.cell (i := 3) rfl
    have d4 := H2.out.sat.cell (i := 4) rfl
    have d5 := H2.out.sat.cell (i := 5) rfl
    have d6 := H2.out.sat.cell (i := 6) rfl
    go_wp2_with fail
    with_reducible refine Calls.mono (HP.out _ H2.out) ?_
    rintro e w3 ⟨rfl, h3⟩
    have H3 := Lib.hid h3
    clear h3 H2 d0 d1 d2 d3 d4 d5 d6
    go_wp2
    go_ret
    exact ⟨rfl, H3.out.less⟩
set_option maxRecDepth 100000 in
set_option maxHeartbeats 4000000 in
theorem setR2_any {b : Nat} {S : RfS} {i : Nat} (n : Int) (g : Gl) (hi : i < 256) (h : RfAt W F b S w) :
    Calls Try.prog 42 #[.pointer (some ⟨b, 0, none⟩), .int .i64 2, .int .i64 i, valV n g (.slice none 0 0), .bool false] w fun e w' => e = .returned (.int .i64 (if valR 2 n g = true then 0 else 1)) ∧
      RfAt W F b (if valR 2 n g = true then ⟨S.names, setS S.regs (2 * 256 + i) ⟨n, g, []⟩⟩ else S) w' := by
  obtain ⟨g1, g2, g3, g4, g5⟩ := g
  have h1 := h.alloc (valO15 n ⟨g1, g2, g3, g4, g5⟩ (.slice none 0 0))
  obtain ⟨b8, hb8⟩ : ∃ b8, w.heap.size = b8 := ⟨_, rfl⟩
  obtain ⟨w1, hw1⟩ : ∃ w1, w.alloc (valO15 n ⟨g1, g2, g3, g4, g5⟩ (.slice none 0 0)) = w1 := ⟨_, rfl⟩
  rw [hw1, hb8] at h1
  have HW := Lib.hid (wrongR_any b 2 i w1)
  rw [show wrongE 2 (i : Int) = 0 by unfold wrongE; rw [if_neg (by omega), if_neg (by omega)]] at HW
  have HV := Lib.hid (value2_any n ⟨g1, g2, g3, g4, g5⟩ w1)
  have HP := Lib.hid (fun w (h : RfAt W (pts b8 (valO15 n ⟨g1, g2, g3, g4, g5⟩ (.slice none 0 0)) * F) b S w) => putR_any (c := 2) n ⟨g1, g2, g3, g4, g5⟩ (by omega) hi h)
  have H1 := Lib.hid h1
  obtain ⟨v, hv⟩ : ∃ v, valR 2 n ⟨g1, g2, g3, g4, g5⟩ = v := ⟨_, rfl⟩
  rw [hv] at HV
  rw [hv]
  clear h h1 hv
  cases v
  · simp only [Bool.false_eq_true, if_false]
    go_enter Try.func42, Try.ntmps42
    go_upto_region 1 with fail
    (try rw [hw1])
    (try rw [hb8])
    have d0 := H1.out.sat.cell (i := 0) rfl
    have d1 := H1.out.sat.cell (i := 1) rfl
    have d2 := H1.out.sat.cell (i := 2) rfl
    have d3 := H1.out.sat.cell (i := 3) rfl
    have d4 := H1.out.sat.cell (i := 4) rfl
    have d5 := H1.out.sat.cell (i := 5) rfl
    have d6 := H1.out.sat.cell (i := 6) rfl
    clear hw1 hb8
    go_wp2_with fail
    with_reducible refine Calls.mono HW.out ?_
    rintro e w' ⟨rfl, rfl⟩
    go_wp2_with fail
    with_reducible refine Calls.mono HV.out ?_
    rintro e w2 ⟨rfl, hx⟩
    have H2 := Lib.hid (H1.out.ext hx)
    clear hx H1
    go_wp2
    go_ret
    exact ⟨rfl, H2.out.less⟩
  · simp only [if_true]
    go_enter Try.func42, Try.ntmps42
    go_upto_region 1 with fail
    (try rw [hw1])
    (try rw [hb8])
    have d0 := H1.out.sat.cell (i := 0) rfl
    have d1 := H1.out.sat.cell (i := 1) rfl
    have d2 := H1.out.sat.cell (i := 2) rfl
    have d3 := H1.out.sat.cell (i := 3) rfl
    have d4 := H1.out.sat.cell (i := 4) rfl
    have d5 := H1.out.sat.cell (i := 5) rfl
    have d6 := H1.out.sat.cell (i := 6) rfl
    clear hw1 hb8
    go_wp2_with fail
    with_reducible refine Calls.mono HW.out ?_
    rintro e w' ⟨rfl, rfl⟩
    go_wp2_with fail
    with_reducible refine Calls.mono HV.out ?_
    rintro e w2 ⟨rfl, hx⟩
    have H2 := Lib.hid (H1.out.ext hx)
    clear hx H1 d0 d1 d2 d3 d4 d5 d6
    have d0 := H2.out.sat.cell (i := 0) rfl
    have d1 := H2.out.sat.cell (i := 1) rfl
    have d2 := H2.out.sat.cell (i := 2) rfl
    have d3 := H2.out.sat.cell (i := 3) rfl
    have d4 := H2.out.sat.cell (i := 4) rfl
    have d5 := H2.out.sat.cell (i := 5) rfl
    have d6 := H2.out.sat.cell (i := 6) rfl
    go_wp2_with fail
    with_reducible refine Calls.mono (HP.out _ H2.out) ?_
    rintro e w3 ⟨rfl, h3⟩
    have H3 := Lib.hid h3
    clear h3 H2 d0 d1 d2 d3 d4 d5 d6
    go_wp2
    go_ret
    exact ⟨rfl, H3.out.less⟩
set_option maxRecDepth 100000 in
set_option maxHeartbeats 4000000 in
theorem setR3_any {b : Nat} {S : RfS} {i : Nat} (n : Int) (g : Gl) (hi : i < 256) (h : RfAt W F b S w) :
    Calls Try.prog 42 #[.pointer (some ⟨b, 0, none⟩), .int .i64 3, .int .i64 i, valV n g (.slice none 0 0), .bool false] w fun e w' => e = .returned (.int .i64 (if valR 3 n g = true then 0 else 1)) ∧
      RfAt W F b (if valR 3 n g = true then ⟨S.names, setS S.regs (3 * 256 + i) ⟨n, g, []⟩⟩ else S) w' := by
  obtain ⟨g1, g2, g3, g4, g5⟩ := g
  have h1 := h.alloc (valO15 n ⟨g1, g2, g3, g4, g5⟩ (.slice none 0 0))
  obtain ⟨b8, hb8⟩ : ∃ b8, w.heap.size = b8 := ⟨_, rfl⟩
  obtain ⟨w1, hw1⟩ : ∃ w1, w.alloc (valO15 n ⟨g1, g2, g3, g4, g5⟩ (.slice none 0 0)) = w1 := ⟨_, rfl⟩
  rw [hw1, hb8] at h1
  have HW := Lib.hid (wrongR_any b 3 i w1)
  rw [show wrongE 3 (i : Int) = 0 by unfold wrongE; rw [if_neg (by omega), if_neg (by omega)]] at HW
  have HV := Lib.hid (value3_any n ⟨g1, g2, g3, g4, g5⟩ w1)
  have HP := Lib.hid (fun w (h : RfAt W (pts b8 (valO15 n ⟨g1, g2, g3, g4, g5⟩ (.slice none 0 0)) * F) b S w) => putR_any (c := 3) n ⟨g1, g2, g3, g4, g5⟩ (by omega) hi h)
  have H1 := Lib.hid h1
  obtain ⟨v, hv⟩ : ∃ v, valR 3 n ⟨g1, g2, g3, g4, g5⟩ = v := ⟨_, rfl⟩
  rw [hv] at HV
  rw [hv]
  clear h h1 hv
  cases v
  · simp only [Bool.false_eq_true, if_false]
    go_enter Try.func42, Try.ntmps42
    go_upto_region 1 with fail
    (try rw [hw1])
    (try rw [hb8])
    have d0 := H1.out.sat.cell (i := 0) rfl
    have d1 := H1.out.sat.cell (i := 1) rfl
    have d2 := H1.out.sat.cell (i := 2) rfl
    have d3 := H1.out.sat.cell (i := 3) rfl
    have d4 := H1.out.sat.cell (i := 4) rfl
    have d5 := H1.out.sat.cell (i := 5) rfl
    have d6 := H1.out.sat.cell (i := 6) rfl
    clear hw1 hb8
    go_wp2_with fail
    with_reducible refine Calls.mono HW.out ?_
    rintro e w' ⟨rfl, rfl⟩
    go_wp2_with fail
    with_reducible refine Calls.mono HV.out ?_
    rintro e w2 ⟨rfl, hx⟩
    have H2 := Lib.hid (H1.out.ext hx)
    clear hx H1
    go_wp2
    go_ret
    exact ⟨rfl, H2.out.less⟩
  · simp only [if_true]
    go_enter Try.func42, Try.ntmps42
    go_upto_region 1 with fail
    (try rw [hw1])
    (try rw [hb8])
    have d0 := H1.out.sat.cell (i := 0) rfl
    have d1 := H1.out.sat.cell (i := 1) rfl
    have d2 := H1.out.sat.cell (i := 2) rfl
    have d3 := H1.out.sat.cell (i := 3) rfl
    have d4 := H1.out.sat.cell (i := 4) rfl
    have d5 := H1.out.sat.cell (i := 5) rfl
    have d6 := H1.out.sat.cell (i := 6) rfl
    clear hw1 hb8
    go_wp2_with fail
    with_reducible refine Calls.mono HW.out ?_
    rintro e w' ⟨rfl, rfl⟩
    go_wp2_with fail
    with_reducible refine Calls.mono HV.out ?_
    rintro e w2 ⟨rfl, hx⟩
    have H2 := Lib.hid (H1.out.ext hx)
    clear hx H1 d0 d1 d2 d3 d4 d5 d6
    have d0 := H2.out.sat.cell (i := 0) rfl
    have d1 := H2.out.sat.cell (i := 1) rfl
    have d2 := H2.out.sat.cell (i := 2) rfl
    have d3 := H2.out.sat.cell (i := 3) rfl
    have d4 := H2.out.sat.cell (i := 4) rfl
    have d5 := H2.out.sat.cell (i := 5) rfl
    have d6 := H2.out.sat.cell (i := 6) rfl
    go_wp2_with fail
    with_reducible refine Calls.mono (HP.out _ H2.out) ?_
    rintro e w3 ⟨rfl, h3⟩
    have H3 := Lib.hid h3
    clear h3 H2 d0 d1 d2 d3 d4 d5 d6
    go_wp2
    go_ret
    exact ⟨rfl, H3.out.less⟩
end Go.Proofs.Yticljfpippbkkaa

/-
  The document's new table. Conditions: those that each theorem names.
-/
namespace Go.Proofs.Yticljfpippbkkaa
open Go.RowKit Go.Sp
variable {W w w' : World} {F A : HProp}

def zcS : Array Value := (.int .i64 0 :: .slice none 0 0 :: ((List.replicate 1536 [.int .i64 0, .int .i64 0, .int .i64 0, .int .i64 0, .int .i64 0, .int .i64 0, .slice none 0 0]).flatten ++ [.slice none 0 0])).toArray
set_option maxRecDepth 1000000 in
@[simp] theorem zeroValue_S (w : World) : (zeroValue 132).run Try.prog w = .ok (.agg zcS) w := by kernel_rfl
theorem zcS_eq : zcS = stCells (.slice none 0 0) R0 := by
  unfold zcS stCells
  rw [regCells_zero]
@[simp] theorem zcS_size : zcS.size = 10755 := by rw [zcS_eq, st_size]
@[simp] theorem zcS_ne : zcS ≠ #[] := by intro h; have := congrArg Array.size h; simp at this
def newR : RfS := ⟨[], newS.regs⟩

theorem new_endR {b bs b1 b2 : Nat} {fl : List Int} (hf : freshL = fl) (h : Sat W (pts b (rtO bs) * (pts bs (.cells (stCells (.slice none 0 0) (rN fl 256)) 132) * (pts b1 (.cells (stCells (.slice none 0 0) (rN fl 256)) 132) * (pts b2 (codesO fl 85) * F)))) w) : RfAt W F b newR w := by
  subst hf
  have hnil : RdM (fun _ => none) (.slice none 0 0) [] := fun w _ => rowT_rd (W := w) (A := own w) (Sat.row_nil (Sat.start w))
  have h1 := (h.of_eq (show _ = pts b1 (.cells (stCells (.slice none 0 0) (rN freshL 256)) 132) * (pts b2 (codesO freshL 85) * (pts b (rtO bs) * (pts bs (.cells (stCells (.slice none 0 0) (rN freshL 256)) 132) * F))) by ac_rfl)).r.r
  have h2 : Sat W (row (.slice none 0 0) 0 174 6 [] * _) w := h1.row_nil (e := 174) (size := 6)
  refine ⟨fun _ => none, bs, .slice none 0 0, rN freshL 256, fun j hj => ⟨⟨?_, ?_, ?_⟩, by simp [newR, newS]⟩, ?_⟩
  · simp only [newR, newS, rN]
    by_cases h : 1280 ≤ j ∧ j < 1280 + 256
    · rw [if_pos h, if_pos (by omega)]
    · rw [if_neg h, if_neg (by omega)]; rfl
  · simp only [newR, newS, rN]
    split <;> rfl
  · have e : (rN freshL 256 j).s = .slice none 0 0 := by
      simp only [rN]
      split <;> rfl
    rw [e]
    exact hnil
  · rw [show roH (fun _ => none) = emp from rfl, emp_star]
    exact h2.of_eq (show _ = pts b (rtO bs) * (pts bs (.cells (stCells (.slice none 0 0) (rN freshL 256)) 132) * (row (.slice none 0 0) 0 174 6 [] * F)) by ac_rfl)
theorem st_info : (Try.prog.info? 132).map (·.size) = some 10755 := by kernel_rfl
theorem st_izero : ((Try.prog.info? 132).bind (·.zero)).isSome = true := by kernel_rfl
/-- One state within a slice. -/
theorem built_one {ops : Array Oper} {rest : List Oper} {o : Oper} {a : Act} {w : World} {Q : Exit → Act → World → Prop} (hg : o.guard = none) (t : TypeId) (x : Operand) (ho : o.op = .buildSlice t 1 #[(0, x)])
    (hu : Try.prog.underlying t = some (.slice 132)) (zz : Array Value) (hz : zz.size = 10755) (hx : a.eval x = .agg zz)
    (h : wpList Try.prog ops Q rest (a.put o.dst (.slice (some ⟨w.heap.size, 0, none⟩) 1 1)) (w.alloc (.cells zz 132))) : wpList Try.prog ops Q (o :: rest) a w := by
  cases hie : Try.prog.info? 132 with
  | none => have := st_info; rw [hie] at this; simp at this
  | some ie =>
    have h1 := st_info
    have h2 := st_izero
    simp only [hie, Option.map_some, Option.some.injEq, Option.bind_some] at h1 h2
    obtain ⟨z, hzz⟩ := Option.isSome_iff_exists.1 h2
    refine wpList_buildSlice hg t 132 1 #[(0, x)] ho zz ie z hu hie hzz (by rw [h1]; omega) (by rw [h1]; omega) ?_ h
    rw [h1]
    have := Go.Great.fill_whole (s := 10755) (by omega) [.agg zz] ((Array.range (1 * 10755)).map (z.cells[· % z.cells.size]!)) (by intro v hv; simp only [List.mem_singleton] at hv; subst hv; exact hz) (by simp only [Array.size_map, Array.size_range]; rfl)
    simp only [List.map_toArray, List.map_cons, List.map_nil, hx]
    rw [show ([Value.agg zz].flatMap fun v => v.cells.toList).toArray = zz by simp [Value.cells]] at this
    exact this
set_option maxRecDepth 1000000 in
set_option maxHeartbeats 8000000 in
theorem newR_any (h : Sat W F w) : Calls Try.prog 40 #[] w fun e w' => ∃ b, e = .returned (.pointer (some ⟨b, 0, none⟩)) ∧ RfAt W F b newR w' := by
  obtain ⟨fl, hfl⟩ : ∃ fl, freshL = fl := ⟨_, rfl⟩
  have h1 := h.alloc (.cells zcS 132)
  obtain ⟨b1, hb1⟩ : ∃ b1, w.heap.size = b1 := ⟨_, rfl⟩
  obtain ⟨w1, hw1⟩ : ∃ w1, w.alloc (.cells zcS 132) = w1 := ⟨_, rfl⟩
  rw [hb1, hw1] at h1
  have HFR := Lib.hid (freshR_any h1)
  rw [hfl] at HFR
  have HFL := Lib.hid hfl
  clear h h1 hfl
  go_enter Try.func40, Try.ntmps40
  go_wp2_with fail
  (try rw [show Try.zeroCells132 = zcS from by kernel_rfl])
  rw [hw1]
  clear hw1 hb1
  with_reducible refine Calls.mono HFR.out ?_
  rintro e w2 ⟨rfl, h2⟩
  have h3 := h2.alloc (codesO (List.replicate 256 0) 85)
  obtain ⟨b2, hb2⟩ : ∃ b2, w2.heap.size = b2 := ⟨_, rfl⟩
  obtain ⟨w3, hw3⟩ : ∃ w3, w2.alloc (codesO (List.replicate 256 0) 85) = w3 := ⟨_, rfl⟩
  rw [hb2, hw3] at h3
  have H3 := Lib.hid h3
  have HFN := Lib.hid (show fl.length = 256 by rw [← HFL.out]; exact freshL_len)
  clear h2 h3 HFR
  unfold codesV
  generalize hV : (fl.map (Value.int .i64)).toArray = cv
  simp only []
  go_step
  refine wpList_plain rfl (fun K hK => ?_)
  go_simp
  refine hK _ _ ?_
  clear hK K
  (try rw [show Try.zeroCells85 = zc256 from by kernel_rfl])
  rw [show w2.alloc (.cells zc256 85) = w3 from hw3]
  (try rw [hb2])
  have hb0 := H3.out.blk
  refine wpList_store_row (by rfl) 85 (.tmp 2) (.tmp 4) (by rfl) b2 cv (by rfl) (by rfl) _ _ hb0 ?_ ?_ ?_ ?_
  · rw [← hV, size_codes]; simp [HFN.out]
  · rw [← hV]; simp [HFN.out]
  · rw [← hV]; exact one_codes fl
  have h4 := Sat.setRowC (M := fl) H3.out
  rw [hV] at h4
  obtain ⟨w4, hw4⟩ : ∃ w4, w3.setRow b2 cv = w4 := ⟨_, rfl⟩
  rw [hw4] at h4
  rw [hw4]
  have h5 := h4.of_eq (show _ = pts b1 (.cells zcS 132) * (pts b2 (codesO fl 85) * F) by ac_rfl)
  rw [zcS_eq, ← rN_zero fl] at h5
  have H5 := Lib.hid h5
  clear h4 h5 hw4 hw3 hb2 hb0 hV H3
  go_wp2_with fail
  go_loopg [3] 256 (fun g s3 wx => ∃ (k : Nat), k ≤ 256 ∧ g = 256 - k ∧ s3 = .int .i64 k ∧ Sat W (pts b1 (.cells (stCells (.slice none 0 0) (rN fl k)) 132) * (pts b2 (codesO fl 85) * F)) wx)
  case atStart => exact ⟨0, by omega, rfl, rfl, H5.out⟩
  case round =>
    obtain ⟨k, hk, rfl, rfl, hx⟩ := hrel
    have HX := Lib.hid hx
    clear hx H5
    by_cases hlt : k < 256
    · obtain ⟨x0, hc, f0⟩ := stReg_at HX.out (j := 1280 + k) (by omega) 0 (by omega)
      have lb := HX.out.lt
      have hcb := HX.out.r.cell (i := k) (v := .int .i64 (fl.getD k 0)) (by
        rw [List.getElem?_toArray, List.getElem?_map, List.getElem?_eq_getElem (by rw [HFN.out]; exact hlt), List.getD_eq_getElem?_getD, List.getElem?_eq_getElem (by rw [HFN.out]; exact hlt)]
        rfl)
      have HS := HX.out.set (i := 2 + (1280 + k) * 7) (v := .int .i64 (fl.getD k 0))
      rw [st_set_n _ _ (1280 + k) (by omega), rN_succ] at HS
      rw [show 2 + (1280 + k) * 7 = 8962 + k * 7 by omega] at hc f0 HS
      simp only [Nat.add_zero] at hc f0
      have HS2 := Lib.hid HS
      have i1 : (k : Int) < 256 := by omega
      clear HS HX
      go_wp2
      go_roundg (256 - (k + 1))
      case measure => omega
      case rel => exact ⟨k + 1, by omega, rfl, by go_num, HS2.out⟩
    · obtain rfl : 256 = k := by omega
      have hb := HX.out.blk
      have hd : (Try.prog.info? 132).map (·.size) = some (stCells (.slice none 0 0) (rN fl 256)).size := by rw [st_size]; kernel_rfl
      have h8 := (HX.out.alloc (.cells (stCells (.slice none 0 0) (rN fl 256)) 132)).alloc (rtO wr.heap.size)
      rw [World.size_alloc] at h8
      have HSZ := Lib.hid (st_size (.slice none 0 0) (rN fl 256))
      have hfin : ∀ w', Sat W (pts (wr.heap.size + 1) (rtO wr.heap.size) * (pts wr.heap.size (.cells (stCells (.slice none 0 0) (rN fl 256)) 132) * (pts b1 (.cells (stCells (.slice none 0 0) (rN fl 256)) 132) * (pts b2 (codesO fl 85) * F)))) w' → RfAt W F (wr.heap.size + 1) newR w' := fun w' h => new_endR HFL.out h
      have HFIN := Lib.hid hfin
      clear hfin
      go_upto_region 7 with fail
      generalize hzz : stCells (.slice none 0 0) (rN fl 256) = zz at *
      have hzs := HSZ.out
      have hzn : zz ≠ #[] := by intro h; rw [h] at hzs; simp at hzs
      go_step
      refine wpList_load_row rfl 132 (.tmp 1) rfl b1 rfl 132 _ _ _ hb Try.underlying132 rfl hd ?_
      clear hd hb hzz
      refine built_one (by rfl) 133 (.tmp 17) (by rfl) (by rfl) zz HSZ.out (by rfl) ?_
      go_wp2
      go_ret
      exact ⟨_, rfl, HFIN.out _ h8⟩
end Go.Proofs.Yticljfpippbkkaa
