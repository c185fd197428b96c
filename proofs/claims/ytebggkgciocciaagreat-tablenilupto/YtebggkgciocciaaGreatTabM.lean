
/-
  A table: a register gets a value. Conditions: those that each theorem names.
-/
import Derived.Test.YtebggkgciocciaaGreatTabL
namespace Go.Proofs.YtebggkgciocciaaGreat
open Go.RowKit Go.Sp
variable {W w w' : World} {F A : HProp}

def setS (f : Nat → RegS) (j : Nat) (v : RegS) : Nat → RegS := fun i => if i = j then v else f i

theorem TabAt.drewD {b N : Nat} {S : TabS} (h : TabAt W F b N S w) : TabAt W F b N S w.drew := by
  obtain ⟨m, nm, gs, lt, R, V, h1, h2⟩ := h
  exact ⟨m, nm, gs, lt, R, V, h1, h2.drew⟩
theorem TabAt.less {b N : Nat} {S : TabS} (h : TabAt W (A * F) b N S w) : TabAt W F b N S w := by
  obtain ⟨m, nm, gs, lt, R, V, h1, h2⟩ := h
  exact ⟨m, nm, gs, lt, R, V, h1, (h2.of_eq (show _ = A * (pts b (.cells (tabCells nm R gs lt) 34) * (roH m * (mapH Value.string Mean.val nm N S.names * (row gs V.length 83 4 (flatG V) * (grpsH m V S.groups * F))))) by ac_rfl)).r⟩

/-- what the table's block and what lies beside it are, when a register's seven cells have been set -/
theorem put_end {b N nm : Nat} {S : TabS} {m : Nat → Option Obj} {gs lt u : Value} {R : Nat → RegV} {V : List GrpV} {v : RegS} {c i : Nat} (hc : c ≤ 5) (hi : i < 256) (hl : v.toks.length ≤ 20000)
    (hT : (∀ j, j < 1536 → Rep m (R j) (S.regs j) ∧ (S.regs j).toks.length ≤ 20000) ∧ RdM m lt S.later ∧ S.later.length ≤ 20000 ∧ V.length = S.groups.length ∧ S.groups.length ≤ 200)
    (h : Sat W (pts b (.cells (tabCells nm R gs lt) 34) * (rowT u v.toks * (roH m * (mapH Value.string Mean.val nm N S.names * (row gs V.length 83 4 (flatG V) * (grpsH m V S.groups * F)))))) w) :
    TabAt W F b N { S with regs := setS S.regs (c * 256 + i) v } (((((((w.setCell ⟨b, 1 + c * 1792 + i * 7, none⟩ (.int .i64 v.n)).setCell ⟨b, 1 + c * 1792 + i * 7 + 1, none⟩ (.int .i64 v.g.nat)).setCell ⟨b, 1 + c * 1792 + i * 7 + 2, none⟩ (.int .i64 v.g.stretch)).setCell ⟨b, 1 + c * 1792 + i * 7 + 3, none⟩ (.int .i64 v.g.shrink)).setCell ⟨b, 1 + c * 1792 + i * 7 + 4, none⟩ (.int .i64 v.g.so)).setCell ⟨b, 1 + c * 1792 + i * 7 + 5, none⟩ (.int .i64 v.g.ko)).setCell ⟨b, 1 + c * 1792 + i * 7 + 6, none⟩ u) := by
  have hj : c * 256 + i < 1536 := by omega
  have e : 1 + c * 1792 + i * 7 = 1 + (c * 256 + i) * 7 := by omega
  have h2 := ((((((h.set (i := 1 + c * 1792 + i * 7) (v := .int .i64 v.n)).set (i := 1 + c * 1792 + i * 7 + 1) (v := .int .i64 v.g.nat)).set (i := 1 + c * 1792 + i * 7 + 2) (v := .int .i64 v.g.stretch)).set (i := 1 + c * 1792 + i * 7 + 3) (v := .int .i64 v.g.shrink)).set (i := 1 + c * 1792 + i * 7 + 4) (v := .int .i64 v.g.so)).set (i := 1 + c * 1792 + i * 7 + 5) (v := .int .i64 v.g.ko)).set (i := 1 + c * 1792 + i * 7 + 6) (v := u)
  have h3 := tab_set_reg nm R gs lt (c * 256 + i) hj ⟨v.n, v.g, u⟩
  simp only [RegV.at] at h3
  rw [← e] at h3
  rw [h3] at h2
  have h4 := h2.of_eq (show _ = rowT u v.toks * (roH m * (pts b (.cells (tabCells nm (setR R (c * 256 + i) ⟨v.n, v.g, u⟩) gs lt) 34) * (mapH Value.string Mean.val nm N S.names * (row gs V.length 83 4 (flatG V) * (grpsH m V S.groups * F))))) by ac_rfl)
  obtain ⟨m', h5, hm, hr⟩ := h4.row_stays
  obtain ⟨t1, t2, t3, t4, t5⟩ := hT
  refine ⟨m', nm, gs, lt, setR R (c * 256 + i) ⟨v.n, v.g, u⟩, V, ⟨fun j hj => ?_, t2.mono hm, t3, t4, t5⟩, ?_⟩
  · by_cases hjj : j = c * 256 + i
    · subst hjj
      simp only [setR, setS, if_true]
      exact ⟨⟨rfl, rfl, hr⟩, hl⟩
    · simp only [setR, setS, if_neg hjj]
      exact ⟨(t1 j hj).1.mono hm, (t1 j hj).2⟩
  · have h6 : Sat W (grpsH m V S.groups * (roH m' * (pts b (.cells (tabCells nm (setR R (c * 256 + i) ⟨v.n, v.g, u⟩) gs lt) 34) * (mapH Value.string Mean.val nm N S.names * (row gs V.length 83 4 (flatG V) * F))))) _ := h5.of_eq (by ac_rfl)
    exact (h6.imp_l (grpsH_mono hm V S.groups)).of_eq (by ac_rfl)

set_option maxRecDepth 100000 in
set_option maxHeartbeats 8000000 in
theorem put_flat {b N : Nat} {S : TabS} {c i : Nat} {v : RegS} {s : Value} (hc : c ≤ 5) (hi : i < 256) (hg : S.groups = []) (hl : v.toks.length ≤ 20000) (hv : ∀ w', Sat W F w' → RdT w' s v.toks) (h : TabAt W F b N S w) :
    Calls Tryz.prog 51 #[.pointer (some ⟨b, 0, none⟩), .int .i64 c, .int .i64 i, valA v s, .bool false] w fun e w' => e = .returned (.tuple #[]) ∧ TabAt W F b N { S with regs := setS S.regs (c * 256 + i) v } w' := by
  obtain ⟨sa, sc, rfl⟩ := (hv w h.sat).val
  obtain ⟨m, nm, gs, lt, R, V, hT, hs⟩ := h
  obtain ⟨ga, gc, rfl⟩ := Sat.row_value hs.r.r.r
  have hV : V.length = 0 := by rw [hT.2.2.2.1, hg]; rfl
  have hbx := (hs.alloc (valO v (.slice sa v.toks.length sc))).alloc (.cells #[.int .i64 c, .int .i64 i] 95)
  rw [show (w.alloc (valO v (.slice sa v.toks.length sc))).heap.size = w.heap.size + 1 by simp] at hbx
  have HT := Lib.hid hT
  have HL := Lib.hid hl
  have HVV := Lib.hid hv
  obtain ⟨n, ⟨g1, g2, g3, g4, g5⟩, L⟩ := v
  simp only [valA]
  simp only at hl
  obtain ⟨k, hk⟩ : ∃ k, L.length = k := ⟨_, rfl⟩
  simp only [hk] at hbx HVV
  simp only [hk]
  have HKK := Lib.hid hk
  have c0 := hbx.r.r.cell (i := 10753) (tab_groups nm R _ lt)
  rw [hV] at c0
  have lb := hbx.r.r.lt
  have v6 := hbx.r.cell (i := 6) rfl
  have lv := hbx.r.lt
  have HB := Lib.hid hbx
  have i1 : (c : Int) < 6 := by omega
  have i2 : (i : Int) < 256 := by omega
  clear hT hs hbx hv hl hk hg hV
  go_enter Tryz.func51, Tryz.ntmps51
  go_upto_region 2 with fail
  generalize (w.alloc (.cells #[.int .i64 n, .int .i64 g1, .int .i64 g2, .int .i64 g3, .int .i64 g4, .int .i64 g5, .slice sa k sc] 29)).alloc (.cells #[.int .i64 c, .int .i64 i] 95) = W1 at *
  generalize w.heap.size = bx at *
  go_upto_region 13 with fail
  have HCL := Lib.hid (clone_any (.slice sa k sc) L (fun w' h => HVV.out w' h.r.r.r.r.r.r.r) (by have := HL.out; (try simp only at this); omega) HB.out)
  clear c0
  go_wp2_with fail
  refine Calls.mono HCL.out ?_
  rintro e w3 ⟨u, rfl, h3⟩
  obtain ⟨ua, uc, hu, -⟩ := (rowT_rd h3).capd
  rw [HKK.out] at hu
  subst hu
  have h4 := h3.of_eq (show _ = pts bx (valO ⟨n, ⟨g1, g2, g3, g4, g5⟩, L⟩ (.slice sa k sc)) * (pts b (.cells (tabCells nm R (.slice ga V.length gc) lt) 34) * (rowT (.slice ua k uc) L * (roH m * (mapH Value.string Mean.val nm N S.names * (row (.slice ga V.length gc) V.length 83 4 (flatG V) * (grpsH m V S.groups * (pts (bx + 1) (.cells #[.int .i64 c, .int .i64 i] 95) * F))))))) by ac_rfl)
  have e0 := h4.cell (i := 0) rfl
  have e1 := h4.cell (i := 1) rfl
  have e2 := h4.cell (i := 2) rfl
  have e3 := h4.cell (i := 3) rfl
  have e4 := h4.cell (i := 4) rfl
  have e5 := h4.cell (i := 5) rfl
  have e6 := h4.cell (i := 6) rfl
  have fe := h4.free (i := 6)
  have le := h4.lt
  have h5 := h4.set (i := 6) (v := .slice ua k uc)
  rw [show ((#[.int .i64 n, .int .i64 g1, .int .i64 g2, .int .i64 g3, .int .i64 g4, .int .i64 g5, .slice sa k sc] : Array Value).setIfInBounds 6 (.slice ua k uc)) = #[.int .i64 n, .int .i64 g1, .int .i64 g2, .int .i64 g3, .int .i64 g4, .int .i64 g5, .slice ua k uc] by simp] at h5
  have H5 := Lib.hid h5
  clear h3 h4 h5 v6
  go_upto_region 14 with fail
  generalize w3.setCell ⟨bx, 6, none⟩ (.slice ua k uc) = W4 at *
  obtain ⟨r0, r1, r2, r3, r4, r5, r6⟩ := reg_at H5.out.r hc hi
  clear e0 e1 e2 e3 e4 e5 e6 fe le
  have lt4 := H5.out.r.lt
  have f0 := H5.out.r.free (i := 1 + c * 1792 + i * 7)
  have f1 := H5.out.r.free (i := 1 + c * 1792 + i * 7 + 1)
  have f2 := H5.out.r.free (i := 1 + c * 1792 + i * 7 + 2)
  have f3 := H5.out.r.free (i := 1 + c * 1792 + i * 7 + 3)
  have f4 := H5.out.r.free (i := 1 + c * 1792 + i * 7 + 4)
  have f5 := H5.out.r.free (i := 1 + c * 1792 + i * 7 + 5)
  have f6 := H5.out.r.free (i := 1 + c * 1792 + i * 7 + 6)
  refine wp_region_E (fun w' => ∃ X, Sat W (pts bx (valO ⟨n, ⟨g1, g2, g3, g4, g5⟩, L⟩ (.slice ua k uc)) * X) w') (by kernel_rfl) ?_
  refine wpE_take (i := 0) (q := 8) (v := ?_) rfl (by kernel_rfl) (by kernel_rfl) (by kernel_rfl) (by kernel_rfl) (by kernel_rfl) (fun _ _ _ h => h) (by rfl) ?_ ?_
  rotate_left 1
  · intro w hw; go_simp; try with_reducible rfl
  refine wpE_take (i := 1) (q := 8) (v := ?_) rfl (by kernel_rfl) (by kernel_rfl) (by kernel_rfl) (by kernel_rfl) (by kernel_rfl) (fun _ _ _ h => h) (by rfl) ?_ ?_
  rotate_left 1
  · intro w hw; go_simp; try with_reducible rfl
  refine wpE_take (i := 2) (q := 8) (v := ?_) rfl (by kernel_rfl) (by kernel_rfl) (by kernel_rfl) (by kernel_rfl) (by kernel_rfl) (fun _ _ _ h => h) (by rfl) ?_ ?_
  rotate_left 1
  · intro w hw; go_simp; try with_reducible rfl
  refine wpE_take (i := 3) (q := 8) (v := ?_) rfl (by kernel_rfl) (by kernel_rfl) (by kernel_rfl) (by kernel_rfl) (by kernel_rfl) (fun _ _ _ h => h) (by rfl) ?_ ?_
  rotate_left 1
  · intro w hw; (obtain ⟨X, hw⟩ := hw; have e0 := hw.cell (i := 0) rfl; have e1 := hw.cell (i := 1) rfl; have e2 := hw.cell (i := 2) rfl; have e3 := hw.cell (i := 3) rfl; have e4 := hw.cell (i := 4) rfl; have e5 := hw.cell (i := 5) rfl; have e6 := hw.cell (i := 6) rfl; go_simp; try with_reducible rfl)
  refine wpE_take (i := 4) (q := 5) (v := ?_) rfl (by kernel_rfl) (by kernel_rfl) (by kernel_rfl) (by kernel_rfl) (by kernel_rfl) (fun _ _ _ h => h) (by rfl) ?_ ?_
  rotate_left 1
  · intro w hw; go_simp; try with_reducible rfl
  refine wpE_take (i := 5) (q := 6) (v := ?_) rfl (by kernel_rfl) (by kernel_rfl) (by kernel_rfl) (by kernel_rfl) (by kernel_rfl) (fun _ _ _ h => h) (by rfl) ?_ ?_
  rotate_left 1
  · intro w hw; go_simp; try with_reducible rfl
  refine wpE_take (i := 6) (q := 7) (v := ?_) rfl (by kernel_rfl) (by kernel_rfl) (by kernel_rfl) (by kernel_rfl) (by kernel_rfl) (fun _ _ _ h => h) (by rfl) ?_ ?_
  rotate_left 1
  · intro w hw; go_simp; try with_reducible rfl
  refine wpE_take (i := 7) (q := 8) (v := ?_) rfl (by kernel_rfl) (by kernel_rfl) (by kernel_rfl) (by kernel_rfl) (by kernel_rfl) (fun _ _ _ h => h) (by rfl) ?_ ?_
  rotate_left 1
  · intro w hw; go_simp; try with_reducible rfl
  refine wpE_one (i := 8) rfl (by kernel_rfl) (⟨_, H5.out.drew⟩) (fun K hK => ?_)
  go_simp
  refine hK _ _ ?_
  clear hK K
  refine wpE_done (by kernel_rfl) (by kernel_rfl) ?_
  have h6 := H5.out.of_eq (show _ = pts b (.cells (tabCells nm R (.slice ga V.length gc) lt) 34) * (rowT (.slice ua k uc) L * (roH m * (mapH Value.string Mean.val nm N S.names * (row (.slice ga V.length gc) V.length 83 4 (flatG V) * (grpsH m V S.groups * (pts bx (valO ⟨n, ⟨g1, g2, g3, g4, g5⟩, L⟩ (.slice ua k uc)) * (pts (bx + 1) (.cells #[.int .i64 c, .int .i64 i] 95) * F))))))) by ac_rfl)
  have HF := Lib.hid (put_end (v := ⟨n, ⟨g1, g2, g3, g4, g5⟩, L⟩) (u := .slice ua k uc) (F := pts bx (valO ⟨n, ⟨g1, g2, g3, g4, g5⟩, L⟩ (.slice ua k uc)) * (pts (bx + 1) (.cells #[.int .i64 c, .int .i64 i] 95) * F)) hc hi HL.out HT.out h6)
  exact ⟨rfl, .tuple #[], by unfold results; go_simp, rfl, HF.out.drewD.less.less⟩

end Go.Proofs.YtebggkgciocciaaGreat
