
/-
  A table: a register gets a value globally. Conditions: those that each theorem names.
-/
import Derived.Test.YtebggkgciocciaaGreatTabO
namespace Go.Proofs.YtebggkgciocciaaGreat
open Go.RowKit Go.Sp
variable {W w w' : World} {F A : HProp}

noncomputable def GrpS.delR (k : Int × Int) (g : GrpS) : GrpS := { g with regs := mdel g.regs k }

theorem RepO.del {m : Nat → Option Obj} {f : Int × Int → Option RegV} {g : Int × Int → Option RegS} (h : ∀ k, RepO m (f k) (g k)) (k : Int × Int) : ∀ j, RepO m (mdel f k j) (mdel g k j) := by
  intro j
  by_cases hj : j = k
  · subst hj; rw [mdel_same, mdel_same]; trivial
  · rw [mdel_other f hj, mdel_other g hj]; exact h j

theorem grps_mid_open {m : Nat → Option Obj} {V V1 V2 : List GrpV} {v : GrpV} {G1 G3 : List GrpS} {g : GrpS} {X : HProp} (hV : V = V1 ++ v :: V2) (hl : V1.length = G1.length) (h : Sat W (X * (grpsH m V (G1 ++ g :: G3) * A)) w) :
    Sat W (grp1 m v g * (grpsH m (V1 ++ V2) (G1 ++ G3) * (X * A))) w := by
  rw [hV, grpsH_mid m v g V2 G3 V1 G1 hl] at h
  exact h.of_eq (by ac_rfl)
theorem grps_mid_close {m : Nat → Option Obj} {V V1 V2 : List GrpV} {v : GrpV} {G1 G3 : List GrpS} {g : GrpS} {X : HProp} (hV : V = V1 ++ v :: V2) (hl : V1.length = G1.length) (h : Sat W (grp1 m v g * (grpsH m (V1 ++ V2) (G1 ++ G3) * (X * A))) w) :
    Sat W (X * (grpsH m V (G1 ++ g :: G3) * A)) w := by
  rw [hV, grpsH_mid m v g V2 G3 V1 G1 hl]
  exact h.of_eq (by ac_rfl)

set_option maxRecDepth 100000 in
set_option maxHeartbeats 8000000 in
theorem put_glob {b N : Nat} {S : TabS} {c i : Nat} {v : RegS} {s : Value} (hc : c ≤ 5) (hi : i < 256) (hl : v.toks.length ≤ 20000) (hv : ∀ w', Sat W F w' → RdT w' s v.toks) (h : TabAt W F b N S w) :
    Calls Tryz.prog 51 #[.pointer (some ⟨b, 0, none⟩), .int .i64 c, .int .i64 i, valA v s, .bool true] w fun e w' => e = .returned (.tuple #[]) ∧ TabAt W F b N { S with regs := setS S.regs (c * 256 + i) v, groups := S.groups.map (·.delR (c, i)) } w' := by
  obtain ⟨sa, sc, rfl⟩ := (hv w h.sat).val
  obtain ⟨m, nm, gs, lt, R, V, hT, hs⟩ := h
  obtain ⟨ga, gc, rfl⟩ := Sat.row_value hs.r.r.r
  have hbx := (hs.alloc (valO v (.slice sa v.toks.length sc))).alloc (.cells #[.int .i64 c, .int .i64 i] 95)
  rw [show (w.alloc (valO v (.slice sa v.toks.length sc))).heap.size = w.heap.size + 1 by simp] at hbx
  obtain ⟨bx, hbx0⟩ : ∃ bx, w.heap.size = bx := ⟨_, rfl⟩
  rw [hbx0] at hbx
  have HT := Lib.hid hT
  have HL := Lib.hid hl
  have HVV := Lib.hid hv
  obtain ⟨zn, ⟨g1, g2, g3, g4, g5⟩, L⟩ := v
  simp only [valA]
  simp only at hl
  obtain ⟨k, hk⟩ : ∃ k, L.length = k := ⟨_, rfl⟩
  simp only [hk] at hbx HVV
  simp only [hk]
  have HKK := Lib.hid hk
  obtain ⟨n, hn⟩ : ∃ n, V.length = n := ⟨_, rfl⟩
  have HN := Lib.hid hn
  have c0 := hbx.r.r.cell (i := 10753) (tab_groups nm R _ lt)
  rw [hn] at c0
  have lb := hbx.r.r.lt
  have lv := hbx.r.lt
  have hn2 : n ≤ 200 := by rw [← hn, hT.2.2.2.1]; exact hT.2.2.2.2
  obtain ⟨BASE, hBASE⟩ : ∃ BASE : HProp, BASE = pts (bx + 1) (.cells #[.int .i64 c, .int .i64 i] 95) * (row (.slice ga V.length gc) V.length 83 4 (flatG V) * (pts b (.cells (tabCells nm R (.slice ga V.length gc) lt) 34) * (pts bx (valO ⟨zn, ⟨g1, g2, g3, g4, g5⟩, L⟩ (.slice sa k sc)) * (roH m * (mapH Value.string Mean.val nm N S.names * F))))) := ⟨_, rfl⟩
  have HB0 := Lib.hid (hbx.of_eq (show _ = emp * (grpsH m V S.groups * BASE) by rw [hBASE, emp_star]; ac_rfl))
  have HBASE := Lib.hid hBASE
  have i1 : (c : Int) < 6 := by omega
  have i2 : (i : Int) < 256 := by omega
  clear hT hs hbx hv hl hk hBASE hn
  go_enter Tryz.func51, Tryz.ntmps51
  go_upto_region 2 with fail
  generalize (w.alloc (.cells #[.int .i64 zn, .int .i64 g1, .int .i64 g2, .int .i64 g3, .int .i64 g4, .int .i64 g5, .slice sa k sc] 29)).alloc (.cells #[.int .i64 c, .int .i64 i] 95) = W1 at *
  clear hbx0
  go_wp2_with fail
  go_loopg [25] n (fun gg s25 wx => ∃ (q : Nat) (G1 G2 : List GrpS) (X : HProp), S.groups = G1 ++ G2 ∧ G1.length = q ∧ q ≤ n ∧ gg = n - q ∧ s25 = .int .i64 q ∧ Sat W (X * (grpsH m V (G1.map (·.delR ((c : Int), (i : Int))) ++ G2) * BASE)) wx)
  case atStart => exact ⟨0, [], S.groups, emp, rfl, rfl, by omega, rfl, by go_num, HB0.out⟩
  case round =>
    obtain ⟨q, G1, G2, X, hG, hq, hqn, rfl, rfl, hx⟩ := hrel
    have HX := Lib.hid hx
    have HG := Lib.hid hG
    have HQ := Lib.hid hq
    clear hx hG hq HB0 c0 lb lv
    by_cases hlt : q < n
    · obtain ⟨g, G3, rfl⟩ : ∃ g G3, G2 = g :: G3 := by
        cases G2 with
        | nil =>
          exfalso
          have h1 := HG.out
          have h2 := HT.out.2.2.2.1
          have h3 := HN.out
          have h4 := HQ.out
          rw [h1] at h2
          simp at h2
          omega
        | cons g G3 => exact ⟨g, G3, rfl⟩
      obtain ⟨V1, v, V2, hV, hV1⟩ : ∃ V1 v V2, V = V1 ++ v :: V2 ∧ V1.length = q :=
        ⟨V.take q, V[q]'(by rw [HN.out]; exact hlt), V.drop (q + 1), by rw [List.getElem_cons_drop, List.take_append_drop], by rw [List.length_take, HN.out]; omega⟩
      have hm := grps_mid_open (G1 := G1.map (·.delR ((c : Int), (i : Int)))) hV (by rw [hV1, List.length_map, HQ.out]) HX.out
      obtain ⟨⟨hk, hal⟩, nn, rn, f, hf, hs2⟩ := Sat.grp_open hm
      obtain ⟨aa, ac, hva⟩ := hs2.r.r.rowT_value
      have HKAL := Lib.hid (And.intro hk hal)
      have HF := Lib.hid hf
      have HV := Lib.hid hV
      have HV1 := Lib.hid hV1
      rw [HBASE.out, HN.out] at hs2
      have hs3 := hs2.of_eq (show _ = row (.slice ga n gc) n 83 4 (flatG V) * (pts (bx + 1) (.cells #[.int .i64 c, .int .i64 i] 95) * (mapH kE2 RegV.val v.rb rn f * (mapH Value.string Mean.val v.nb nn g.names * (rowT v.av g.after * (grpsH m (V1 ++ V2) (G1.map (·.delR ((c : Int), (i : Int))) ++ G3) * (X * (pts b (.cells (tabCells nm R (.slice ga n gc) lt) 34) * (pts bx (valO ⟨zn, ⟨g1, g2, g3, g4, g5⟩, L⟩ (.slice sa k sc)) * (roH m * (mapH Value.string Mean.val nm N S.names * F)))))))))) by ac_rfl)
      obtain ⟨_, hcs⟩ := hs3.row_cases
      rcases hcs with ⟨_, h0, _⟩ | ⟨gb, cap', _, hgs, _⟩
      · omega
      simp only [Value.slice.injEq] at hgs
      obtain ⟨rfl, -, rfl⟩ := hgs
      have r0 := hs3.row_cell (flatG_get V q 0 (.int .i64 v.kind) (by rw [HN.out]; exact hlt) (by simp only [hV]; rw [List.getElem_append_right (by omega)]; simp [hV1, GrpV.cells]))
      have r1 := hs3.row_cell (flatG_get V q 1 (.map (some v.nb)) (by rw [HN.out]; exact hlt) (by simp only [hV]; rw [List.getElem_append_right (by omega)]; simp [hV1, GrpV.cells]))
      have r2 := hs3.row_cell (flatG_get V q 2 (.map (some v.rb)) (by rw [HN.out]; exact hlt) (by simp only [hV]; rw [List.getElem_append_right (by omega)]; simp [hV1, GrpV.cells]))
      have r3 := hs3.row_cell (flatG_get V q 3 v.av (by rw [HN.out]; exact hlt) (by simp only [hV]; rw [List.getElem_append_right (by omega)]; simp [hV1, GrpV.cells]))
      rw [hva] at r3
      simp only [Nat.add_zero] at r0
      obtain ⟨al, hal2⟩ : ∃ al, g.after.length = al := ⟨_, rfl⟩
      rw [hal2] at r3
      have hs4 := (hs3.alloc (.cells #[.int .i64 v.kind, .map (some v.nb), .map (some v.rb), .slice aa al ac] 83)).r.r
      have hs5 := (hs3.alloc (.cells #[.int .i64 v.kind, .map (some v.nb), .map (some v.rb), .slice aa al ac] 83)).of_eq (show _ = mapH kE2 RegV.val v.rb rn f * (pts (bx + 1) (.cells #[.int .i64 c, .int .i64 i] 95) * (pts wr.heap.size (.cells #[.int .i64 v.kind, .map (some v.nb), .map (some v.rb), .slice aa al ac] 83) * (row (.slice (some ⟨gb, 0, none⟩) n gc) n 83 4 (flatG V) * (mapH Value.string Mean.val v.nb nn g.names * (rowT v.av g.after * (grpsH m (V1 ++ V2) (G1.map (·.delR ((c : Int), (i : Int))) ++ G3) * (X * (pts b (.cells (tabCells nm R (.slice (some ⟨gb, 0, none⟩) n gc) lt) 34) * (pts bx (valO ⟨zn, ⟨g1, g2, g3, g4, g5⟩, L⟩ (.slice sa k sc)) * (roH m * (mapH Value.string Mean.val nm N S.names * F))))))))))) by ac_rfl)
      have HS5 := Lib.hid hs5
      clear hm hs2 hs3 hs4 hs5 hf hk hal hV hV1 hva hal2 HX
      go_upto_region 6 with fail
      obtain ⟨bz, hbz⟩ : ∃ bz, wr.heap.size = bz := ⟨_, rfl⟩
      rw [hbz] at HS5
      rw [hbz]
      generalize wr.alloc (.cells #[.int .i64 v.kind, .map (some v.nb), .map (some v.rb), .slice aa al ac] 83) = w3 at *
      clear r0 r1 r2 r3 hbz
      have d2 := HS5.out.r.r.cell (i := 2) rfl
      have cl0 := HS5.out.r.cell (i := 0) rfl
      have cl1 := HS5.out.r.cell (i := 1) rfl
      have lx := HS5.out.r.lt
      have lz := HS5.out.r.r.lt
      obtain ⟨w4, hdel, hs6⟩ := Sat.map_del key2 Tryz.underlying81 HS5.out ((c : Int), (i : Int)) 0
      have HS6 := Lib.hid hs6
      simp only [kE2] at hdel
      clear hs6
      go_wp2
      go_roundg (n - (q + 1))
      case measure => omega
      case rel =>
        refine ⟨q + 1, G1 ++ [g], G3, pts bz (.cells #[.int .i64 v.kind, .map (some v.nb), .map (some v.rb), .slice aa al ac] 83) * X, by rw [HG.out, List.append_assoc]; rfl, by simp [HQ.out], by omega, rfl, by go_num, ?_⟩
        have h7 := Sat.grp_mk (m := m) (v := v) (s := g.delR ((c : Int), (i : Int))) (HS6.out.of_eq (show _ = mapH Value.string Mean.val v.nb nn g.names * (mapH kE2 RegV.val v.rb rn (mdel f ((c : Int), (i : Int))) * (rowT v.av g.after * (grpsH m (V1 ++ V2) (G1.map (·.delR ((c : Int), (i : Int))) ++ G3) * ((pts bz (.cells #[.int .i64 v.kind, .map (some v.nb), .map (some v.rb), .slice aa al ac] 83) * X) * BASE)))) by rw [HBASE.out, HN.out]; ac_rfl)) HKAL.out (RepO.del HF.out _)
        have h8 := grps_mid_close HV.out (by rw [HV1.out, List.length_map, HQ.out]) h7
        rw [List.map_append, List.append_assoc]
        exact h8
    · obtain rfl : n = q := by omega
      have hG2 : G2 = [] := by
        have h1 := HG.out
        have h2 := HT.out.2.2.2.1
        have h3 := HN.out
        have h4 := HQ.out
        rw [h1] at h2
        simp at h2
        exact List.eq_nil_of_length_eq_zero (by omega)
      obtain ⟨S2, hS2⟩ : ∃ S2 : TabS, S2 = { S with groups := S.groups.map (·.delR ((c : Int), (i : Int))) } := ⟨_, rfl⟩
      have HS2 := Lib.hid hS2
      have hs3 := HX.out
      have HT0 := HT.out
      rw [HBASE.out, hG2, List.append_nil, show G1.map (·.delR ((c : Int), (i : Int))) = S2.groups by rw [hS2, HG.out, hG2, List.append_nil], show S.names = S2.names by rw [hS2]] at hs3
      have HT := Lib.hid (show (∀ j, j < 1536 → Rep m (R j) (S2.regs j) ∧ (S2.regs j).toks.length ≤ 20000) ∧ RdM m lt S2.later ∧ S2.later.length ≤ 20000 ∧ V.length = S2.groups.length ∧ S2.groups.length ≤ 200 from by
        rw [hS2]
        simpa only [List.length_map] using HT0)
      have HB := Lib.hid (hs3.of_eq (show _ = pts (bx + 1) (.cells #[.int .i64 c, .int .i64 i] 95) * (pts bx (valO ⟨zn, ⟨g1, g2, g3, g4, g5⟩, L⟩ (.slice sa k sc)) * (pts b (.cells (tabCells nm R (.slice ga V.length gc) lt) 34) * (roH m * (mapH Value.string Mean.val nm N S2.names * (row (.slice ga V.length gc) V.length 83 4 (flatG V) * (grpsH m V S2.groups * (X * F))))))) by ac_rfl))
      have HVV := Lib.hid (show ∀ w', Sat W (X * F) w' → RdT w' (.slice sa k sc) L from fun w' hw => HVV.out w' hw.r)
      have c0 := True.intro
      have v6 := HB.out.r.cell (i := 6) rfl
      have lv := HB.out.r.lt
      have lb := HB.out.r.r.lt
      clear hs3 HT0 hS2 HX
      go_upto_region 13 with fail
      have HCL := Lib.hid (clone_any (.slice sa k sc) L (fun w' h => HVV.out w' h.r.r.r.r.r.r.r) (by have := HL.out; (try simp only at this); omega) HB.out)
      clear c0
      go_wp2_with fail
      refine Calls.mono HCL.out ?_
      rintro e w3 ⟨u, rfl, h3⟩
      obtain ⟨ua, uc, hu, -⟩ := (rowT_rd h3).capd
      rw [HKK.out] at hu
      subst hu
      have h4 := h3.of_eq (show _ = pts bx (valO ⟨zn, ⟨g1, g2, g3, g4, g5⟩, L⟩ (.slice sa k sc)) * (pts b (.cells (tabCells nm R (.slice ga V.length gc) lt) 34) * (rowT (.slice ua k uc) L * (roH m * (mapH Value.string Mean.val nm N S2.names * (row (.slice ga V.length gc) V.length 83 4 (flatG V) * (grpsH m V S2.groups * (pts (bx + 1) (.cells #[.int .i64 c, .int .i64 i] 95) * (X * F)))))))) by ac_rfl)
      have e0 := h4.cell (i := 0) rfl
      have e1 := h4.cell (i := 1) rfl
      have e2 := h4.cell (i := 2) rfl
      have e3 := h4.cell (i := 3) rfl
      have e4 := h4.cell (i := 4) rfl
      have e5 := h4.cell (i := 5) rfl
      have e6 := h4.cell (i := 6) rfl
      have fe := h4.free (i := 6)
      have le := h4.lt
      have h5 := h4.set (i := 6) (v := .slice ua k uc)
      rw [show ((#[.int .i64 zn, .int .i64 g1, .int .i64 g2, .int .i64 g3, .int .i64 g4, .int .i64 g5, .slice sa k sc] : Array Value).setIfInBounds 6 (.slice ua k uc)) = #[.int .i64 zn, .int .i64 g1, .int .i64 g2, .int .i64 g3, .int .i64 g4, .int .i64 g5, .slice ua k uc] by simp] at h5
      have H5 := Lib.hid h5
      clear h3 h4 h5 v6
      go_upto_region 14 with fail
      generalize w3.setCell ⟨bx, 6, none⟩ (.slice ua k uc) = W4 at *
      obtain ⟨r0, r1, r2, r3, r4, r5, r6⟩ := reg_at H5.out.r hc hi
      clear e0 e1 e2 e3 e4 e5 e6 fe le
      have lt4 := H5.out.r.lt
      have f0 := H5.out.r.free (i := 1 + c * 1792 + i * 7)
      have f1 := H5.out.r.free (i := 1 + c * 1792 + i * 7 + 1)
      have f2 := H5.out.r.free (i := 1 + c * 1792 + i * 7 + 2)
      have f3 := H5.out.r.free (i := 1 + c * 1792 + i * 7 + 3)
      have f4 := H5.out.r.free (i := 1 + c * 1792 + i * 7 + 4)
      have f5 := H5.out.r.free (i := 1 + c * 1792 + i * 7 + 5)
      have f6 := H5.out.r.free (i := 1 + c * 1792 + i * 7 + 6)
      refine wp_region_E (fun w' => ∃ X, Sat W (pts bx (valO ⟨zn, ⟨g1, g2, g3, g4, g5⟩, L⟩ (.slice ua k uc)) * X) w') (by kernel_rfl) ?_
      refine wpE_take (i := 0) (q := 8) (v := ?_) rfl (by kernel_rfl) (by kernel_rfl) (by kernel_rfl) (by kernel_rfl) (by kernel_rfl) (fun _ _ _ h => h) (by rfl) ?_ ?_
      rotate_left 1
      · intro w hw; go_simp; try with_reducible rfl
      refine wpE_take (i := 1) (q := 8) (v := ?_) rfl (by kernel_rfl) (by kernel_rfl) (by kernel_rfl) (by kernel_rfl) (by kernel_rfl) (fun _ _ _ h => h) (by rfl) ?_ ?_
      rotate_left 1
      · intro w hw; go_simp; try with_reducible rfl
      refine wpE_take (i := 2) (q := 8) (v := ?_) rfl (by kernel_rfl) (by kernel_rfl) (by kernel_rfl) (by kernel_rfl) (by kernel_rfl) (fun _ _ _ h => h) (by rfl) ?_ ?_
      rotate_left 1
      · intro w hw; go_simp; try with_reducible rfl
      refine wpE_take (i := 3) (q := 8) (v := ?_) rfl (by kernel_rfl) (by kernel_rfl) (by kernel_rfl) (by kernel_rfl) (by kernel_rfl) (fun _ _ _ h => h) (by rfl) ?_ ?_
      rotate_left 1
      · intro w hw; (obtain ⟨X, hw⟩ := hw; have e0 := hw.cell (i := 0) rfl; have e1 := hw.cell (i := 1) rfl; have e2 := hw.cell (i := 2) rfl; have e3 := hw.cell (i := 3) rfl; have e4 := hw.cell (i := 4) rfl; have e5 := hw.cell (i := 5) rfl; have e6 := hw.cell (i := 6) rfl; go_simp; try with_reducible rfl)
      refine wpE_take (i := 4) (q := 5) (v := ?_) rfl (by kernel_rfl) (by kernel_rfl) (by kernel_rfl) (by kernel_rfl) (by kernel_rfl) (fun _ _ _ h => h) (by rfl) ?_ ?_
      rotate_left 1
      · intro w hw; go_simp; try with_reducible rfl
      refine wpE_take (i := 5) (q := 6) (v := ?_) rfl (by kernel_rfl) (by kernel_rfl) (by kernel_rfl) (by kernel_rfl) (by kernel_rfl) (fun _ _ _ h => h) (by rfl) ?_ ?_
      rotate_left 1
      · intro w hw; go_simp; try with_reducible rfl
      refine wpE_take (i := 6) (q := 7) (v := ?_) rfl (by kernel_rfl) (by kernel_rfl) (by kernel_rfl) (by kernel_rfl) (by kernel_rfl) (fun _ _ _ h => h) (by rfl) ?_ ?_
      rotate_left 1
      · intro w hw; go_simp; try with_reducible rfl
      refine wpE_take (i := 7) (q := 8) (v := ?_) rfl (by kernel_rfl) (by kernel_rfl) (by kernel_rfl) (by kernel_rfl) (by kernel_rfl) (fun _ _ _ h => h) (by rfl) ?_ ?_
      rotate_left 1
      · intro w hw; go_simp; try with_reducible rfl
      refine wpE_one (i := 8) rfl (by kernel_rfl) (⟨_, H5.out.drew⟩) (fun K hK => ?_)
      go_simp
      refine hK _ _ ?_
      clear hK K
      refine wpE_done (by kernel_rfl) (by kernel_rfl) ?_
      have h6 := H5.out.of_eq (show _ = pts b (.cells (tabCells nm R (.slice ga V.length gc) lt) 34) * (rowT (.slice ua k uc) L * (roH m * (mapH Value.string Mean.val nm N S2.names * (row (.slice ga V.length gc) V.length 83 4 (flatG V) * (grpsH m V S2.groups * (pts bx (valO ⟨zn, ⟨g1, g2, g3, g4, g5⟩, L⟩ (.slice ua k uc)) * (pts (bx + 1) (.cells #[.int .i64 c, .int .i64 i] 95) * (X * F)))))))) by ac_rfl)
      have HF := Lib.hid (put_end (v := ⟨zn, ⟨g1, g2, g3, g4, g5⟩, L⟩) (u := .slice ua k uc) (F := pts bx (valO ⟨zn, ⟨g1, g2, g3, g4, g5⟩, L⟩ (.slice ua k uc)) * (pts (bx + 1) (.cells #[.int .i64 c, .int .i64 i] 95) * (X * F))) hc hi HL.out HT.out h6)
      exact ⟨rfl, .tuple #[], by unfold results; go_simp, rfl, (by have h9 := HF.out.drewD.less.less.less; rw [HS2.out] at h9; exact h9)⟩

end Go.Proofs.YtebggkgciocciaaGreat
