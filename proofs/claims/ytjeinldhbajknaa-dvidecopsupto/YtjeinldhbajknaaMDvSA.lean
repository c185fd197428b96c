import Derived.Test.YtjeinldhbajknaaMDvRW
/-
  DvidecOps, walked. Conditions: those that each theorem names.
-/
namespace Go.Proofs.Ytjeinldhbajknaa
open Go.RowKit Go.Sp Go.Conc
variable {W w w' : World} {A : HProp}

set_option maxRecDepth 100000 in
set_option maxHeartbeats 4000000 in
theorem ints_same {a b : Option Addr} {c d : Nat} {xs : List Int} (h1 : Rd w (.slice a xs.length c) xs.length 1 (intsL xs)) (h2 : Rd w (.slice b xs.length d) xs.length 1 (intsL xs)) :
    Calls Try.prog 11 #[.slice a xs.length c, .slice b xs.length d] w fun e w' => e = .returned (.bool true) ∧ Ext w w' := by
  obtain ⟨n, hn⟩ : ∃ n, xs.length = n := ⟨_, rfl⟩
  have H1 := Lib.hid h1
  have H2 := Lib.hid h2
  have HN := Lib.hid hn
  have HM := Lib.hid (show n ≤ 9223372036854775807 by have := h1.2.1; rw [hn] at this; simpa [maxLen] using this)
  rw [hn]
  clear h1 h2 hn
  go_enter Try.func11, Try.ntmps11
  go_wp2_with fail
  go_loopg [5] n (fun gg s5 wx => ∃ i : Nat, i ≤ n ∧ gg = n - i ∧ s5 = .int .i64 i ∧ Ext w wx)
  case atStart => exact ⟨0, Nat.zero_le _, rfl, rfl, Ext.refl w⟩
  case round =>
    obtain ⟨i, hi, rfl, rfl, hx⟩ := hrel
    by_cases hlt : i < n
    · obtain ⟨W9, hW9⟩ : ∃ W9, wr.drew = W9 := ⟨_, rfl⟩
      have hx9 := hx.drew
      rw [hW9] at hx9
      obtain ⟨g, off, hga, y0⟩ := rd_arg (H1.out.ext hx9) i (by rw [HN.out]; exact hlt)
      subst hga
      obtain ⟨g2, off2, hga, z0⟩ := rd_arg (H2.out.ext hx9) i (by rw [HN.out]; exact hlt)
      subst hga
      generalize xs.getD i 0 = x at *
      have HX := Lib.hid hx9
      have HLT := Lib.hid hlt
      have j1 : (i : Int) < (n : Int) := by omega
      have j2 : (0 : Int) ≤ (i : Int) := by omega
      clear hx hx9 hlt
      go_upto_region 6 with fail
      refine wp_region_tail (fun w' => w' = W9) 8 (by kernel_rfl) (by kernel_rfl) hW9 ?_
      simp only [List.take_succ_cons, List.take_zero, List.drop_succ_cons, List.drop_zero]
      clear hW9
      iterate 8
        with_reducible refine wpQuiet_val (v := ?_) ?_
        rotate_left 1
        intro K hK
        refine ⟨by kernel_rfl, fun w9 hw9 => ?_, ?_⟩
        · subst hw9; go_simp; try with_reducible rfl
        go_simp
        with_reducible refine hK _ ?_
        clear hK K
      refine wpQuiet_nil ?_
      rintro w17 rfl
      clear y0 z0
      have j3 : wrap64 ((i : Int) + 1) = (i : Int) + 1 := by have := HM.out; have := HLT.out; unfold wrap64; omega
      go_wp2
      go_roundg (n - (i + 1))
      case measure => have := HLT.out; omega
      case rel => exact ⟨i + 1, HLT.out, rfl, by go_num, HX.out⟩
    · have j1 : ¬ ((i : Int) < (n : Int)) := by omega
      have HX := Lib.hid hx
      clear hx
      go_wp2
      go_ret
      exact ⟨rfl, HX.out⟩

theorem argsH_get {V : List (Cmd × Value)} {i : Nat} {x : Cmd × Value} (h : V[i]? = some x) : argsH (V.drop i) = rowI x.2 x.1.args * argsH (V.drop (i + 1)) := by
  obtain ⟨hi, he⟩ := List.getElem?_eq_some_iff.1 h
  rw [List.drop_eq_getElem_cons hi, he]
  rfl
theorem row_get4 {a : Option Addr} {c : Nat} {V : List (Cmd × Value)} {e : TypeId} (h : Sat W (row (.slice a V.length c) V.length e 4 (flatO V) * A) w) {i : Nat} {x : Cmd × Value} (hx : V[i]? = some x) :
    ∃ g, a = some ⟨g, 0, none⟩ ∧ w.cell? ⟨g, i * 4, none⟩ = some (.int .i64 x.1.code) ∧ w.cell? ⟨g, i * 4 + 1, none⟩ = some (.int .i64 x.1.at_) ∧ w.cell? ⟨g, i * 4 + 2, none⟩ = some x.2 ∧ w.cell? ⟨g, i * 4 + 3, none⟩ = some (.string ⟨x.1.text.toArray⟩) := by
  obtain ⟨_, _, e, hat⟩ := h.row_val
  cases e
  obtain ⟨g, hga, y0⟩ := hat (i * 4 + 0) _ ((flatO_get V i 0 x (by decide) hx).trans rfl)
  subst hga
  obtain ⟨g', hga, y1⟩ := hat (i * 4 + 1) _ ((flatO_get V i 1 x (by decide) hx).trans rfl)
  cases hga
  obtain ⟨g', hga, y2⟩ := hat (i * 4 + 2) _ ((flatO_get V i 2 x (by decide) hx).trans rfl)
  cases hga
  obtain ⟨g', hga, y3⟩ := hat (i * 4 + 3) _ ((flatO_get V i 3 x (by decide) hx).trans rfl)
  cases hga
  exact ⟨g, rfl, y0, y1, y2, y3⟩
theorem map_get {V : List (Cmd × Value)} {os : List Cmd} (h : V.map Prod.fst = os) {i : Nat} {o : Cmd} (ho : os[i]? = some o) : ∃ v, V[i]? = some (o, v) := by
  rw [← h, List.getElem?_map] at ho
  cases hv : V[i]? with
  | none => rw [hv] at ho; cases ho
  | some x =>
    rw [hv] at ho
    simp only [Option.map_some, Option.some.injEq] at ho
    obtain ⟨y, v⟩ := x
    simp only at ho
    subst ho
    exact ⟨v, rfl⟩

set_option maxRecDepth 100000 in
set_option maxHeartbeats 8000000 in
theorem ops_law {l : List UInt8} {a : Option Addr} {cap : Nat} (hl : l.length ≤ 1048576) (hcap : l.length ≤ cap) (hv : Rd w (.slice a l.length cap) l.length 1 (l.map byteV)) :
    Calls Try.prog 3 #[.slice a l.length cap] w fun e w' => e = .returned (.bool true) ∧ Sat w (own w) w' := by
  obtain ⟨i0, hi, hz0, hz1, hz2⟩ := info_parts3B info_u8B
  have HI := Lib.hid hi
  have HZ0 := Lib.hid hz0
  have HZ1 := Lib.hid hz1
  have HZ2 := Lib.hid hz2
  have HL := Lib.hid hl
  have HV := Lib.hid hv
  have HCAP := Lib.hid (show ∀ a' n c, Value.slice a l.length cap = .slice a' n c → l.length ≤ c from fun a' n c h => by cases h; exact hcap)
  have HST := Lib.hid (Sat.start w)
  have HRD0 := Lib.hid (hv.ext ((Ext.refl w).alloc (o := .cells #[] 5)))
  clear hi hz0 hz1 hz2 hl hv
  go_enter Try.func3, Try.ntmps3
  go_wp2_with (at_builtin; refine wpList_append_rd rfl _ _ 22 rfl i0 _ 1 Try.underlying22 HI.out HZ0.out HZ1.out HZ2.out rfl (by decide) rfl (empty_row HST.out) (.slice a l.length cap) l.length (bytesB l) rfl ?_ ?_ ?_ ?_ ?_)
  · exact HRD0.out
  · exact bytesB_one _
  · have := HL.out; simp [maxLen]; omega
  · have := HL.out; simp; omega
  intro v15 w1 h1
  have h2 : Sat w (rowB v15 l * own w) w1 := rowB_app (acc := []) (l := l) h1 (by simp) rfl
  have HF := Lib.hid (ops_any (rowB_rd h2))
  have H2 := Lib.hid h2.r
  clear h1 h2 HST HRD0
  go_wp2_with fail
  with_reducible refine Calls.mono HF.out ?_
  rintro e w2 ⟨V1, v1, hm1, rfl, h3⟩
  obtain ⟨a1, c1, hv1, -⟩ := h3.row_val
  subst hv1
  obtain ⟨F1, hF1⟩ : ∃ F1, row (.slice a1 V1.length c1) V1.length 33 4 (flatO V1) * argsH V1 = F1 := ⟨_, rfl⟩
  have h4 := Sat.frame H2.out (A := F1) (h3.of_eq (by rw [← hF1]; ac_rfl))
  have HF2 := Lib.hid (ops_any (HV.out.ext h4.r.toExt))
  have H4 := Lib.hid h4
  have HM1 := Lib.hid hm1
  have HF1 := Lib.hid hF1
  clear h3 h4 hm1 hF1 HF H2
  go_wp2_with fail
  with_reducible refine Calls.mono HF2.out ?_
  rintro e w3 ⟨V2, v2, hm2, rfl, h5⟩
  obtain ⟨a2, c2, hv2, -⟩ := h5.row_val
  subst hv2
  obtain ⟨F2, hF2⟩ : ∃ F2, row (.slice a2 V2.length c2) V2.length 33 4 (flatO V2) * argsH V2 = F2 := ⟨_, rfl⟩
  have h6 := Sat.frame H4.out (A := F2) (h5.of_eq (by rw [← hF2]; ac_rfl))
  have HF3 := Lib.hid (opsR_any (fun w' h => HV.out.ext h.r.r.toExt) HCAP.out h6)
  have HM2 := Lib.hid hm2
  have HFF2 := Lib.hid hF2
  clear h5 h6 hm2 hF2 HF2 H4
  go_wp2_with fail
  with_reducible refine Calls.mono HF3.out ?_
  rintro e w4 ⟨V3, a3, c3, hm3, rfl, h7⟩
  obtain ⟨x, hx⟩ : ∃ x, errM l = x := ⟨_, rfl⟩
  obtain ⟨os, hos⟩ : ∃ os, opsM l = os := ⟨_, rfl⟩
  have hm1 := HM1.out
  have hm2 := HM2.out
  rw [hos] at hm1 hm2 hm3
  obtain ⟨n, hn⟩ : ∃ n, os.length = n := ⟨_, rfl⟩
  have hl1 : V1.length = n := by rw [← hn, ← hm1, List.length_map]
  have hl2 : V2.length = n := by rw [← hn, ← hm2, List.length_map]
  have hl3 : V3.length = n := by rw [← hn, ← hm3, List.length_map]
  have HM := Lib.hid (show n ≤ 9223372036854775807 by have := (Sat.rd h7).2.1; rw [hl3] at this; simpa [maxLen] using this)
  -- what stays, once the first lists are spoilt
  obtain ⟨F, hF⟩ : ∃ F, row (.slice a1 V1.length c1) V1.length 33 4 (flatO V1) * (row (.slice a2 V2.length c2) V2.length 33 4 (flatO V2) * (argsH V2 * (row (.slice a3 V3.length c3) V3.length 34 4 (flatO V3) * (argsH V3 * own w)))) = F := ⟨_, rfl⟩
  have h8 : Sat w (argsH (V1.drop 0) * F) w4 := h7.of_eq (by rw [← HFF2.out, ← HF1.out, ← hF, List.drop_zero]; ac_rfl)
  have hs1 : ∀ x ∈ V1, ∃ a c, x.2 = Value.slice a x.1.args.length c := fun x hx => by
    rw [List.drop_zero] at h8
    obtain ⟨_, _, a, c, e, -⟩ := argsH_rd h8 hx
    exact ⟨a, c, e⟩
  have HFR := Lib.hid (show ∀ w', Sat w F w' → Sat w (own w) w' ∧ ∀ i o, os[i]? = some o → ∃ x1 x2 x3 b1 b2 b3 e1 e2 e3, V1[i]? = some (o, .slice x1 o.args.length e1) ∧ V2[i]? = some (o, .slice x2 o.args.length e2) ∧ V3[i]? = some (o, .slice x3 o.args.length e3) ∧
      (a1 = some ⟨b1, 0, none⟩ ∧ a2 = some ⟨b2, 0, none⟩ ∧ a3 = some ⟨b3, 0, none⟩) ∧
      Rd w' (.slice x2 o.args.length e2) o.args.length 1 (intsL o.args) ∧ Rd w' (.slice x3 o.args.length e3) o.args.length 1 (intsL o.args) ∧
      (w'.cell? ⟨b1, i * 4, none⟩ = some (.int .i64 o.code) ∧ w'.cell? ⟨b1, i * 4 + 1, none⟩ = some (.int .i64 o.at_) ∧ w'.cell? ⟨b1, i * 4 + 2, none⟩ = some (.slice x1 o.args.length e1) ∧ w'.cell? ⟨b1, i * 4 + 3, none⟩ = some (.string ⟨o.text.toArray⟩)) ∧
      w'.cell? ⟨b2, i * 4 + 2, none⟩ = some (.slice x2 o.args.length e2) ∧
      (w'.cell? ⟨b3, i * 4, none⟩ = some (.int .i64 o.code) ∧ w'.cell? ⟨b3, i * 4 + 1, none⟩ = some (.int .i64 o.at_) ∧ w'.cell? ⟨b3, i * 4 + 2, none⟩ = some (.slice x3 o.args.length e3) ∧ w'.cell? ⟨b3, i * 4 + 3, none⟩ = some (.string ⟨o.text.toArray⟩)) from by
    intro w' h
    rw [← hF] at h
    refine ⟨h.r.r.r.r.r, fun i o ho => ?_⟩
    obtain ⟨u1, e1⟩ := map_get hm1 ho
    obtain ⟨u2, e2⟩ := map_get hm2 ho
    obtain ⟨u3, e3⟩ := map_get hm3 ho
    obtain ⟨b1, r1, y0, y1, y2, y3⟩ := row_get4 h e1
    obtain ⟨b2, r2, -, -, q2, -⟩ := row_get4 h.r e2
    obtain ⟨b3, r3, z0, z1, z2, z3⟩ := row_get4 h.r.r.r e3
    have rd2 := argsH_rd h.r.r (List.mem_of_getElem? e2)
    have rd3 := argsH_rd h.r.r.r.r (List.mem_of_getElem? e3)
    obtain ⟨_, _, x2, f2, hv2, -⟩ := id rd2
    obtain ⟨_, _, x3, f3, hv3, -⟩ := id rd3
    obtain ⟨x1, f1, hv1⟩ := hs1 _ (List.mem_of_getElem? e1)
    simp only at hv1 hv2 hv3
    subst hv1 hv2 hv3
    exact ⟨x1, x2, x3, b1, b2, b3, f1, f2, f3, e1, e2, e3, ⟨r1, r2, r3⟩, rd2, rd3, ⟨y0, y1, y2, y3⟩, q2, ⟨z0, z1, z2, z3⟩⟩)
  have HN := Lib.hid hn
  have H8 := Lib.hid h8
  rw [hl1, hl2, hl3, hx]
  clear hm1 hm2 hm3 hl1 hl2 hl3 hF h7 h8 hs1 hx hos hn HF3 HM1 HF1 HM2 HFF2
  go_wp2_with (first | (go_at_call 10; with_reducible refine Calls.mono (num_any _ _) ?_; rintro e _ ⟨rfl, rfl⟩) | fail)
  go_loopg [9, 10] n (fun gg s9 _ wx => ∃ i : Nat, i ≤ n ∧ gg = n - i ∧ s9 = .int .i64 i ∧ Sat w (argsH (V1.drop i) * F) wx)
  case atStart => exact ⟨0, Nat.zero_le _, rfl, rfl, H8.out⟩
  case round =>
    clear H8
    obtain ⟨i, hi, rfl, rfl, hx⟩ := hrel
    by_cases hlt : i < n
    · obtain ⟨o, ho⟩ : ∃ o, os[i]? = some o := ⟨_, List.getElem?_eq_getElem (by rw [HN.out]; exact hlt)⟩
      obtain ⟨W9, hW9⟩ : ∃ W9, wr.drew = W9 := ⟨_, rfl⟩
      have h9 := hx.drew
      rw [hW9] at h9
      obtain ⟨x1, x2, x3, b1, b2, b3, f1, f2, f3, e1, e2, e3, ⟨ra1, ra2, ra3⟩, rd2, rd3, ⟨y0, y1, y2, y3⟩, q2, ⟨z0, z1, z2, z3⟩⟩ := (HFR.out W9 h9.r).2 i o ho
      subst ra1 ra2 ra3
      rw [argsH_get e1] at h9
      have rd1 := Sat.rd (h9.asc)
      simp only at rd1
      have HE1 := Lib.hid e1
      have HO := Lib.hid ho
      have HRD1 := Lib.hid rd1
      have HRD3 := Lib.hid rd3
      have H9 := Lib.hid h9
      have HLT := Lib.hid hlt
      have j1 : (i : Int) < (n : Int) := by omega
      have j2 : (0 : Int) ≤ (i : Int) := by omega
      clear hx h9 hlt e1 e2 e3 rd1 rd2 rd3 q2 ho
      go_upto_region 9 with fail
      refine wp_region_tail (fun w' => Ext W9 w') 50 (by kernel_rfl) (by kernel_rfl) (by rw [hW9]; exact Ext.refl W9) ?_
      simp only [List.take_succ_cons, List.take_zero, List.drop_succ_cons, List.drop_zero]
      clear hW9
      iterate 48
        with_reducible refine wpQuiet_val (v := ?_) ?_
        rotate_left 1
        intro K hK
        refine ⟨by kernel_rfl, fun w9 hw9 => ?_, ?_⟩
        · have a0 := hw9.cell y0
          have a1 := hw9.cell y1
          have a2 := hw9.cell y2
          have a3 := hw9.cell y3
          have c0 := hw9.cell z0
          have c1 := hw9.cell z1
          have c2 := hw9.cell z2
          have c3 := hw9.cell z3
          go_simp; try with_reducible rfl
        go_simp
        with_reducible refine hK _ ?_
        clear hK K
      with_reducible refine wpQuiet_step (fun K hK => ?_)
      go_simp
      refine ⟨.bool true, fun w9 hw9 => ?_, ?_⟩
      · with_reducible refine Calls.mono (ints_same (HRD1.out.ext hw9) (HRD3.out.ext hw9)) ?_
        exact fun _ _ h => ⟨h.1, hw9.trans h.2⟩
      with_reducible refine hK _ ?_
      clear hK K
      with_reducible refine wpQuiet_val (v := ?_) ?_
      rotate_left 1
      intro K hK
      refine ⟨by kernel_rfl, fun w9 hw9 => ?_, ?_⟩
      · go_simp; try with_reducible rfl
      go_simp
      with_reducible refine hK _ ?_
      clear hK K
      refine wpQuiet_nil ?_
      intro w17 hw17
      have h17 := H9.out.ext hw17
      obtain ⟨G, hG⟩ : ∃ G, argsH (V1.drop (i + 1)) * F = G := ⟨_, rfl⟩
      have HG := Lib.hid hG
      have H17 := Lib.hid (show Sat w (row (.slice x1 o.args.length f1) o.args.length 3 1 (intsL o.args) * G) w17 from h17.of_eq (by rw [← hG]; unfold rowI; ac_rfl))
      obtain ⟨m, hm⟩ : ∃ m, o.args.length = m := ⟨_, rfl⟩
      rw [hm] at H17
      have HMM := Lib.hid hm
      have HMX := Lib.hid (show m ≤ 9223372036854775807 by have := H17.out.row_len.2; simpa [maxLen] using this)
      have HYL := Lib.hid (show (intsL o.args).length = m by rw [List.length_map, hm])
      generalize intsL o.args = ys0 at *
      clear y0 y1 y2 y3 z0 z1 z2 z3 h17 hG hm hw17 H9 HRD1 HRD3
      go_wp2_with fail
      go_loopg [10] m (fun gg s10 wx => ∃ (p : Nat) (ys : List Value), p ≤ m ∧ gg = m - p ∧ s10 = .int .i64 p ∧ ys.length = m ∧ Sat w (row (.slice x1 m f1) m 3 1 ys * G) wx)
      case atStart => exact ⟨0, ys0, Nat.zero_le _, rfl, rfl, HYL.out, H17.out⟩
      case round =>
        clear H17 j1
        obtain ⟨p, ys, hp, rfl, rfl, hyl, hxp⟩ := hrel
        have hxF : Sat w F wr := by
          have h := hxp.r
          rw [← HG.out] at h
          exact h.r
        obtain ⟨x1', x2', x3', b1', b2', b3', f1', f2', f3', e1', -, -, ⟨ra1, ra2, ra3⟩, -, -, ⟨-, -, y2, -⟩, -, -⟩ := (HFR.out wr hxF).2 i o HO.out
        cases ra1
        have e0 := HE1.out.symm.trans e1'
        simp only [Option.some.injEq, Prod.mk.injEq, Value.slice.injEq, true_and] at e0
        obtain ⟨rfl, rfl⟩ := e0
        rw [HMM.out] at y2
        have HI1 := Lib.hid (show i < n from HLT.out)
        have j1 : (i : Int) < (n : Int) := by have := HLT.out; omega
        by_cases hpm : p < m
        · obtain ⟨u, hu⟩ : ∃ u, ys[p]? = some u := ⟨_, List.getElem?_eq_getElem (by rw [hyl]; exact hpm)⟩
          obtain ⟨_, _, e, hat⟩ := hxp.row_val
          cases e
          obtain ⟨gx, hgx, yp⟩ := hat p u hu
          subst hgx
          have hfree : wr.frozen? ⟨gx, p, none⟩ = false := Sat.row_free hxp
          have hblt : gx < wr.heap.size := World.block_lt_of_cell? wr _ yp
          have h8 := Sat.row_set (i := p) (u := .int .i64 (-99)) hxp
          have H8 := Lib.hid h8
          have HPM := Lib.hid hpm
          have HYL2 := Lib.hid (show (ys.set p (.int .i64 (-99))).length = m by rw [List.length_set]; exact hyl)
          have k1 : (p : Int) < (m : Int) := by omega
          have k2 : (0 : Int) ≤ (p : Int) := by omega
          have k3 : wrap64 ((p : Int) + 1) = (p : Int) + 1 := by have := HMX.out; unfold wrap64; omega
          clear hxp hxF e1' ra2 ra3 hat hu h8 hpm hyl
          go_wp2
          go_roundg (m - (p + 1))
          case measure => have := HPM.out; omega
          case rel => exact ⟨p + 1, _, HPM.out, rfl, by go_num, HYL2.out, H8.out⟩
        · have k1 : ¬ ((p : Int) < (m : Int)) := by omega
          have H9 := Lib.hid (show Sat w (argsH (V1.drop (i + 1)) * F) wr by rw [HG.out]; exact hxp.r)
          have j3 : wrap64 ((i : Int) + 1) = (i : Int) + 1 := by have := HM.out; have := HLT.out; unfold wrap64; omega
          clear hxp hxF e1' ra2 ra3 hyl hpm
          go_wp2
          go_roundg (n - (i + 1))
          case measure => have := HLT.out; omega
          case rel => exact ⟨i + 1, HLT.out, rfl, by go_num, H9.out⟩
    · have j1 : ¬ ((i : Int) < (n : Int)) := by omega
      have HX := Lib.hid (show Sat w F wr from hx.r)
      clear hx hlt hi
      go_wp2_with fail
      go_loopg [11] n (fun gg s11 wx => ∃ i : Nat, i ≤ n ∧ gg = n - i ∧ s11 = .int .i64 i ∧ Sat w F wx)
      case atStart => exact ⟨0, Nat.zero_le _, rfl, rfl, HX.out⟩
      case round =>
        clear HX j1
        obtain ⟨i, hi, rfl, rfl, hx⟩ := hrel
        by_cases hlt : i < n
        · obtain ⟨o, ho⟩ : ∃ o, os[i]? = some o := ⟨_, List.getElem?_eq_getElem (by rw [HN.out]; exact hlt)⟩
          obtain ⟨W9, hW9⟩ : ∃ W9, wr.drew = W9 := ⟨_, rfl⟩
          have h9 := hx.drew
          rw [hW9] at h9
          obtain ⟨x1, x2, x3, b1, b2, b3, f1, f2, f3, e1, e2, e3, ⟨ra1, ra2, ra3⟩, rd2, rd3, -, q2, ⟨z0, z1, z2, z3⟩⟩ := (HFR.out W9 h9).2 i o ho
          subst ra1 ra2 ra3
          have HRD2 := Lib.hid rd2
          have HRD3 := Lib.hid rd3
          have H9 := Lib.hid h9
          have HLT := Lib.hid hlt
          have j1 : (i : Int) < (n : Int) := by omega
          have j2 : (0 : Int) ≤ (i : Int) := by omega
          have y0 := z0
          have y1 := z1
          have y2 := q2
          have y3 := z3
          clear hx h9 hlt e1 e2 e3 rd2 rd3 q2 ho
          go_upto_region 18 with fail
          refine wp_region_tail (fun w' => Ext W9 w') 11 (by kernel_rfl) (by kernel_rfl) (by rw [hW9]; exact Ext.refl W9) ?_
          simp only [List.take_succ_cons, List.take_zero, List.drop_succ_cons, List.drop_zero]
          clear hW9
          iterate 10
            with_reducible refine wpQuiet_val (v := ?_) ?_
            rotate_left 1
            intro K hK
            refine ⟨by kernel_rfl, fun w9 hw9 => ?_, ?_⟩
            · have a0 := hw9.cell y0
              have a1 := hw9.cell y1
              have a2 := hw9.cell y2
              have a3 := hw9.cell y3
              have c0 := hw9.cell z0
              have c1 := hw9.cell z1
              have c2 := hw9.cell z2
              have c3 := hw9.cell z3
              go_simp; try with_reducible rfl
            go_simp
            with_reducible refine hK _ ?_
            clear hK K
          with_reducible refine wpQuiet_step (fun K hK => ?_)
          go_simp
          refine ⟨.bool true, fun w9 hw9 => ?_, ?_⟩
          · with_reducible refine Calls.mono (ints_same (HRD2.out.ext hw9) (HRD3.out.ext hw9)) ?_
            exact fun _ _ h => ⟨h.1, hw9.trans h.2⟩
          with_reducible refine hK _ ?_
          clear hK K
          refine wpQuiet_nil ?_
          intro w17 hw17
          have H17 := Lib.hid (H9.out.ext hw17)
          clear hw17 H9 y0 y1 y2 y3 z0 z1 z2 z3 HRD2 HRD3
          have j3 : wrap64 ((i : Int) + 1) = (i : Int) + 1 := by have := HM.out; have := HLT.out; unfold wrap64; omega
          go_wp2
          go_roundg (n - (i + 1))
          case measure => have := HLT.out; omega
          case rel => exact ⟨i + 1, HLT.out, rfl, by go_num, H17.out⟩
        · have j1 : ¬ ((i : Int) < (n : Int)) := by omega
          have HLV := Lib.hid (live_any (HFR.out _ hx).1)
          clear hx hlt
          go_wp2_with fail
          with_reducible refine Calls.mono HLV.out ?_
          rintro e w20 ⟨rfl, h20⟩
          have H20 := Lib.hid h20
          clear h20 HLV
          go_wp2
          go_ret
          exact ⟨rfl, H20.out⟩

theorem ops_ext {l : List UInt8} {a : Option Addr} {cap : Nat} (hl : l.length ≤ 1048576) (hcap : l.length ≤ cap) (hv : Rd w (.slice a l.length cap) l.length 1 (l.map byteV)) :
    Calls Try.prog 3 #[.slice a l.length cap] w fun e w' => e = .returned (.bool true) ∧ Ext w w' :=
  (ops_law hl hcap hv).mono fun _ _ h => ⟨h.1, h.2.toExt⟩

end Go.Proofs.Ytjeinldhbajknaa
