import Derived.Test.YticljfpippbkkaaMNumGL
import Derived.Test.YticljfpippbkkaaMNKW
import Derived.Test.YticljfpippbkkaaMNA
import Derived.Test.YticljfpippbkkaaMTS
import Derived.Test.YticljfpippbkkaaMNRI
/-
  NumbersLeft, the walk. Conditions: those that each theorem names.
-/
namespace Go.Proofs.Yticljfpippbkkaa
open Go.RowKit Go.Sp
variable {W w w' : World} {A : HProp} {bs bt N : Nat} {L : List Tok} {S : TabS}

theorem LtAt.opened (h : LtAt W A bs bt L N S w) : ∃ Y B, Sat W ((A * B) * Y) w ∧ ∀ A' w', Sat W (A' * Y) w' → TabAt W A' bt N S w' := by
  obtain ⟨Y, h1, h2⟩ := h
  obtain ⟨Y2, h3, -⟩ := h1.focus
  exact ⟨Y, Y2, h3.of_eq (by ac_rfl), h2⟩
/-- a list is made beside a table -/
theorem ltlist_any {Y : HProp} {v : Value} (hT : ∀ A' w', Sat W (A' * Y) w' → TabAt W A' bt N S w') (hv : ∀ w', Sat W (A * Y) w' → RdT w' v L) (hl : L.length ≤ 2000000) (h : Sat W (A * Y) w) :
    Calls Try.prog 12 #[v] w fun e w' => ∃ b, e = .returned (.pointer (some ⟨b, 0, none⟩)) ∧ LtAt W A b bt L N S w' :=
  (glist_any hv hl h).mono fun _ _ ⟨b, he, h⟩ => ⟨b, he, Y, h, hT⟩
theorem ltknows_any (h : LtAt W A bs bt L N S w) : Calls Try.prog 11 #[] w fun e w' => e = .returned (.bool true) ∧ LtAt W A bs bt L N S w' := by
  obtain ⟨Y, h1, back⟩ := h.focus
  exact (nknows_any h1).mono fun _ _ ⟨he, h⟩ => ⟨he, back _ _ h⟩
theorem LtAt.cast {A' : HProp} (h : LtAt W A bs bt L N S w) (e : A = A') : LtAt W A' bs bt L N S w := e ▸ h
theorem made_size (Nn Dd : Nat → Int) (Gg : Nat → Gl) : (madeA Nn Dd Gg).size = 21 := rfl
theorem row_stop {F : HProp} (h : Sat W F w) : Sat W (rowT (.slice (some ⟨w.heap.size, 0, none⟩) 1 1) [⟨16, 0, stopK⟩] * F) (w.alloc (.cells #[.int .i64 16, .int .u8 0, .string stopK] 28)) :=
  (h.alloc (.cells #[.int .i64 16, .int .u8 0, .string stopK] 28)).row_whole 1 (size := 3) (by simp [maxLen]) (by simp)
theorem stop_ok (hS : S.names stopK = none) : Stops S ⟨16, 0, stopK⟩ := by
  refine ⟨rfl, by decide, ?_⟩
  rw [meansM, if_pos rfl, lookN, hS]
  rfl
abbrev stopO : Obj := .cells #[.int .i64 16, .int .u8 0, .string stopK] 28
set_option maxRecDepth 1000000 in
set_option maxHeartbeats 16000000 in
theorem numl_ext {v : Value} (Nn Dd : Nat → Int) (Gg : Nat → Gl) (hv : RdT W v L) (hl : L.length ≤ 1048576) :
    Calls Try.prog 7 #[.agg (madeA Nn Dd Gg), v] W fun e w' => e = .returned (.bool true) ∧ Ext W w' := by
  obtain ⟨va, vc, hvv, hvc⟩ := hv.capd
  subst hvv
  obtain ⟨n, hn⟩ : ∃ n, L.length = n := ⟨_, rfl⟩
  rw [hn] at hv hl hvc
  rw [hn]
  have hb := (Sat.start W).alloc (madeO Nn Dd Gg)
  have hex : Ext W (W.alloc (madeO Nn Dd Gg)) := hb.r.toExt
  have HPA := Lib.hid (fun W' w F (h : Sat W' F w) => pair_any Nn Dd Gg h)
  have hms := made_size Nn Dd Gg
  unfold madeO at hb hex
  generalize madeA Nn Dd Gg = MA at *
  obtain ⟨b2, hb2⟩ : ∃ b, W.heap.size = b := ⟨_, rfl⟩
  obtain ⟨W1, hW1⟩ : ∃ W1, W.alloc (.cells MA 73) = W1 := ⟨_, rfl⟩
  rw [hb2, hW1] at hb
  rw [hW1] at hex
  have HV := Lib.hid (show ∀ w', Ext W1 w' → RdT w' (.slice va n vc) L from fun w' h => hv.ext (hex.trans h))
  have HE := Lib.hid hex
  have HN := Lib.hid hn
  have hblk := hb.blk
  have hd : (Try.prog.info? 73).map (·.size) = some MA.size := by rw [hms]; kernel_rfl
  have hmn : MA ≠ #[] := by intro h; rw [h] at hms; simp at hms
  have VC := Lib.hid hvc
  clear hb hex hv hn hvc
  go_enter Try.func7, Try.ntmps7
  go_upto_region 1 with fail
  (try rw [hW1])
  (try rw [hb2])
  go_step
  refine wpList_load_row rfl 73 (.tmp 2) rfl b2 rfl 73 _ _ _ hblk Try.underlying73 rfl hd ?_
  clear hW1 hb2 hblk hd hmn hms
  go_wp2_with fail
  with_reducible refine Calls.mono (HPA.out W1 _ _ (Sat.start W1)) ?_
  rintro e w1 ⟨bt, bd, rfl, h1⟩
  obtain ⟨N, S, Z, hS, h2, -⟩ := h1.tab
  obtain ⟨Y, h3, hT⟩ := h2.focus
  have HS := Lib.hid hS
  have HT := Lib.hid hT
  have HL := Lib.hid (ltlist_any hT (v := .slice va n vc) (L := L) (A := own W1 * Z) (fun w' h => HV.out w' h.l.l.toExt) (by have := HN.out; omega) h3)
  clear h1 hS h2 h3 hT HPA
  go_wp2_with fail
  with_reducible refine Calls.mono HL.out ?_
  rintro e w2 ⟨bs, rfl, h4⟩
  have HG := Lib.hid (nglue_any (by have := HN.out; omega) h4)
  clear h4 HL HT
  obtain ⟨r, hr⟩ : ∃ r, glueM S L = r := ⟨_, rfl⟩
  rw [hr] at HG
  have HR := Lib.hid hr
  clear hr
  obtain ⟨⟨g1, g2, g3, g4, g5⟩, er, X1⟩ := r
  simp only at HG
  go_wp2_with fail
  unfold srcV at HG
  with_reducible refine Calls.mono HG.out ?_
  rintro e w3 ⟨rfl, h5⟩
  obtain ⟨Y5, h6, back5⟩ := h5.focus
  have h8 := back5 (pts w3.heap.size (glO g1 g2 g3 g4 g5) * (own W1 * Z)) _ ((h6.alloc (glO g1 g2 g3 g4 g5)).asc')
  obtain ⟨b8, hb8⟩ : ∃ b, w3.heap.size = b := ⟨_, rfl⟩
  obtain ⟨w4, hw4⟩ : ∃ w4, w3.alloc (glO g1 g2 g3 g4 g5) = w4 := ⟨_, rfl⟩
  rw [hb8, hw4] at h8
  have H8 := Lib.hid h8
  clear h5 h6 back5 h8 HG
  go_upto_region 4 with fail
  (try rw [show w3.alloc (.cells #[.int .i64 g1, .int .i64 g2, .int .i64 g3, .int .i64 g4, .int .i64 g5] 57) = w4 from hw4])
  (try rw [hb8])
  clear hw4 hb8
  have hsuf := glue_suf S L
  rw [HR.out] at hsuf
  simp only at hsuf
  have hxl := hsuf.length_le
  rw [HN.out] at hxl
  obtain ⟨x, hx⟩ : ∃ x, X1.length = x := ⟨_, rfl⟩
  rw [hx] at hxl
  have HXL := Lib.hid hx
  have hdr := List.suffix_iff_eq_drop.1 hsuf
  rw [HN.out, hx] at hdr
  have HDR := Lib.hid hdr
  have HRS := Lib.hid (ltrest_any (by omega) H8.out)
  clear hsuf hx hdr H8
  go_wp2_with fail
  with_reducible refine Calls.mono HRS.out ?_
  rintro e w5 ⟨u, rfl, h9⟩
  have hrd := rowT_rd h9.sat
  obtain ⟨ua, uc, hu⟩ := hrd.val
  subst hu
  rw [HXL.out] at h9 hrd
  rw [HXL.out]
  have HKN := Lib.hid (ltknows_any h9)
  have HU := Lib.hid (show ∀ w', Ext w5 w' → RdT w' (.slice ua x uc) X1 from fun w' h => hrd.ext h)
  have i1 : ¬ (n : Int) < (x : Int) := by omega
  clear h9 hrd HRS
  go_wp2_with fail
  with_reducible refine Calls.mono HKN.out ?_
  rintro e w6 ⟨rfl, h10⟩
  have H10 := Lib.hid h10
  have hrd := rowT_rd h10.sat
  rw [show (RdT w6 (.slice ua x uc) X1) = RdT w6 (.slice ua x uc) X1 from rfl] at hrd
  have HRD := Lib.hid hrd
  obtain ⟨k, hk⟩ : ∃ k, n - x = k := ⟨_, rfl⟩
  rw [hk] at HDR
  have hkx : k + x = n := by omega
  have e2 : wrap64 ((n : Int) - (x : Int)) = (k : Int) := by
    rw [show (n : Int) - (x : Int) = (k : Int) by omega]
    exact wrap64_id _ (by omega) (by omega)
  have e3 : (n : Int) - (x : Int) = (k : Int) := by omega
  have HKX := Lib.hid hkx
  clear h10 hrd HKN HU hk hkx
  by_cases her : er = 0
  · subst her
    go_wp2_with fail
    with_reducible refine Calls.mono (num_any 0 w6) ?_
    rintro e w7 ⟨rfl, rfl⟩
    clear e2 e3 i1
    obtain ⟨vs, hvs⟩ : ∃ vs, (if vc = k then va else va.map (·.add (k * 3))) = vs := ⟨_, rfl⟩
    have hrs := RdT.dropI (HV.out w6 H10.out.sat.r.r.l.toExt) (m := k) (by have := HN.out; have := HKX.out; omega)
    rw [← HDR.out] at hrs
    unfold sliced at hrs
    rw [hvs] at hrs
    have HST := Lib.hid (sameT_any X1 X1 (.slice ua x uc) (.slice vs (n - k) (vc - k)) w6 HRD.out hrs)
    simp only [decide_true] at HST
    have j1 : (k : Int) ≤ (n : Int) := by have := HKX.out; omega
    have j2 : (n : Int) ≤ (vc : Int) := by have := VC.out; omega
    clear hrs
    go_upto_region 10 with fail
    go_wp2_with fail
    with_reducible refine Calls.mono HST.out ?_
    rintro e w7 ⟨rfl, q, rfl⟩
    obtain ⟨Y6, B6, h11, hT6⟩ := (H10.out.ext (drewN_ext w6 q)).opened
    obtain ⟨w7, hw7⟩ : ∃ w7, w6.drewN q = w7 := ⟨_, rfl⟩
    rw [hw7] at h11
    rw [hw7]
    have HT6 := Lib.hid hT6
    have h12 := h11.alloc (.cells #[.int .i64 16, .int .u8 0, .string stopK] 28)
    obtain ⟨b12, hb12⟩ : ∃ b, w7.heap.size = b := ⟨_, rfl⟩
    obtain ⟨w8, hw8⟩ : ∃ w8, w7.alloc (.cells #[.int .i64 16, .int .u8 0, .string stopK] 28) = w8 := ⟨_, rfl⟩
    rw [hb12, hw8] at h12
    have H12 := Lib.hid h12
    clear hw7 h11 hT6 h12 hvs HST H10 HRD j1 j2
    go_upto_region 13 with fail
    (try rw [show w7.alloc (.cells #[.int .i64 16, .int .u8 0, .string ⟨#[110, 111, 32, 115, 117, 99, 104]⟩] 28) = w8 from hw8])
    (try rw [hb12])
    clear hw8 hb12
    obtain ⟨i0, hi, hz0, hz1, hz2⟩ := info_parts3 info_tok
    have HI := Lib.hid hi
    have HZ0 := Lib.hid hz0
    have HZ1 := Lib.hid hz1
    have HZ2 := Lib.hid hz2
    have hkn : k ≤ n := by have := HKX.out; omega
    have HTN := Lib.hid (show (L.take k).length = k by rw [List.length_take, HN.out]; omega)
    have HKN2 := Lib.hid (show k ≤ 1048576 by omega)
    have HTK := Lib.hid (show ∀ w', Ext W1 w' → RdT w' (.slice va k vc) (L.take k) from fun w' h => (HV.out w' h).take (by rw [HN.out]; exact hkn))
    have j3 : (k : Int) ≤ (vc : Int) := by have := VC.out; omega
    clear hi hz0 hz1 hz2 hkn
    have H13 := Lib.hid (H12.out.of_eq (show _ = pts b12 stopO * (rowT (.slice ua x uc) X1 * (pts b8 (glO g1 g2 g3 g4 g5) * (own W1 * Z)) * B6 * Y6) from rfl))
    clear H12
    refine wp_region_C (fun w' => ∃ X, Sat W1 (pts b12 stopO * X) w') (by kernel_rfl) ?_
    refine wpC_take (i := 1) (v := ?_) rfl (by kernel_rfl) (by kernel_rfl) (by kernel_rfl) (fun _ _ _ h => h) (by rfl) ?_ ?_
    rotate_left 1
    · intro w hw; go_simp; try with_reducible rfl
    refine wpC_take (i := 2) (v := ?_) rfl (by kernel_rfl) (by kernel_rfl) (by kernel_rfl) (fun _ _ _ h => h) (by rfl) ?_ ?_
    rotate_left 1
    · intro w hw; go_simp; try with_reducible rfl
    refine wpC_take (i := 3) (v := ?_) rfl (by kernel_rfl) (by kernel_rfl) (by kernel_rfl) (fun _ _ _ h => h) (by rfl) ?_ ?_
    rotate_left 1
    · intro w hw; go_simp; try with_reducible rfl
    refine wpC_take (i := 5) (v := ?_) rfl (by kernel_rfl) (by kernel_rfl) (by kernel_rfl) (fun _ _ _ h => h) (by rfl) ?_ ?_
    rotate_left 1
    · intro w hw; (obtain ⟨X, hw⟩ := hw; have d0 := hw.cell (i := 0) rfl; have d1 := hw.cell (i := 1) rfl; have d2 := hw.cell (i := 2) rfl; go_simp; try with_reducible rfl)
    refine wpC_ready (rs := [0, 6]) (by kernel_rfl) (by simp) (⟨_, H13.out.drew⟩) ?_
    refine AllReadyC.cons rfl (fun K hK => ?_) ?_
    · go_simp
      refine hK _ _ ?_
      clear hK K
      have H14 := Lib.hid (row_empty H13.out.drew)
      refine wpC_ready (rs := [4, 6]) (by kernel_rfl) (by simp) (⟨_, H14.out.r⟩) ?_
      refine AllReadyC.cons rfl (fun K hK => ?_) ?_
      · skip
        refine step_append_rd rfl _ _ 22 rfl i0 _ 32 Try.underlying22 HI.out HZ0.out HZ1.out HZ2.out rfl (by omega) rfl H14.out (.slice va k vc) ((L.take k)).length (flat (L.take k)) rfl ((HTK.out _ H14.out.r.r.l.l.r.r.l.toExt).1) (flat_one (L.take k)) (by have := HTN.out; have := HKN2.out; simp [maxLen] at *; omega) (by have := HTN.out; have := HKN2.out; simp at *; omega) ?_
        intro v1 w9 hq _
        have hq' := rowT_one (X := L.take k) hq (by simp) (by simp)
        obtain ⟨pa, pc, rfl, -⟩ := (rowT_rd hq').capd
        rw [HTN.out] at hq'
        rw [HTN.out]
        have H15 := Lib.hid hq'
        clear hq hq' H14
        go_simp
        refine hK _ _ ?_
        clear hK K
        refine wpC_one (i := 6) rfl (by kernel_rfl) (⟨_, H15.out.r⟩) (fun K hK => ?_)
        go_simp
        go_simp
        refine hK _ _ ?_
        clear hK K
        have h16 := row_stop H15.out
        obtain ⟨b14, hb14⟩ : ∃ b, w9.heap.size = b := ⟨_, rfl⟩
        rw [hb14] at h16
        rw [hb14]
        clear hb14
        have H16 := Lib.hid (h16.of_eq (show _ = rowT (.slice pa k pc) (L.take k) * (rowT (.slice (some ⟨b14, 0, none⟩) 1 1) [⟨16, 0, stopK⟩] * (pts b12 stopO * (rowT (.slice ua x uc) X1 * (pts b8 (glO g1 g2 g3 g4 g5) * (own W1 * Z)) * B6 * Y6))) by ac_rfl))
        clear h16 H15
        have hx1 := H16.out.of_eq (show _ = row (.slice pa k pc) k 28 3 (flat (L.take k)) * (rowT (.slice (some ⟨b14, 0, none⟩) 1 1) [⟨16, 0, stopK⟩] * (pts b12 stopO * (rowT (.slice ua x uc) X1 * (pts b8 (glO g1 g2 g3 g4 g5) * (own W1 * Z)) * B6 * Y6))) by rw [rowT, HTN.out])
        have HX1 := Lib.hid hx1
        have HRS := Lib.hid (rowT_rd H16.out.r)
        clear hx1
        refine wpC_one (i := 7) rfl (by kernel_rfl) (⟨_, H16.out.r.r⟩) (fun K hK => ?_)
        refine step_append_rd rfl _ _ 22 rfl i0 _ 32 Try.underlying22 HI.out HZ0.out HZ1.out HZ2.out rfl (by omega) rfl HX1.out (.slice (some ⟨b14, 0, none⟩) 1 1) (([⟨16, 0, stopK⟩] : List Tok)).length (flat ([⟨16, 0, stopK⟩] : List Tok)) rfl (HRS.out.1) (flat_one ([⟨16, 0, stopK⟩] : List Tok)) (by have := HTN.out; have := HKN2.out; simp [maxLen] at *; omega) (by have := HTN.out; have := HKN2.out; simp at *; omega) ?_
        intro v3 w11 hq _
        have hq' := rowT_app (acc := L.take k) (X := [(⟨16, 0, stopK⟩ : Tok)]) hq (by rw [HTN.out])
        obtain ⟨qa, qc, rfl, -⟩ := (rowT_rd hq').capd
        rw [show (L.take k ++ [(⟨16, 0, stopK⟩ : Tok)]).length = k + 1 by rw [List.length_append, HTN.out]; rfl] at hq'
        rw [show (L.take k ++ [(⟨16, 0, stopK⟩ : Tok)]).length = k + 1 by rw [List.length_append, HTN.out]; rfl]
        have H17 := Lib.hid (hq'.of_eq (show _ = (rowT (.slice qa (k + 1) qc) (L.take k ++ [⟨16, 0, stopK⟩]) * (rowT (.slice (some ⟨b14, 0, none⟩) 1 1) [⟨16, 0, stopK⟩] * (pts b12 stopO * (rowT (.slice ua x uc) X1 * (pts b8 (glO g1 g2 g3 g4 g5) * (own W1 * Z)) * B6)))) * Y6 by ac_rfl))
        have HC7 := Lib.hid (show ∃ X, Sat W1 (pts b12 stopO * X) w11 from ⟨_, hq'.r.r⟩)
        clear hq hq' HX1 HRS H16
        go_simp
        refine hK _ _ ?_
        clear hK K
        refine wpC_one (i := 8) rfl (by kernel_rfl) (HC7.out) (fun K hK => ?_)
        go_simp
        have HLL := Lib.hid (show (L.take k ++ [(⟨16, 0, stopK⟩ : Tok)]).length ≤ 2000000 by have := HTN.out; have := HKN2.out; rw [List.length_append, List.length_singleton]; omega)
        refine Calls.mono (ltlist_any HT6.out (v := .slice qa (k + 1) qc) (fun w' h => rowT_rd h.l) HLL.out H17.out) ?_
        rintro e w12 ⟨b13, rfl, h18⟩
        have H19 := Lib.hid (h18.cast (show _ = (rowT (.slice qa (k + 1) qc) (L.take k ++ [⟨16, 0, stopK⟩]) * (rowT (.slice (some ⟨b14, 0, none⟩) 1 1) [⟨16, 0, stopK⟩] * (pts b12 stopO * (rowT (.slice ua x uc) X1 * B6)))) * (pts b8 (glO g1 g2 g3 g4 g5) * (own W1 * Z)) by ac_rfl)).less
        have HC8 := Lib.hid (show ∃ X, Sat W1 (pts b12 stopO * X) w12 from ⟨_, h18.sat.r.r⟩)
        clear h18 H17 HLL HC7
        go_simp
        refine hK _ _ ?_
        clear hK K
        refine wpC_take (i := 9) (v := ?_) rfl (by kernel_rfl) (by kernel_rfl) (by kernel_rfl) (fun _ _ _ h => h) (by rfl) ?_ ?_
        rotate_left 1
        · intro w hw; go_simp; try with_reducible rfl
        refine wpC_done (by kernel_rfl) (HC8.out) ?_
        clear HC8 HT6 HTK HTN j3 HZ0 HZ1 HZ2 HI
        have hcz : L.take k ++ [(⟨16, 0, stopK⟩ : Tok)] = cutZ ⟨16, 0, stopK⟩ x L := by
          rw [cutZ, HN.out, show n - x = k by have := HKX.out; omega]
        have hgc := glue_cut (stop_ok HS.out) (d := x) L (by rw [HR.out, HXL.out]; exact Nat.le_refl _)
        rw [HR.out] at hgc
        simp only at hgc
        rw [cut_all (show X1.length ≤ x by rw [HXL.out]; exact Nat.le_refl _)] at hgc
        have h20 := H19.out
        rw [hcz] at h20
        have HG2 := Lib.hid (nglue_any (by rw [cutZ, List.length_append, List.length_take]; have := HN.out; simp; omega) h20)
        rw [hgc] at HG2
        unfold srcV at HG2
        simp only at HG2
        clear hcz hgc h20 H19
        go_wp2_with fail
        with_reducible refine Calls.mono HG2.out ?_
        rintro e w13 ⟨rfl, h21⟩
        obtain ⟨Y7, h22, back7⟩ := h21.focus
        have h23 := back7 (pts w13.heap.size (glO g1 g2 g3 g4 g5) * (pts b8 (glO g1 g2 g3 g4 g5) * (own W1 * Z))) _ ((h22.alloc (glO g1 g2 g3 g4 g5)).asc')
        obtain ⟨b15, hb15⟩ : ∃ b, w13.heap.size = b := ⟨_, rfl⟩
        obtain ⟨w14, hw14⟩ : ∃ w14, w13.alloc (glO g1 g2 g3 g4 g5) = w14 := ⟨_, rfl⟩
        rw [hb15, hw14] at h23
        have H23 := Lib.hid h23
        clear h21 h22 h23 back7 HG2
        go_upto_region 15 with fail
        (try rw [show w13.alloc (.cells #[.int .i64 g1, .int .i64 g2, .int .i64 g3, .int .i64 g4, .int .i64 g5] 57) = w14 from hw14])
        (try rw [hb15])
        clear hw14 hb15
        have hc := H23.out.sat
        have d0 := hc.cell (i := 0) rfl
        have d1 := hc.cell (i := 1) rfl
        have d2 := hc.cell (i := 2) rfl
        have d3 := hc.cell (i := 3) rfl
        have d4 := hc.cell (i := 4) rfl
        have c0 := hc.r.cell (i := 0) rfl
        have c1 := hc.r.cell (i := 1) rfl
        have c2 := hc.r.cell (i := 2) rfl
        have c3 := hc.r.cell (i := 3) rfl
        have c4 := hc.r.cell (i := 4) rfl
        have q1 := fun w => run_eql_glue2 w ⟨g1, g2, g3, g4, g5⟩
        simp only [Gl.val] at q1
        have HRS := Lib.hid (ltrest_any (by decide) H23.out)
        clear hc
        go_wp2_with fail
        with_reducible refine Calls.mono (num_any 0 w14) ?_
        rintro e w15 ⟨rfl, rfl⟩
        go_wp2_with fail
        with_reducible refine Calls.mono HRS.out ?_
        rintro e w16 ⟨u2, rfl, h24⟩
        obtain ⟨ta, tc, hu2⟩ := (rowT_rd h24.sat).val
        subst hu2
        have HF := Lib.hid (HE.out.trans h24.sat.r.r.r.l.toExt)
        simp only [List.length_singleton]
        clear h24 HRS H23 c0 c1 c2 c3 c4 d0 d1 d2 d3 d4 q1
        go_wp2
        go_ret
        exact ⟨rfl, HF.out⟩
      refine AllReadyC.cons rfl (fun K hK => ?_) ?_
      · go_simp
        refine hK _ _ ?_
        clear hK K
        have h15 := row_stop H14.out
        rw [show (w8.drew.alloc (.cells #[] 28)).heap.size = w8.heap.size + 1 by simp] at h15
        obtain ⟨b14, hb14⟩ : ∃ b, w8.heap.size + 1 = b := ⟨_, rfl⟩
        rw [hb14] at h15
        rw [hb14]
        clear hb14
        have H15 := Lib.hid (h15.of_eq (show _ = row (.slice (some ⟨w8.drew.heap.size, 0, none⟩) 0 0) 0 28 3 [] * (rowT (.slice (some ⟨b14, 0, none⟩) 1 1) [⟨16, 0, stopK⟩] * (pts b12 stopO * (rowT (.slice ua x uc) X1 * (pts b8 (glO g1 g2 g3 g4 g5) * (own W1 * Z)) * B6 * Y6))) by ac_rfl))
        clear h15 H14
        refine wpC_one (i := 4) rfl (by kernel_rfl) (⟨_, H15.out.r.r⟩) (fun K hK => ?_)
        refine step_append_rd rfl _ _ 22 rfl i0 _ 32 Try.underlying22 HI.out HZ0.out HZ1.out HZ2.out rfl (by omega) rfl H15.out (.slice va k vc) ((L.take k)).length (flat (L.take k)) rfl ((HTK.out _ H15.out.r.r.r.l.l.r.r.l.toExt).1) (flat_one (L.take k)) (by have := HTN.out; have := HKN2.out; simp [maxLen] at *; omega) (by have := HTN.out; have := HKN2.out; simp at *; omega) ?_
        intro v1 w9 hq _
        have hq' := rowT_one (X := L.take k) hq (by simp) (by simp)
        obtain ⟨pa, pc, rfl, -⟩ := (rowT_rd hq').capd
        rw [HTN.out] at hq'
        rw [HTN.out]
        have H16 := Lib.hid hq'
        clear hq hq' H15
        go_simp
        refine hK _ _ ?_
        clear hK K
        have hx1 := H16.out.of_eq (show _ = row (.slice pa k pc) k 28 3 (flat (L.take k)) * (rowT (.slice (some ⟨b14, 0, none⟩) 1 1) [⟨16, 0, stopK⟩] * (pts b12 stopO * (rowT (.slice ua x uc) X1 * (pts b8 (glO g1 g2 g3 g4 g5) * (own W1 * Z)) * B6 * Y6))) by rw [rowT, HTN.out])
        have HX1 := Lib.hid hx1
        have HRS := Lib.hid (rowT_rd H16.out.r)
        clear hx1
        refine wpC_one (i := 7) rfl (by kernel_rfl) (⟨_, H16.out.r.r⟩) (fun K hK => ?_)
        refine step_append_rd rfl _ _ 22 rfl i0 _ 32 Try.underlying22 HI.out HZ0.out HZ1.out HZ2.out rfl (by omega) rfl HX1.out (.slice (some ⟨b14, 0, none⟩) 1 1) (([⟨16, 0, stopK⟩] : List Tok)).length (flat ([⟨16, 0, stopK⟩] : List Tok)) rfl (HRS.out.1) (flat_one ([⟨16, 0, stopK⟩] : List Tok)) (by have := HTN.out; have := HKN2.out; simp [maxLen] at *; omega) (by have := HTN.out; have := HKN2.out; simp at *; omega) ?_
        intro v3 w11 hq _
        have hq' := rowT_app (acc := L.take k) (X := [(⟨16, 0, stopK⟩ : Tok)]) hq (by rw [HTN.out])
        obtain ⟨qa, qc, rfl, -⟩ := (rowT_rd hq').capd
        rw [show (L.take k ++ [(⟨16, 0, stopK⟩ : Tok)]).length = k + 1 by rw [List.length_append, HTN.out]; rfl] at hq'
        rw [show (L.take k ++ [(⟨16, 0, stopK⟩ : Tok)]).length = k + 1 by rw [List.length_append, HTN.out]; rfl]
        have H17 := Lib.hid (hq'.of_eq (show _ = (rowT (.slice qa (k + 1) qc) (L.take k ++ [⟨16, 0, stopK⟩]) * (rowT (.slice (some ⟨b14, 0, none⟩) 1 1) [⟨16, 0, stopK⟩] * (pts b12 stopO * (rowT (.slice ua x uc) X1 * (pts b8 (glO g1 g2 g3 g4 g5) * (own W1 * Z)) * B6)))) * Y6 by ac_rfl))
        have HC7 := Lib.hid (show ∃ X, Sat W1 (pts b12 stopO * X) w11 from ⟨_, hq'.r.r⟩)
        clear hq hq' HX1 HRS H16
        go_simp
        refine hK _ _ ?_
        clear hK K
        refine wpC_one (i := 8) rfl (by kernel_rfl) (HC7.out) (fun K hK => ?_)
        go_simp
        have HLL := Lib.hid (show (L.take k ++ [(⟨16, 0, stopK⟩ : Tok)]).length ≤ 2000000 by have := HTN.out; have := HKN2.out; rw [List.length_append, List.length_singleton]; omega)
        refine Calls.mono (ltlist_any HT6.out (v := .slice qa (k + 1) qc) (fun w' h => rowT_rd h.l) HLL.out H17.out) ?_
        rintro e w12 ⟨b13, rfl, h18⟩
        have H19 := Lib.hid (h18.cast (show _ = (rowT (.slice qa (k + 1) qc) (L.take k ++ [⟨16, 0, stopK⟩]) * (rowT (.slice (some ⟨b14, 0, none⟩) 1 1) [⟨16, 0, stopK⟩] * (pts b12 stopO * (rowT (.slice ua x uc) X1 * B6)))) * (pts b8 (glO g1 g2 g3 g4 g5) * (own W1 * Z)) by ac_rfl)).less
        have HC8 := Lib.hid (show ∃ X, Sat W1 (pts b12 stopO * X) w12 from ⟨_, h18.sat.r.r⟩)
        clear h18 H17 HLL HC7
        go_simp
        refine hK _ _ ?_
        clear hK K
        refine wpC_take (i := 9) (v := ?_) rfl (by kernel_rfl) (by kernel_rfl) (by kernel_rfl) (fun _ _ _ h => h) (by rfl) ?_ ?_
        rotate_left 1
        · intro w hw; go_simp; try with_reducible rfl
        refine wpC_done (by kernel_rfl) (HC8.out) ?_
        clear HC8 HT6 HTK HTN j3 HZ0 HZ1 HZ2 HI
        have hcz : L.take k ++ [(⟨16, 0, stopK⟩ : Tok)] = cutZ ⟨16, 0, stopK⟩ x L := by
          rw [cutZ, HN.out, show n - x = k by have := HKX.out; omega]
        have hgc := glue_cut (stop_ok HS.out) (d := x) L (by rw [HR.out, HXL.out]; exact Nat.le_refl _)
        rw [HR.out] at hgc
        simp only at hgc
        rw [cut_all (show X1.length ≤ x by rw [HXL.out]; exact Nat.le_refl _)] at hgc
        have h20 := H19.out
        rw [hcz] at h20
        have HG2 := Lib.hid (nglue_any (by rw [cutZ, List.length_append, List.length_take]; have := HN.out; simp; omega) h20)
        rw [hgc] at HG2
        unfold srcV at HG2
        simp only at HG2
        clear hcz hgc h20 H19
        go_wp2_with fail
        with_reducible refine Calls.mono HG2.out ?_
        rintro e w13 ⟨rfl, h21⟩
        obtain ⟨Y7, h22, back7⟩ := h21.focus
        have h23 := back7 (pts w13.heap.size (glO g1 g2 g3 g4 g5) * (pts b8 (glO g1 g2 g3 g4 g5) * (own W1 * Z))) _ ((h22.alloc (glO g1 g2 g3 g4 g5)).asc')
        obtain ⟨b15, hb15⟩ : ∃ b, w13.heap.size = b := ⟨_, rfl⟩
        obtain ⟨w14, hw14⟩ : ∃ w14, w13.alloc (glO g1 g2 g3 g4 g5) = w14 := ⟨_, rfl⟩
        rw [hb15, hw14] at h23
        have H23 := Lib.hid h23
        clear h21 h22 h23 back7 HG2
        go_upto_region 15 with fail
        (try rw [show w13.alloc (.cells #[.int .i64 g1, .int .i64 g2, .int .i64 g3, .int .i64 g4, .int .i64 g5] 57) = w14 from hw14])
        (try rw [hb15])
        clear hw14 hb15
        have hc := H23.out.sat
        have d0 := hc.cell (i := 0) rfl
        have d1 := hc.cell (i := 1) rfl
        have d2 := hc.cell (i := 2) rfl
        have d3 := hc.cell (i := 3) rfl
        have d4 := hc.cell (i := 4) rfl
        have c0 := hc.r.cell (i := 0) rfl
        have c1 := hc.r.cell (i := 1) rfl
        have c2 := hc.r.cell (i := 2) rfl
        have c3 := hc.r.cell (i := 3) rfl
        have c4 := hc.r.cell (i := 4) rfl
        have q1 := fun w => run_eql_glue2 w ⟨g1, g2, g3, g4, g5⟩
        simp only [Gl.val] at q1
        have HRS := Lib.hid (ltrest_any (by decide) H23.out)
        clear hc
        go_wp2_with fail
        with_reducible refine Calls.mono (num_any 0 w14) ?_
        rintro e w15 ⟨rfl, rfl⟩
        go_wp2_with fail
        with_reducible refine Calls.mono HRS.out ?_
        rintro e w16 ⟨u2, rfl, h24⟩
        obtain ⟨ta, tc, hu2⟩ := (rowT_rd h24.sat).val
        subst hu2
        have HF := Lib.hid (HE.out.trans h24.sat.r.r.r.l.toExt)
        simp only [List.length_singleton]
        clear h24 HRS H23 c0 c1 c2 c3 c4 d0 d1 d2 d3 d4 q1
        go_wp2
        go_ret
        exact ⟨rfl, HF.out⟩
      exact AllReadyC.nil
    refine AllReadyC.cons rfl (fun K hK => ?_) ?_
    · go_simp
      refine hK _ _ ?_
      clear hK K
      have h14 := row_stop H13.out.drew
      rw [show w8.drew.heap.size = w8.heap.size by simp] at h14
      obtain ⟨b14, hb14⟩ : ∃ b, w8.heap.size = b := ⟨_, rfl⟩
      rw [hb14] at h14
      rw [hb14]
      clear hb14
      have H14 := Lib.hid h14
      clear h14
      refine wpC_one (i := 0) rfl (by kernel_rfl) (⟨_, H14.out.r⟩) (fun K hK => ?_)
      go_simp
      go_simp
      refine hK _ _ ?_
      clear hK K
      have h15 := row_empty H14.out
      rw [show (w8.drew.alloc (.cells #[.int .i64 16, .int .u8 0, .string stopK] 28)).heap.size = w8.heap.size + 1 by simp] at h15
      have H15 := Lib.hid h15
      clear h15 H14
      refine wpC_one (i := 4) rfl (by kernel_rfl) (⟨_, H15.out.r.r⟩) (fun K hK => ?_)
      refine step_append_rd rfl _ _ 22 rfl i0 _ 32 Try.underlying22 HI.out HZ0.out HZ1.out HZ2.out rfl (by omega) rfl H15.out (.slice va k vc) ((L.take k)).length (flat (L.take k)) rfl ((HTK.out _ H15.out.r.r.r.l.l.r.r.l.toExt).1) (flat_one (L.take k)) (by have := HTN.out; have := HKN2.out; simp [maxLen] at *; omega) (by have := HTN.out; have := HKN2.out; simp at *; omega) ?_
      intro v1 w9 hq _
      have hq' := rowT_one (X := L.take k) hq (by simp) (by simp)
      obtain ⟨pa, pc, rfl, -⟩ := (rowT_rd hq').capd
      rw [HTN.out] at hq'
      rw [HTN.out]
      have H16 := Lib.hid hq'
      clear hq hq' H15
      go_simp
      refine hK _ _ ?_
      clear hK K
      have hx1 := H16.out.of_eq (show _ = row (.slice pa k pc) k 28 3 (flat (L.take k)) * (rowT (.slice (some ⟨b14, 0, none⟩) 1 1) [⟨16, 0, stopK⟩] * (pts b12 stopO * (rowT (.slice ua x uc) X1 * (pts b8 (glO g1 g2 g3 g4 g5) * (own W1 * Z)) * B6 * Y6))) by rw [rowT, HTN.out])
      have HX1 := Lib.hid hx1
      have HRS := Lib.hid (rowT_rd H16.out.r)
      clear hx1
      refine wpC_one (i := 7) rfl (by kernel_rfl) (⟨_, H16.out.r.r⟩) (fun K hK => ?_)
      refine step_append_rd rfl _ _ 22 rfl i0 _ 32 Try.underlying22 HI.out HZ0.out HZ1.out HZ2.out rfl (by omega) rfl HX1.out (.slice (some ⟨b14, 0, none⟩) 1 1) (([⟨16, 0, stopK⟩] : List Tok)).length (flat ([⟨16, 0, stopK⟩] : List Tok)) rfl (HRS.out.1) (flat_one ([⟨16, 0, stopK⟩] : List Tok)) (by have := HTN.out; have := HKN2.out; simp [maxLen] at *; omega) (by have := HTN.out; have := HKN2.out; simp at *; omega) ?_
      intro v3 w11 hq _
      have hq' := rowT_app (acc := L.take k) (X := [(⟨16, 0, stopK⟩ : Tok)]) hq (by rw [HTN.out])
      obtain ⟨qa, qc, rfl, -⟩ := (rowT_rd hq').capd
      rw [show (L.take k ++ [(⟨16, 0, stopK⟩ : Tok)]).length = k + 1 by rw [List.length_append, HTN.out]; rfl] at hq'
      rw [show (L.take k ++ [(⟨16, 0, stopK⟩ : Tok)]).length = k + 1 by rw [List.length_append, HTN.out]; rfl]
      have H17 := Lib.hid (hq'.of_eq (show _ = (rowT (.slice qa (k + 1) qc) (L.take k ++ [⟨16, 0, stopK⟩]) * (rowT (.slice (some ⟨b14, 0, none⟩) 1 1) [⟨16, 0, stopK⟩] * (pts b12 stopO * (rowT (.slice ua x uc) X1 * (pts b8 (glO g1 g2 g3 g4 g5) * (own W1 * Z)) * B6)))) * Y6 by ac_rfl))
      have HC7 := Lib.hid (show ∃ X, Sat W1 (pts b12 stopO * X) w11 from ⟨_, hq'.r.r⟩)
      clear hq hq' HX1 HRS H16
      go_simp
      refine hK _ _ ?_
      clear hK K
      refine wpC_one (i := 8) rfl (by kernel_rfl) (HC7.out) (fun K hK => ?_)
      go_simp
      have HLL := Lib.hid (show (L.take k ++ [(⟨16, 0, stopK⟩ : Tok)]).length ≤ 2000000 by have := HTN.out; have := HKN2.out; rw [List.length_append, List.length_singleton]; omega)
      refine Calls.mono (ltlist_any HT6.out (v := .slice qa (k + 1) qc) (fun w' h => rowT_rd h.l) HLL.out H17.out) ?_
      rintro e w12 ⟨b13, rfl, h18⟩
      have H19 := Lib.hid (h18.cast (show _ = (rowT (.slice qa (k + 1) qc) (L.take k ++ [⟨16, 0, stopK⟩]) * (rowT (.slice (some ⟨b14, 0, none⟩) 1 1) [⟨16, 0, stopK⟩] * (pts b12 stopO * (rowT (.slice ua x uc) X1 * B6)))) * (pts b8 (glO g1 g2 g3 g4 g5) * (own W1 * Z)) by ac_rfl)).less
      have HC8 := Lib.hid (show ∃ X, Sat W1 (pts b12 stopO * X) w12 from ⟨_, h18.sat.r.r⟩)
      clear h18 H17 HLL HC7
      go_simp
      refine hK _ _ ?_
      clear hK K
      refine wpC_take (i := 9) (v := ?_) rfl (by kernel_rfl) (by kernel_rfl) (by kernel_rfl) (fun _ _ _ h => h) (by rfl) ?_ ?_
      rotate_left 1
      · intro w hw; go_simp; try with_reducible rfl
      refine wpC_done (by kernel_rfl) (HC8.out) ?_
      clear HC8 HT6 HTK HTN j3 HZ0 HZ1 HZ2 HI
      have hcz : L.take k ++ [(⟨16, 0, stopK⟩ : Tok)] = cutZ ⟨16, 0, stopK⟩ x L := by
        rw [cutZ, HN.out, show n - x = k by have := HKX.out; omega]
      have hgc := glue_cut (stop_ok HS.out) (d := x) L (by rw [HR.out, HXL.out]; exact Nat.le_refl _)
      rw [HR.out] at hgc
      simp only at hgc
      rw [cut_all (show X1.length ≤ x by rw [HXL.out]; exact Nat.le_refl _)] at hgc
      have h20 := H19.out
      rw [hcz] at h20
      have HG2 := Lib.hid (nglue_any (by rw [cutZ, List.length_append, List.length_take]; have := HN.out; simp; omega) h20)
      rw [hgc] at HG2
      unfold srcV at HG2
      simp only at HG2
      clear hcz hgc h20 H19
      go_wp2_with fail
      with_reducible refine Calls.mono HG2.out ?_
      rintro e w13 ⟨rfl, h21⟩
      obtain ⟨Y7, h22, back7⟩ := h21.focus
      have h23 := back7 (pts w13.heap.size (glO g1 g2 g3 g4 g5) * (pts b8 (glO g1 g2 g3 g4 g5) * (own W1 * Z))) _ ((h22.alloc (glO g1 g2 g3 g4 g5)).asc')
      obtain ⟨b15, hb15⟩ : ∃ b, w13.heap.size = b := ⟨_, rfl⟩
      obtain ⟨w14, hw14⟩ : ∃ w14, w13.alloc (glO g1 g2 g3 g4 g5) = w14 := ⟨_, rfl⟩
      rw [hb15, hw14] at h23
      have H23 := Lib.hid h23
      clear h21 h22 h23 back7 HG2
      go_upto_region 15 with fail
      (try rw [show w13.alloc (.cells #[.int .i64 g1, .int .i64 g2, .int .i64 g3, .int .i64 g4, .int .i64 g5] 57) = w14 from hw14])
      (try rw [hb15])
      clear hw14 hb15
      have hc := H23.out.sat
      have d0 := hc.cell (i := 0) rfl
      have d1 := hc.cell (i := 1) rfl
      have d2 := hc.cell (i := 2) rfl
      have d3 := hc.cell (i := 3) rfl
      have d4 := hc.cell (i := 4) rfl
      have c0 := hc.r.cell (i := 0) rfl
      have c1 := hc.r.cell (i := 1) rfl
      have c2 := hc.r.cell (i := 2) rfl
      have c3 := hc.r.cell (i := 3) rfl
      have c4 := hc.r.cell (i := 4) rfl
      have q1 := fun w => run_eql_glue2 w ⟨g1, g2, g3, g4, g5⟩
      simp only [Gl.val] at q1
      have HRS := Lib.hid (ltrest_any (by decide) H23.out)
      clear hc
      go_wp2_with fail
      with_reducible refine Calls.mono (num_any 0 w14) ?_
      rintro e w15 ⟨rfl, rfl⟩
      go_wp2_with fail
      with_reducible refine Calls.mono HRS.out ?_
      rintro e w16 ⟨u2, rfl, h24⟩
      obtain ⟨ta, tc, hu2⟩ := (rowT_rd h24.sat).val
      subst hu2
      have HF := Lib.hid (HE.out.trans h24.sat.r.r.r.l.toExt)
      simp only [List.length_singleton]
      clear h24 HRS H23 c0 c1 c2 c3 c4 d0 d1 d2 d3 d4 q1
      go_wp2
      go_ret
      exact ⟨rfl, HF.out⟩
    exact AllReadyC.nil
  · have hg := glue_err (S := S) (l := L) (by rw [HR.out]; exact her)
    rw [HR.out] at hg
    simp only [glz, Gl.mk.injEq] at hg
    obtain ⟨rfl, rfl, rfl, rfl, rfl⟩ := hg
    have b0 : (er != 0) = true := by rw [bne_iff_ne]; exact her
    have q1 := fun w => run_eql_glue w ⟨0, 0, 0, 0, 0⟩
    simp only [Gl.val, gl0, glue0] at q1
    have hc := H10.out.sat.r
    have d0 := hc.cell (i := 0) rfl
    have d1 := hc.cell (i := 1) rfl
    have d2 := hc.cell (i := 2) rfl
    have d3 := hc.cell (i := 3) rfl
    have d4 := hc.cell (i := 4) rfl
    clear hc her
    go_wp2_with fail
    with_reducible refine Calls.mono (num_any er w6) ?_
    rintro e w7 ⟨rfl, rfl⟩
    go_wp2
    go_ret
    exact ⟨rfl, HE.out.trans H10.out.sat.r.r.l.toExt⟩
end Go.Proofs.Yticljfpippbkkaa
