
/-
  The law LogsTokens, walked. Conditions: those that the theorem names.
-/
import Derived.Test.YtlfekbmcegbhoaaDoorLogQ
import Derived.Test.YtlfekbmcegbhoaaDoorSameT
namespace Go.Proofs.YtlfekbmcegbhoaaDoor
open Go.RowKit Go.Sp
variable {W w w' : World} {F F' : HProp}

theorem tok_at {v : Value} {L : List Tok} {n k : Nat} {a : Option Addr} {c : Nat} (hv : ∀ w', Sat W F w' → RdT w' v L) (hvv : v = .slice a n c) (hk : k < L.length) {wr : World} (hr : Sat W F wr) :
    ∃ b off, a = some ⟨b, off, none⟩ ∧ ∀ w', Sat W F w' → At w' b (off + k * 3) L[k] ∧ b < w'.heap.size := by
  subst hvv
  obtain ⟨b, off, rfl, ha, hb⟩ := (hv wr hr).at hk
  refine ⟨b, off, rfl, fun w' h => ?_⟩
  obtain ⟨b2, off2, e, ha2, hb2⟩ := (hv w' h).at hk
  simp only [Option.some.injEq, Addr.mk.injEq, and_true] at e
  obtain ⟨rfl, rfl⟩ := e
  exact ⟨ha2, hb2⟩

set_option maxRecDepth 1000000 in
set_option maxHeartbeats 16000000 in
theorem ltokens_any (C : List Int) (hC : C.length = 256) (L P B : List Tok) (vl vp vb : Value) (long : Bool) (most : Int) (hM : most ≤ maxLen) (hl : RdT w vl L) (hp : RdT w vp P) (hb : RdT w vb B)
    (hlL : L.length ≤ 2000000) (hlP : P.length ≤ 2000000) (hlB : B.length ≤ 2000000) (hTL : (textB C L).length ≤ 200000000) (hTP : (textB C P).length ≤ 200000000) (hTB : (textB C B).length ≤ 200000000)
    (hNL : ∀ t ∈ L, t.name.size ≤ 2000000) (hNP : ∀ t ∈ P, t.name.size ≤ 2000000) (hNB : ∀ t ∈ B, t.name.size ≤ 2000000) :
    Calls Tryd.prog 6 #[vl, codesV C, .int .i64 most, .agg #[vp, vb, .bool long]] w fun e w' => e = .returned (.bool true) ∧ Sat w (own w) w' := by
  obtain ⟨i0, hi, hz0, hz1, hz2⟩ := info_parts3 info_tok
  have HI := Lib.hid hi
  have HZ0 := Lib.hid hz0
  have HZ1 := Lib.hid hz1
  have HZ2 := Lib.hid hz2
  clear hi hz0 hz1 hz2
  have hd : (Tryd.prog.info? 40).map (·.size) = some ((C.map (Value.int .i64)).toArray).size := by rw [size_codes]; simp [hC]
  have HD := Lib.hid hd
  have h0 := (((Sat.start w).alloc (codesO C 40)).alloc (mB vp vb long)).of_eq (show _ = pts (w.heap.size + 1) (mB vp vb long) * (pts w.heap.size (codesO C 40) * own w) by simp)
  obtain ⟨W0, hW0⟩ : ∃ W0, (w.alloc (codesO C 40)).alloc (mB vp vb long) = W0 := ⟨_, rfl⟩
  obtain ⟨bc, hbc⟩ : ∃ bc, w.heap.size = bc := ⟨_, rfl⟩
  rw [hbc] at h0
  obtain ⟨bm, hbm⟩ : ∃ bm, bc + 1 = bm := ⟨_, rfl⟩
  rw [hW0, hbm] at h0
  have H0 := Lib.hid h0
  have HL := Lib.hid hl
  have HP := Lib.hid hp
  have HB := Lib.hid hb
  have HC := Lib.hid hC
  have NL := Lib.hid hlL
  have NP := Lib.hid hlP
  have NB := Lib.hid hlB
  have TL := Lib.hid hTL
  have TP := Lib.hid hTP
  have TB := Lib.hid hTB
  have ML := Lib.hid hNL
  have MP := Lib.hid hNP
  have MB := Lib.hid hNB
  have HMM := Lib.hid hM
  obtain ⟨la, lc, hvl, -⟩ := hl.capd
  obtain ⟨n, hn⟩ : ∃ n, L.length = n := ⟨_, rfl⟩
  have HN := Lib.hid hn
  have nle : n ≤ 2000000 := by rw [← hn]; exact hlL
  rw [hn] at hvl
  have HVL := Lib.hid hvl
  subst hvl
  clear h0 hl hp hb hC hlL hlP hlB hTL hTP hTB hNL hNP hNB hd hM hn
  go_enter Tryd.func6, Tryd.ntmps6
  go_upto_region 1 with fail
  clear hW0 hbc hbm
  have HE := Lib.hid (row_empty H0.out)
  go_step
  refine wpList_plain rfl (fun K hK => ?_)
  go_simp
  refine hK _ _ ?_
  clear hK K
  refine wpList_plain rfl (fun K hK => ?_)
  go_simp
  refine hK _ _ ?_
  clear hK K
  refine wpList_append_rd rfl _ _ 39 rfl i0 _ 32 Tryd.underlying39 HI.out HZ0.out HZ1.out HZ2.out rfl (by omega) rfl HE.out (.slice la n lc) L.length (flat L) rfl ((HL.out.ext HE.out.r.r.r.toExt).1) (flat_one L) ?_ ?_ ?_
  · have := NL.out; simp [maxLen]; omega
  · have := NL.out; omega
  intro vx w1 h1
  have h1' := rowT_one (X := L) h1 (by simp) (by simp)
  obtain ⟨xa, xc, hvx, -⟩ := (rowT_rd h1').capd
  rw [HN.out] at hvx
  subst hvx
  have H1 := Lib.hid h1'
  have HX := Lib.hid (fun (w' : World) (h : Sat w (rowT (.slice xa n xc) L * (pts bm (mB vp vb long) * (pts bc (codesO C 40) * own w))) w') => h.r.r.r.toExt)
  clear h1 h1' HE
  obtain ⟨FF, hFF⟩ : ∃ FF, rowT (.slice xa n xc) L * (pts bm (mB vp vb long) * (pts bc (codesO C 40) * own w)) = FF := ⟨_, rfl⟩
  have HBM := Lib.hid (fun (w' : World) (h : Sat w FF w') => (show Sat w (pts bm (mB vp vb long) * (pts bc (codesO C 40) * own w)) w' from (h.of_eq hFF.symm).r))
  have HXR := Lib.hid (fun (w' : World) (h : Sat w FF w') => rowT_rd (h.of_eq hFF.symm))
  rw [hFF] at H1 HX
  clear hFF
  have HT1 := Lib.hid (fun (w' : World) (h : Sat w FF w') => tokens_m C HC.out (.slice xa n xc) L most HMM.out HXR.out TL.out ML.out h)
  have HT2 := Lib.hid (fun (w' : World) (h : Sat w FF w') => tokensR_m C HC.out (.slice la n lc) L most HMM.out (fun w' h => HL.out.ext (HX.out w' h)) TL.out ML.out h)
  have HTR := Lib.hid (fun (w' : World) (h : Sat w FF w') => macroR_any C HC.out P B vp vb long (fun w' h => HP.out.ext (HX.out w' h)) (fun w' h => HB.out.ext (HX.out w' h)) (by have := NP.out; omega) (by have := NB.out; omega) TP.out TB.out MP.out MB.out h)
  have HTM := Lib.hid (fun (u v : Value) (w' : World) (h : Sat w (rowT u P * (rowT v B * FF)) w') => macro_any C HC.out P B u v long (fun w' h => rowT_rd h) (fun w' h => rowT_rd h.r) (by have := NP.out; omega) (by have := NB.out; omega) TP.out TB.out MP.out MB.out h)
  have HOW := Lib.hid (fun (w' : World) (h : Sat w FF w') => (ownL_any P B vp vb long w' (HP.out.ext (HX.out w' h)) (HB.out.ext (HX.out w' h)) (by have := NP.out; omega) (by have := NB.out; omega)))
  obtain ⟨⟨s1, e1⟩, hs1⟩ : ∃ r, tokM C most L = r := ⟨_, rfl⟩
  obtain ⟨⟨s2, e2⟩, hs2⟩ : ∃ r, macM C P B long = r := ⟨_, rfl⟩
  rw [hs1] at HT1 HT2
  rw [hs2] at HTR HTM
  simp only at HT1 HT2 HTR HTM
  obtain ⟨S1, hS1⟩ : ∃ S, (⟨s1.toArray⟩ : ByteArray) = S := ⟨_, rfl⟩
  obtain ⟨S2, hS2⟩ : ∃ S, (⟨s2.toArray⟩ : ByteArray) = S := ⟨_, rfl⟩
  rw [hS1] at HT1 HT2
  rw [hS2] at HTR HTM
  clear hs1 hs2 hS1 hS2
  go_upto_region 2 with fail
  go_step
  refine wpList_plain rfl (fun K hK => ?_)
  go_simp
  refine hK _ _ ?_
  clear hK K
  refine wpList_load_row rfl 40 (.tmp 5) rfl bc rfl 40 _ _ _ (HBM.out _ H1.out).r.blk Tryd.underlying40 rfl HD.out ?_
  go_wp2_with fail
  refine Calls.mono (HT1.out _ H1.out) ?_
  rintro e w2 ⟨rfl, h2⟩
  have H2 := Lib.hid h2
  clear h2
  go_upto_region 3 with fail
  go_step
  refine wpList_plain rfl (fun K hK => ?_)
  go_simp
  refine hK _ _ ?_
  clear hK K
  refine wpList_load_row rfl 40 (.tmp 5) rfl bc rfl 40 _ _ _ (HBM.out _ H2.out).r.blk Tryd.underlying40 rfl HD.out ?_
  go_wp2_with fail
  refine Calls.mono (HT2.out _ H2.out) ?_
  rintro e w3 ⟨rfl, h3⟩
  have H3 := Lib.hid h3
  clear h3
  go_upto_region 4 with fail
  refine wp_region_C (Sat w FF) (by kernel_rfl) ?_
  refine wpC_take (i := 0) (v := ?_) rfl (by kernel_rfl) (by kernel_rfl) (by kernel_rfl) (fun _ _ _ h => h) (by rfl) ?_ ?_
  rotate_left 1
  · intro w hw; (have h9 := HBM.out w hw; have r0 := h9.cell (i := 0) rfl; have r1 := h9.cell (i := 1) rfl; have r2 := h9.cell (i := 2) rfl; go_simp; try with_reducible rfl)
  refine wpC_take (i := 2) (v := ?_) rfl (by kernel_rfl) (by kernel_rfl) (by kernel_rfl) (fun _ _ _ h => h) (by rfl) ?_ ?_
  rotate_left 1
  · intro w hw; refine exec_load_row 40 (.tmp 5) ?_ bc ?_ 40 _ _ _ (HBM.out _ hw).r.blk Tryd.underlying40 (by rfl) HD.out; rfl; first | (go_simp; done) | rfl
  refine wpC_one (i := 1) rfl (by kernel_rfl) (H3.out.drew) (fun K hK => ?_)
  go_simp
  refine Calls.mono (HOW.out _ H3.out.drew) ?_
  rintro e w4 ⟨u, v, rfl, h4⟩
  have H4 := Lib.hid (Sat.frame H3.out.drew h4.asc').asc
  clear h4
  go_simp
  refine hK _ _ ?_
  clear hK K
  refine wpC_one (i := 3) rfl (by kernel_rfl) (H4.out.r.r) (fun K hK => ?_)
  go_simp
  refine Calls.mono (HTM.out u v _ H4.out) ?_
  rintro e w5 ⟨rfl, h5⟩
  have H5 := Lib.hid h5.r.r
  clear h5 H4
  go_simp
  refine hK _ _ ?_
  clear hK K
  refine wpC_take (i := 4) (v := ?_) rfl (by kernel_rfl) (by kernel_rfl) (by kernel_rfl) (fun _ _ _ h => h) (by rfl) ?_ ?_
  rotate_left 1
  · intro w hw; go_simp; try with_reducible rfl
  refine wpC_take (i := 5) (v := ?_) rfl (by kernel_rfl) (by kernel_rfl) (by kernel_rfl) (fun _ _ _ h => h) (by rfl) ?_ ?_
  rotate_left 1
  · intro w hw; go_simp; try with_reducible rfl
  refine wpC_take (i := 7) (v := ?_) rfl (by kernel_rfl) (by kernel_rfl) (by kernel_rfl) (fun _ _ _ h => h) (by rfl) ?_ ?_
  rotate_left 1
  · intro w hw; go_simp; try with_reducible rfl
  refine wpC_take (i := 6) (v := ?_) rfl (by kernel_rfl) (by kernel_rfl) (by kernel_rfl) (fun _ _ _ h => h) (by rfl) ?_ ?_
  rotate_left 1
  · intro w hw; go_simp; try with_reducible rfl
  refine wpC_take (i := 8) (v := ?_) rfl (by kernel_rfl) (by kernel_rfl) (by kernel_rfl) (fun _ _ _ h => h) (by rfl) ?_ ?_
  rotate_left 1
  · intro w hw; go_simp; try with_reducible rfl
  refine wpC_done (by kernel_rfl) (H5.out) ?_
  have r0 := (HBM.out _ H5.out).cell (i := 0) rfl
  have r1 := (HBM.out _ H5.out).cell (i := 1) rfl
  have r2 := (HBM.out _ H5.out).cell (i := 2) rfl
  go_upto_region 5 with fail
  go_step
  refine wpList_plain rfl (fun K hK => ?_)
  go_simp
  refine hK _ _ ?_
  clear hK K
  refine wpList_load_row rfl 40 (.tmp 5) rfl bc rfl 40 _ _ _ (HBM.out _ H5.out).r.blk Tryd.underlying40 rfl HD.out ?_
  go_wp2_with fail
  refine Calls.mono (HTR.out _ H5.out) ?_
  rintro e w6 ⟨rfl, h6⟩
  have H6 := Lib.hid h6
  clear h6 r0 r1 r2
  have HSM := Lib.hid (sameT_any L L (.slice xa n xc) (.slice la n lc) w6 (HXR.out _ H6.out) (HL.out.ext (HX.out _ H6.out)))
  go_wp2_with (go_at_call 9; with_reducible refine Calls.mono (num_any _ _) ?_; rintro e w' ⟨rfl, rfl⟩)
  refine Calls.mono HSM.out ?_
  rintro e w7 ⟨rfl, q, rfl⟩
  have H7 := Lib.hid (H6.out.drewN (n := q))
  have hLL : decide (L = L) = true := by simp
  have HTK := Lib.hid (fun (t : Tok) (ht : t ∈ L) (w' : World) (h : Sat w FF w') => token_any C HC.out t (ML.out t ht) h)
  have HTKR := Lib.hid (fun (t : Tok) (ht : t ∈ L) (w' : World) (h : Sat w FF w') => tokR_any C HC.out t (ML.out t ht) h)
  go_upto_block 0 with fail
  clear hLL HOW HTM HTR HT1 HT2 HSM
  go_wp2_with fail
  go_loopg [18] n (fun g s18 wx => ∃ k : Nat, k ≤ n ∧ g = n - k ∧ s18 = .int .i64 k ∧ Sat w FF wx)
  case atStart => exact ⟨0, by omega, rfl, rfl, H7.out⟩
  case round =>
    obtain ⟨k, hk, rfl, rfl, hx⟩ := hrel
    have HXX := Lib.hid hx
    clear hx
    by_cases hlt : k < n
    · have i1 : (k : Int) < (n : Int) := by omega
      have hkl : k < L.length := by rw [HN.out]; exact hlt
      obtain ⟨b', off, rfl, hat⟩ := tok_at (F := FF) (W := w) (fun w' h => HL.out.ext (HX.out w' h)) rfl hkl HXX.out
      have HAT := Lib.hid hat
      obtain ⟨t, ht⟩ : ∃ t, L[k] = t := ⟨_, rfl⟩
      have hm : t ∈ L := by rw [← ht]; exact List.getElem_mem hkl
      rw [ht] at HAT
      have HT1 := Lib.hid (HTK.out t hm)
      have HT2 := Lib.hid (HTKR.out t hm)
      obtain ⟨S, hS⟩ : ∃ S, (⟨(tokenB C t).toArray⟩ : ByteArray) = S := ⟨_, rfl⟩
      rw [hS] at HT1 HT2
      clear hat ht hm hS hkl
      go_wp2_with fail
      refine wp_region_C (Sat w FF) (by kernel_rfl) ?_
      refine wpC_take (i := 0) (v := ?_) rfl (by kernel_rfl) (by kernel_rfl) (by kernel_rfl) (fun _ _ _ h => h) (by rfl) ?_ ?_
      rotate_left 1
      · intro w hw; go_simp; try with_reducible rfl
      refine wpC_take (i := 1) (v := ?_) rfl (by kernel_rfl) (by kernel_rfl) (by kernel_rfl) (fun _ _ _ h => h) (by rfl) ?_ ?_
      rotate_left 1
      · intro w hw; go_simp; try with_reducible rfl
      refine wpC_take (i := 2) (v := ?_) rfl (by kernel_rfl) (by kernel_rfl) (by kernel_rfl) (fun _ _ _ h => h) (by rfl) ?_ ?_
      rotate_left 1
      · intro w hw; go_simp; try with_reducible rfl
      refine wpC_take (i := 3) (v := ?_) rfl (by kernel_rfl) (by kernel_rfl) (by kernel_rfl) (fun _ _ _ h => h) (by rfl) ?_ ?_
      rotate_left 1
      · intro w hw; (obtain ⟨⟨a0, a1, a2⟩, a3⟩ := HAT.out w hw; go_simp; try with_reducible rfl)
      refine wpC_take (i := 4) (v := ?_) rfl (by kernel_rfl) (by kernel_rfl) (by kernel_rfl) (fun _ _ _ h => h) (by rfl) ?_ ?_
      rotate_left 1
      · intro w hw; refine exec_load_row 40 (.tmp 5) ?_ bc ?_ 40 _ _ _ (HBM.out _ hw).r.blk Tryd.underlying40 (by rfl) HD.out; rfl; first | (go_simp; done) | rfl
      refine wpC_take (i := 6) (v := ?_) rfl (by kernel_rfl) (by kernel_rfl) (by kernel_rfl) (fun _ _ _ h => h) (by rfl) ?_ ?_
      rotate_left 1
      · intro w hw; go_simp; try with_reducible rfl
      refine wpC_take (i := 7) (v := ?_) rfl (by kernel_rfl) (by kernel_rfl) (by kernel_rfl) (fun _ _ _ h => h) (by rfl) ?_ ?_
      rotate_left 1
      · intro w hw; go_simp; try with_reducible rfl
      refine wpC_take (i := 8) (v := ?_) rfl (by kernel_rfl) (by kernel_rfl) (by kernel_rfl) (fun _ _ _ h => h) (by rfl) ?_ ?_
      rotate_left 1
      · intro w hw; go_simp; try with_reducible rfl
      refine wpC_take (i := 9) (v := ?_) rfl (by kernel_rfl) (by kernel_rfl) (by kernel_rfl) (fun _ _ _ h => h) (by rfl) ?_ ?_
      rotate_left 1
      · intro w hw; (obtain ⟨⟨a0, a1, a2⟩, a3⟩ := HAT.out w hw; go_simp; try with_reducible rfl)
      refine wpC_take (i := 10) (v := ?_) rfl (by kernel_rfl) (by kernel_rfl) (by kernel_rfl) (fun _ _ _ h => h) (by rfl) ?_ ?_
      rotate_left 1
      · intro w hw; refine exec_load_row 40 (.tmp 5) ?_ bc ?_ 40 _ _ _ (HBM.out _ hw).r.blk Tryd.underlying40 (by rfl) HD.out; rfl; first | (go_simp; done) | rfl
      refine wpC_one (i := 5) rfl (by kernel_rfl) (HXX.out.drew) (fun K hK => ?_)
      go_simp
      refine Calls.mono (HT1.out _ HXX.out.drew) ?_
      rintro e w8 ⟨rfl, h8⟩
      have H8 := Lib.hid h8
      clear h8
      go_simp
      refine hK _ _ ?_
      clear hK K
      refine wpC_one (i := 11) rfl (by kernel_rfl) (H8.out) (fun K hK => ?_)
      go_simp
      refine Calls.mono (HT2.out _ H8.out) ?_
      rintro e w9 ⟨rfl, h9⟩
      have H9 := Lib.hid h9
      clear h9
      go_simp
      refine hK _ _ ?_
      clear hK K
      refine wpC_take (i := 12) (v := ?_) rfl (by kernel_rfl) (by kernel_rfl) (by kernel_rfl) (fun _ _ _ h => h) (by rfl) ?_ ?_
      rotate_left 1
      · intro w hw; go_simp; try with_reducible rfl
      refine wpC_done (by kernel_rfl) (H9.out) ?_
      go_wp2
      go_roundg (n - (k + 1))
      case measure => omega
      case rel => exact ⟨k + 1, by omega, rfl, by go_num, H9.out⟩
    · have hkn : n = k := by omega
      subst hkn
      have HKN := Lib.hid (knows_any (HXX.out.imp fun _ h => h))
      go_wp2_with fail
      refine Calls.mono HKN.out ?_
      rintro e w8 ⟨rfl, h8⟩
      have H8 := Lib.hid h8
      clear h8
      go_wp2
      go_ret
      exact ⟨rfl, (HBM.out _ H8.out).r.r⟩

end Go.Proofs.YtlfekbmcegbhoaaDoor
