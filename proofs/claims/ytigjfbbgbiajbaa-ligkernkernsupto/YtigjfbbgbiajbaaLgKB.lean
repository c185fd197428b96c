/-
  LigkernKerns, walked. Conditions: those that each theorem names.
-/
import Derived.Test.YtigjfbbgbiajbaaLgKA
import Derived.Test.YtigjfbbgbiajbaaLgY
namespace Go.Proofs.Ytigjfbbgbiajbaa
open Go.RowKit Go.Sp
variable {w W : World} {x : FV} {F : Fnt} {A : HProp}

theorem KernStep.succ {word : List UInt8} {j : Nat} (h : KernStep F word (j + 1)) (hj : ∀ s, findM F (word.getD j 0).toNat (word.getD (j + 1) 0).toNat = some s → 128 ≤ s.op.toNat) : KernStep F word (j + 1 + 1) := by
  intro i hi
  rcases Nat.lt_or_ge (i + 1) (j + 1) with h1 | h1
  · exact h i h1
  · obtain rfl : i = j := by omega
    exact hj
theorem want_len (word : List UInt8) : ∀ k, (wantP F word k).length ≤ 2 * k
  | 0 => Nat.le_refl _
  | k + 1 => by
    have h := want_len word k
    have h2 : (spP F word k).length ≤ 1 := by
      cases k with
      | zero => exact Nat.zero_le _
      | succ j =>
        show (match findM F (word.getD j 0).toNat (word.getD (j + 1) 0).toNat with
          | none => []
          | some s => [(⟨8, 0, 0, kernOf F s⟩ : Pc)]).length ≤ 1
        split <;> simp
    unfold wantP
    simp only [List.length_append, List.length_singleton]
    omega
theorem want_zero (word : List UInt8) : wantP F word (0 + 1) = [] ++ [plainP (word.getD 0 0)] := rfl
theorem want_succ (word : List UInt8) (k : Nat) : wantP F word (k + 1) = wantP F word k ++ (spP F word k ++ [plainP (word.getD k 0)]) := rfl
set_option maxRecDepth 100000 in
set_option maxHeartbeats 8000000 in
theorem kerns_any {wv : Value} {word : List UInt8} (h : RdF w x F) (hw : RdL byteC 1 w wv word) : Calls Try.prog 4 #[F.val x, wv] w fun e w' => e = .returned (.bool true) ∧ Ext w w' := by
  have HS := (Sat.start w).alloc (F.box x)
  obtain ⟨W1, hW1⟩ : ∃ W1, w.alloc (F.box x) = W1 := ⟨_, rfl⟩
  obtain ⟨bf, hbf⟩ : ∃ bf, w.heap.size = bf := ⟨_, rfl⟩
  rw [hW1, hbf] at HS
  have HB := Lib.hid (BoxF.of HS)
  have HE1 := Lib.hid HS.r.toExt
  have HRD := Lib.hid (h.ext HS.r.toExt)
  have HWD := Lib.hid (hw.ext HS.r.toExt)
  have HC := Lib.hid (lcheck_any HRD.out)
  clear HS
  have HLV := Lib.hid (fun w => live_any w)
  obtain ⟨wa, wc, hv, -⟩ := hw.val
  subst hv
  obtain ⟨wn, hwn⟩ : ∃ wn, word.length = wn := ⟨_, rfl⟩
  have HWN := Lib.hid hwn
  have hle := hw.le
  rw [hwn] at hle ⊢
  obtain ⟨ca, cc, sa, sc, ka, kc, pa, pc, ra, rc, rfl, -⟩ := h.vals
  simp only [Fnt.box] at hW1
  have HW1 := Lib.hid hW1
  have HBF := Lib.hid hbf
  obtain ⟨i0, hi, hz0, hz1, hz2⟩ := info_parts3 info_pc
  have HI := Lib.hid hi
  have HZ0 := Lib.hid hz0
  have HZ1 := Lib.hid hz1
  have HZ2 := Lib.hid hz2
  clear h hw hW1 hbf hwn hi hz0 hz1 hz2
  by_cases he : lcheckE F = 0
  · rw [he] at HC
    have HCK := Lib.hid he
    clear he
    by_cases hlen : wn ≤ 1000
    · have hli : (wn : Int) ≤ 1000 := by omega
      have hok := FOk.of (lcheck_zero HCK.out)
      have htg := tag_of (lcheck_zero HCK.out)
      have HKK := Lib.hid hok.hk
      have HTH := Lib.hid (fun w' (k : Ext W1 w') c => rthere_any (HRD.out.ext k) c hok.h0 hok.h1 htg)
      have HFN := Lib.hid (fun w' (k : Ext W1 w') => lfind_any (HRD.out.ext k) HCK.out)
      clear hok htg
      go_enter Try.func4, Try.ntmps4
      go_upto_region 1 with fail
      rw [HBF.out, HW1.out]
      clear HBF HW1
      have b0 := HB.out.c0
      have b1 := HB.out.c1
      have b2 := HB.out.c2
      have b3 := HB.out.c3
      have b4 := HB.out.c4
      have b5 := HB.out.c5
      have b6 := HB.out.c6
      have b7 := HB.out.c7
      have lq := HB.out.lt
      go_wp2_with fail
      with_reducible refine Calls.mono HC.out ?_
      rintro e w2 ⟨rfl, hx⟩
      have HX2 := Lib.hid (hx.toSat.row_nil (e := 43) (size := 4))
      clear hx HC
      go_wp2_with fail
      with_reducible refine Calls.mono (num_any _ _) ?_
      rintro e w3 ⟨rfl, rfl⟩
      go_wp2_with fail
      go_loopg [5, 6] wn (fun gg s5 s6 wx => ∃ k : Nat, k ≤ wn ∧ gg = wn - k ∧ s6 = .int .i64 k ∧ (∀ c ∈ word.take k, (thereM F c.toNat).isSome = true) ∧ KernStep F word k ∧ Sat W1 (rowP s5 (wantP F word k) * own W1) wx)
      case atStart => exact ⟨0, by omega, rfl, rfl, by simp, fun j hj => absurd hj (by omega), HX2.out⟩
      case round =>
        obtain ⟨k, hk, hg, rfl, ht, hn, hs⟩ := hrel
        have HT := Lib.hid ht
        have HNS := Lib.hid hn
        have HG := Lib.hid hg
        have HR := Lib.hid hs
        have hx := hs.r.toExt
        clear ht hn hg HX2
        by_cases hlt : k < wn
        · have hki : (k : Int) < wn := by omega
          have hkw : k < word.length := by rw [HWN.out]; exact hlt
          obtain ⟨ua, uc, hu, -⟩ := (rowP_rd hs).val
          have hwl := want_len word (F := F) k
          have HWS := Lib.hid (want_succ word (F := F) k)
          obtain ⟨PL, hPL⟩ : ∃ PL, wantP F word k = PL := ⟨_, rfl⟩
          rw [hPL] at hu hwl HR HWS
          obtain ⟨n5, hn5⟩ : ∃ n5, PL.length = n5 := ⟨_, rfl⟩
          rw [hn5] at hu hwl
          have HPN := Lib.hid hn5
          have hx9 := hx.drew
          obtain ⟨W9, hW9⟩ : ∃ W9, wr.drew = W9 := ⟨_, rfl⟩
          have HC9 := Lib.hid (show Ext W9 wr.drew by rw [hW9]; exact Ext.refl _)
          rw [hW9] at hx9
          have HX9 := Lib.hid hx9
          have HR9 := Lib.hid (HR.out.ext (show Ext wr W9 by rw [← hW9]; exact (Ext.refl wr).drew))
          have HB9 := Lib.hid (HB.out.ext hx9)
          subst hu
          obtain ⟨g, o, rfl, hcc, lb⟩ := HWD.out.at byte_len (by omega) hkw
          have c0 := hcc 0 _ rfl
          rw [Nat.mul_one, Nat.add_zero] at c0
          have HTS := Lib.hid (there_succ hkw HT.out)
          obtain ⟨c, hc⟩ : ∃ c, word[k] = c := ⟨_, rfl⟩
          have hcd : word.getD k 0 = c := by rw [List.getD_eq_getElem?_getD, List.getElem?_eq_getElem hkw, hc]; rfl
          have HCD := Lib.hid hcd
          rw [hc] at c0 HTS
          rw [hcd] at HWS
          have HCC := Lib.hid c0
          have HLB := Lib.hid lb
          replace c0 := hx9.cell c0
          replace lb := hx9.lt lb
          obtain ⟨z, hz⟩ : ∃ z, (thereM F c.toNat).isSome = z := ⟨_, rfl⟩
          have HZ := Lib.hid hz
          have uc' := u8i c
          clear b0 b1 b2 b3 b4 b5 b6 b7 lq hcc hc hcd hz hx hx9 hW9 hkw hs HR hPL hn5
          have b0 := HB9.out.c0
          have b1 := HB9.out.c1
          have b2 := HB9.out.c2
          have b3 := HB9.out.c3
          have b4 := HB9.out.c4
          have b5 := HB9.out.c5
          have b6 := HB9.out.c6
          have b7 := HB9.out.c7
          have lq := HB9.out.lt
          go_upto_region 7 with fail
          refine wp_region_tail (Ext W9) 6 (by kernel_rfl) (by kernel_rfl) HC9.out ?_
          simp only [List.take_succ_cons, List.take_zero, List.drop_succ_cons, List.drop_zero]
          iterate 6
            with_reducible refine wpQuiet_step ?_
            intro K hK
            go_simp
            first
              | (with_reducible refine hK _ ?_
                 clear hK K)
              | (rw [if_neg (by intro h; cases h)]
                 with_reducible refine hK _ ?_
                 clear hK K)
              | (apply Exists.intro
                 refine ⟨fun w9 hw9 => ?_, ?_⟩
                 · first
                    | rfl
                    | (fail)
                    | ((have q0 := hw9.cell b0; have q1 := hw9.cell b1; have q2 := hw9.cell b2; have q3 := hw9.cell b3; have q4 := hw9.cell b4; have q5 := hw9.cell b5; have q6 := hw9.cell b6; have q7 := hw9.cell b7; have q8 := hw9.cell c0; have q9 := hw9.lt lq; have q10 := hw9.lt lb); go_simp; first | done | rfl)
                 with_reducible refine hK _ ?_
                 clear hK K)
          refine wpQuiet_nil ?_
          intro w17 hw17
          have HX17 := Lib.hid (HR9.out.ext hw17)
          clear hw17 b0 b1 b2 b3 b4 b5 b6 b7 lq c0 lb HB9 HX9 HC9 HR9
          go_wp2_with fail
          with_reducible refine Calls.mono (HTH.out _ HX17.out.r.toExt c) ?_
          rintro e w5 ⟨rfl, h5⟩
          rw [HZ.out]
          have HX5 := Lib.hid (HX17.out.ext h5)
          clear h5 HX17
          cases z with
          | false =>
            go_wp2_with fail
            with_reducible refine Calls.mono (HLV.out _) ?_
            rintro e w6 ⟨rfl, h6⟩
            have HX6 := Lib.hid ((HE1.out.trans HX5.out.r.toExt).trans h6)
            clear h6
            go_wp2
            go_ret
            exact ⟨rfl, HX6.out⟩
          | true =>
            have HTS2 := Lib.hid (HTS.out HZ.out)
            cases k with
            | zero =>
              have HK1 := Lib.hid (show KernStep F word (0 + 1) from fun j hj => absurd hj (by omega))
              have hs7 := HX5.out
              unfold rowP at hs7
              rw [HPN.out] at hs7
              have HS7 := Lib.hid hs7
              have c0 := hs7.r.toExt.cell HCC.out
              have lb := hs7.r.toExt.lt HLB.out
              clear hs7 HX5
              rw [Nat.add_zero] at c0
              go_wp2_with (at_builtin; refine wpList_append_sep rfl _ _ 39 rfl i0 _ 32 Try.underlying39 HI.out HZ0.out HZ1.out HZ2.out rfl rfl HS7.out.allocD ⟨_, 0, none⟩ 1 1 (Pc.cells (⟨1, c.toNat, 1, 0⟩ : Pc)) rfl rfl (new_cells _ _ _) (pc_one _) (by simp only [maxLen]; omega) (by omega) ?_)
              intro v' w7 h7
              have h8 := rowP_snoc (L := PL) (y := (⟨1, c.toNat, 1, 0⟩ : Pc)) h7 (by rw [HPN.out])
              rw [show PL ++ [(⟨1, c.toNat, 1, 0⟩ : Pc)] = wantP F word (0 + 1) from by rw [HWS.out]; rfl] at h8
              have HS8 := Lib.hid h8
              clear h7 h8 HS7 c0 lb
              go_wp2
              go_roundg (wn - (0 + 1))
              case measure => have := HG.out; omega
              case rel => exact ⟨0 + 1, by omega, rfl, by go_num, HTS2.out, HK1.out, HS8.out⟩
            | succ j =>
              have hkj : j < word.length := by rw [HWN.out]; omega
              have hkj1 : j + 1 < word.length := by rw [HWN.out]; exact hlt
              obtain ⟨g1, o1, e1, hcc, lb⟩ := HWD.out.at byte_len (by omega) hkj
              simp only [Option.some.injEq, Addr.mk.injEq, and_true] at e1
              obtain ⟨rfl, rfl⟩ := e1
              have cca := hcc 0 _ rfl
              have ccb := HCC.out
              rw [Nat.mul_one, Nat.add_zero] at cca
              have hta := HTS2.out word[j] (by rw [List.mem_iff_getElem]; exact ⟨j, by rw [List.length_take]; omega, List.getElem_take⟩)
              have HNX := Lib.hid (fun h => KernStep.succ (j := j) HNS.out h)
              have hgj : word.getD j 0 = word[j] := by rw [List.getD_eq_getElem?_getD, List.getElem?_eq_getElem hkj]; rfl
              rw [HCD.out, hgj] at HNX
              have HSP := Lib.hid (show spP F word (j + 1) = match findM F (word.getD j 0).toNat (word.getD (j + 1) 0).toNat with
                | none => []
                | some s => [⟨8, 0, 0, kernOf F s⟩] from rfl)
              rw [HCD.out, hgj] at HSP
              obtain ⟨a, ha⟩ : ∃ a, word[j] = a := ⟨_, rfl⟩
              rw [ha] at cca hta HNX HSP
              obtain ⟨GG, hGG⟩ : ∃ GG, rowP (.slice ua n5 uc) PL * own W1 = GG := ⟨_, rfl⟩
              have HGG := Lib.hid hGG
              rw [hGG] at HX5
              have HGE := Lib.hid (fun w' (h : Sat W1 GG w') => (show Ext W1 w' from (h.of_eq hGG.symm).r.toExt))
              have HFI := Lib.hid (fun w' (h : Sat W1 GG w') => HFN.out w' (HGE.out w' h) a c hta HZ.out)
              obtain ⟨q, hq⟩ : ∃ q, findM F a.toNat c.toNat = q := ⟨_, rfl⟩
              rw [hq] at HFI HNX HSP
              have HQ := Lib.hid hq
              have ua' := u8i a
              have hwj : IntKind.i64.wrap (j : Int) = j := IntWalk.i64_in _ (by omega)
              have hwa : IntKind.i64.wrap (a.toNat : Int) = a.toNat := IntWalk.i64_in _ (by omega)
              have hwc : IntKind.i64.wrap (c.toNat : Int) = c.toNat := IntWalk.i64_in _ (by omega)
              have hj0 : (0 : Int) ≤ j := by omega
              have hjn : (j : Int) < wn := by omega
              have hj1 : (0 : Int) ≤ j + 1 := by omega
              have hjm : (j : Int) + 1 < wn := by omega
              clear hcc hta ha hq hkj hkj1 HCD HNS HT HTS HZ hgj hGG
              have b0 := HB.out.c0
              have b1 := HB.out.c1
              have b2 := HB.out.c2
              have b3 := HB.out.c3
              have b4 := HB.out.c4
              have b5 := HB.out.c5
              have b6 := HB.out.c6
              have b7 := HB.out.c7
              have lq := HB.out.lt
              go_upto_region 10 with fail
              go_cut [7, 8, 9] from 39 to 55 (fun s7 s8 s9 wx => ∃ b9 : Nat, s7 = .pointer (some ⟨b9, 0, none⟩) ∧ s8 = .bool q.isSome ∧ s9 = .int .i64 0 ∧ Sat W1 (pts b9 (q.getD stp0).boxv * GG) wx)
              case first =>
                refine wp_region_E (fun w' => Sat W1 GG w') (by kernel_rfl) ?_
                obtain ⟨W9, hW9⟩ : ∃ W9, w5.drew = W9 := ⟨_, rfl⟩
                have h9 := HX5.out.ext (Ext.refl w5).drew
                rw [hW9] at h9
                rw [hW9]
                have HS := Lib.hid h9
                clear h9 hW9
                refine wpE_take (i := 0) (q := 12) (v := ?_) rfl (by kernel_rfl) (by kernel_rfl) (by kernel_rfl) (by kernel_rfl) (by kernel_rfl) (fun _ _ _ h => h) (by rfl) ?_ ?_
                rotate_left 1
                · intro w hw; (have hw := HGE.out _ hw; have b0 := hw.cell b0; have b1 := hw.cell b1; have b2 := hw.cell b2; have b3 := hw.cell b3; have b4 := hw.cell b4; have b5 := hw.cell b5; have b6 := hw.cell b6; have b7 := hw.cell b7; have lq := hw.lt lq; have c1 := hw.cell cca; have c2 := hw.cell ccb; have lb := hw.lt lb; go_simp; try with_reducible rfl)
                refine wpE_take (i := 1) (q := 4) (v := ?_) rfl (by kernel_rfl) (by kernel_rfl) (by kernel_rfl) (by kernel_rfl) (by kernel_rfl) (fun _ _ _ h => h) (by rfl) ?_ ?_
                rotate_left 1
                · intro w hw; (have hw := HGE.out _ hw; have b0 := hw.cell b0; have b1 := hw.cell b1; have b2 := hw.cell b2; have b3 := hw.cell b3; have b4 := hw.cell b4; have b5 := hw.cell b5; have b6 := hw.cell b6; have b7 := hw.cell b7; have lq := hw.lt lq; have c1 := hw.cell cca; have c2 := hw.cell ccb; have lb := hw.lt lb; go_simp; try with_reducible rfl)
                refine wpE_take (i := 2) (q := 3) (v := ?_) rfl (by kernel_rfl) (by kernel_rfl) (by kernel_rfl) (by kernel_rfl) (by kernel_rfl) (fun _ _ _ h => h) (by rfl) ?_ ?_
                rotate_left 1
                · intro w hw; (have hw := HGE.out _ hw; have b0 := hw.cell b0; have b1 := hw.cell b1; have b2 := hw.cell b2; have b3 := hw.cell b3; have b4 := hw.cell b4; have b5 := hw.cell b5; have b6 := hw.cell b6; have b7 := hw.cell b7; have lq := hw.lt lq; have c1 := hw.cell cca; have c2 := hw.cell ccb; have lb := hw.lt lb; go_simp; try with_reducible rfl)
                refine wpE_take (i := 3) (q := 4) (v := ?_) rfl (by kernel_rfl) (by kernel_rfl) (by kernel_rfl) (by kernel_rfl) (by kernel_rfl) (fun _ _ _ h => h) (by rfl) ?_ ?_
                rotate_left 1
                · intro w hw; (have hw := HGE.out _ hw; have b0 := hw.cell b0; have b1 := hw.cell b1; have b2 := hw.cell b2; have b3 := hw.cell b3; have b4 := hw.cell b4; have b5 := hw.cell b5; have b6 := hw.cell b6; have b7 := hw.cell b7; have lq := hw.lt lq; have c1 := hw.cell cca; have c2 := hw.cell ccb; have lb := hw.lt lb; go_simp; try with_reducible rfl)
                refine wpE_take (i := 4) (q := 5) (v := ?_) rfl (by kernel_rfl) (by kernel_rfl) (by kernel_rfl) (by kernel_rfl) (by kernel_rfl) (fun _ _ _ h => h) (by rfl) ?_ ?_
                rotate_left 1
                · intro w hw; (have hw := HGE.out _ hw; have b0 := hw.cell b0; have b1 := hw.cell b1; have b2 := hw.cell b2; have b3 := hw.cell b3; have b4 := hw.cell b4; have b5 := hw.cell b5; have b6 := hw.cell b6; have b7 := hw.cell b7; have lq := hw.lt lq; have c1 := hw.cell cca; have c2 := hw.cell ccb; have lb := hw.lt lb; go_simp; try with_reducible rfl)
                refine wpE_take (i := 5) (q := 6) (v := ?_) rfl (by kernel_rfl) (by kernel_rfl) (by kernel_rfl) (by kernel_rfl) (by kernel_rfl) (fun _ _ _ h => h) (by rfl) ?_ ?_
                rotate_left 1
                · intro w hw; (have hw := HGE.out _ hw; have b0 := hw.cell b0; have b1 := hw.cell b1; have b2 := hw.cell b2; have b3 := hw.cell b3; have b4 := hw.cell b4; have b5 := hw.cell b5; have b6 := hw.cell b6; have b7 := hw.cell b7; have lq := hw.lt lq; have c1 := hw.cell cca; have c2 := hw.cell ccb; have lb := hw.lt lb; go_simp; try with_reducible rfl)
                refine wpE_take (i := 6) (q := 12) (v := ?_) rfl (by kernel_rfl) (by kernel_rfl) (by kernel_rfl) (by kernel_rfl) (by kernel_rfl) (fun _ _ _ h => h) (by rfl) ?_ ?_
                rotate_left 1
                · intro w hw; (have hw := HGE.out _ hw; have b0 := hw.cell b0; have b1 := hw.cell b1; have b2 := hw.cell b2; have b3 := hw.cell b3; have b4 := hw.cell b4; have b5 := hw.cell b5; have b6 := hw.cell b6; have b7 := hw.cell b7; have lq := hw.lt lq; have c1 := hw.cell cca; have c2 := hw.cell ccb; have lb := hw.lt lb; go_simp; try with_reducible rfl)
                refine wpE_take (i := 7) (q := 9) (v := ?_) rfl (by kernel_rfl) (by kernel_rfl) (by kernel_rfl) (by kernel_rfl) (by kernel_rfl) (fun _ _ _ h => h) (by rfl) ?_ ?_
                rotate_left 1
                · intro w hw; (have hw := HGE.out _ hw; have b0 := hw.cell b0; have b1 := hw.cell b1; have b2 := hw.cell b2; have b3 := hw.cell b3; have b4 := hw.cell b4; have b5 := hw.cell b5; have b6 := hw.cell b6; have b7 := hw.cell b7; have lq := hw.lt lq; have c1 := hw.cell cca; have c2 := hw.cell ccb; have lb := hw.lt lb; go_simp; try with_reducible rfl)
                refine wpE_take (i := 8) (q := 9) (v := ?_) rfl (by kernel_rfl) (by kernel_rfl) (by kernel_rfl) (by kernel_rfl) (by kernel_rfl) (fun _ _ _ h => h) (by rfl) ?_ ?_
                rotate_left 1
                · intro w hw; (have hw := HGE.out _ hw; have b0 := hw.cell b0; have b1 := hw.cell b1; have b2 := hw.cell b2; have b3 := hw.cell b3; have b4 := hw.cell b4; have b5 := hw.cell b5; have b6 := hw.cell b6; have b7 := hw.cell b7; have lq := hw.lt lq; have c1 := hw.cell cca; have c2 := hw.cell ccb; have lb := hw.lt lb; go_simp; try with_reducible rfl)
                refine wpE_take (i := 9) (q := 10) (v := ?_) rfl (by kernel_rfl) (by kernel_rfl) (by kernel_rfl) (by kernel_rfl) (by kernel_rfl) (fun _ _ _ h => h) (by rfl) ?_ ?_
                rotate_left 1
                · intro w hw; (have hw := HGE.out _ hw; have b0 := hw.cell b0; have b1 := hw.cell b1; have b2 := hw.cell b2; have b3 := hw.cell b3; have b4 := hw.cell b4; have b5 := hw.cell b5; have b6 := hw.cell b6; have b7 := hw.cell b7; have lq := hw.lt lq; have c1 := hw.cell cca; have c2 := hw.cell ccb; have lb := hw.lt lb; go_simp; try with_reducible rfl)
                refine wpE_take (i := 10) (q := 11) (v := ?_) rfl (by kernel_rfl) (by kernel_rfl) (by kernel_rfl) (by kernel_rfl) (by kernel_rfl) (fun _ _ _ h => h) (by rfl) ?_ ?_
                rotate_left 1
                · intro w hw; (have hw := HGE.out _ hw; have b0 := hw.cell b0; have b1 := hw.cell b1; have b2 := hw.cell b2; have b3 := hw.cell b3; have b4 := hw.cell b4; have b5 := hw.cell b5; have b6 := hw.cell b6; have b7 := hw.cell b7; have lq := hw.lt lq; have c1 := hw.cell cca; have c2 := hw.cell ccb; have lb := hw.lt lb; go_simp; try with_reducible rfl)
                refine wpE_take (i := 11) (q := 12) (v := ?_) rfl (by kernel_rfl) (by kernel_rfl) (by kernel_rfl) (by kernel_rfl) (by kernel_rfl) (fun _ _ _ h => h) (by rfl) ?_ ?_
                rotate_left 1
                · intro w hw; (have hw := HGE.out _ hw; have b0 := hw.cell b0; have b1 := hw.cell b1; have b2 := hw.cell b2; have b3 := hw.cell b3; have b4 := hw.cell b4; have b5 := hw.cell b5; have b6 := hw.cell b6; have b7 := hw.cell b7; have lq := hw.lt lq; have c1 := hw.cell cca; have c2 := hw.cell ccb; have lb := hw.lt lb; go_simp; try with_reducible rfl)
                refine wpE_ready (rs := [12, 17]) (by kernel_rfl) (by simp) (HS.out) ?_
                refine AllReadyE.cons rfl (fun K hK => ?_) ?_
                · skip
                  go_simp
                  with_reducible refine Calls.mono (HFI.out _ (HS.out)) ?_
                  rintro e w11 ⟨rfl, hx⟩
                  have hs := HS.out.ext hx
                  have HS := Lib.hid hs
                  clear hs hx
                  go_simp
                  refine hK _ _ ?_
                  clear hK K
                  refine wpE_take (i := 13) (q := 14) (v := ?_) rfl (by kernel_rfl) (by kernel_rfl) (by kernel_rfl) (by kernel_rfl) (by kernel_rfl) (fun _ _ _ h => h) (by rfl) ?_ ?_
                  rotate_left 1
                  · intro w hw; (have hw := HGE.out _ hw; have b0 := hw.cell b0; have b1 := hw.cell b1; have b2 := hw.cell b2; have b3 := hw.cell b3; have b4 := hw.cell b4; have b5 := hw.cell b5; have b6 := hw.cell b6; have b7 := hw.cell b7; have lq := hw.lt lq; have c1 := hw.cell cca; have c2 := hw.cell ccb; have lb := hw.lt lb; go_simp; try with_reducible rfl)
                  refine wpE_take (i := 14) (q := 18) (v := ?_) rfl (by kernel_rfl) (by kernel_rfl) (by kernel_rfl) (by kernel_rfl) (by kernel_rfl) (fun _ _ _ h => h) (by rfl) ?_ ?_
                  rotate_left 1
                  · intro w hw; (have hw := HGE.out _ hw; have b0 := hw.cell b0; have b1 := hw.cell b1; have b2 := hw.cell b2; have b3 := hw.cell b3; have b4 := hw.cell b4; have b5 := hw.cell b5; have b6 := hw.cell b6; have b7 := hw.cell b7; have lq := hw.lt lq; have c1 := hw.cell cca; have c2 := hw.cell ccb; have lb := hw.lt lb; go_simp; try with_reducible rfl)
                  refine wpE_take (i := 15) (q := 19) (v := ?_) rfl (by kernel_rfl) (by kernel_rfl) (by kernel_rfl) (by kernel_rfl) (by kernel_rfl) (fun _ _ _ h => h) (by rfl) ?_ ?_
                  rotate_left 1
                  · intro w hw; (have hw := HGE.out _ hw; have b0 := hw.cell b0; have b1 := hw.cell b1; have b2 := hw.cell b2; have b3 := hw.cell b3; have b4 := hw.cell b4; have b5 := hw.cell b5; have b6 := hw.cell b6; have b7 := hw.cell b7; have lq := hw.lt lq; have c1 := hw.cell cca; have c2 := hw.cell ccb; have lb := hw.lt lb; go_simp; try with_reducible rfl)
                  refine wpE_take (i := 16) (q := 20) (v := ?_) rfl (by kernel_rfl) (by kernel_rfl) (by kernel_rfl) (by kernel_rfl) (by kernel_rfl) (fun _ _ _ h => h) (by rfl) ?_ ?_
                  rotate_left 1
                  · intro w hw; (have hw := HGE.out _ hw; have b0 := hw.cell b0; have b1 := hw.cell b1; have b2 := hw.cell b2; have b3 := hw.cell b3; have b4 := hw.cell b4; have b5 := hw.cell b5; have b6 := hw.cell b6; have b7 := hw.cell b7; have lq := hw.lt lq; have c1 := hw.cell cca; have c2 := hw.cell ccb; have lb := hw.lt lb; go_simp; try with_reducible rfl)
                  refine wpE_one (i := 17) rfl (by kernel_rfl) (HS.out) (fun K hK => ?_)
                  go_simp
                  refine hK _ _ ?_
                  clear hK K
                  have hs := HS.out.alloc stp0.boxv
                  obtain ⟨b9, hB⟩ : ∃ B, (w11).heap.size = B := ⟨_, rfl⟩
                  obtain ⟨w12, hWN⟩ : ∃ WN, (w11).alloc stp0.boxv = WN := ⟨_, rfl⟩
                  rw [hB, hWN] at hs
                  rw [hB, show (w11).alloc (.cells #[.int .u8 0, .int .u8 0, .int .u8 0, .int .u8 0] 36) = w12 from hWN]
                  have HS := Lib.hid hs
                  have HSC := Lib.hid hs.r
                  clear hs hB hWN
                  have j0 := HS.out.cell (i := 0) rfl
                  have j1 := HS.out.cell (i := 1) rfl
                  have j2 := HS.out.cell (i := 2) rfl
                  have j3 := HS.out.cell (i := 3) rfl
                  have jl := HS.out.lt
                  have f0 := HS.out.free (i := 0)
                  have f1 := HS.out.free (i := 1)
                  have f2 := HS.out.free (i := 2)
                  have f3 := HS.out.free (i := 3)
                  have hz2 := sat_set4 HS.out (.int .u8 (q.getD stp0).skip.toNat) (.int .u8 (q.getD stp0).next.toNat) (.int .u8 (q.getD stp0).op.toNat) (.int .u8 (q.getD stp0).rest.toNat)
                  have HZ2 := Lib.hid hz2
                  have HCZ := Lib.hid hz2.r
                  clear hz2 HS
                  refine wpE_one (i := 18) rfl (by kernel_rfl) (HSC.out) (fun K hK => ?_)
                  go_simp
                  refine hK _ _ ?_
                  clear hK K j0 j1 j2 j3 jl f0 f1 f2 f3 HSC
                  refine wpE_one (i := 19) rfl (by kernel_rfl) (HCZ.out) (fun K hK => ?_)
                  go_simp
                  refine hK _ _ ?_
                  clear hK K
                  refine wpE_one (i := 20) rfl (by kernel_rfl) (HCZ.out) (fun K hK => ?_)
                  go_simp
                  refine hK _ _ ?_
                  clear hK K HCZ
                  refine wpE_done (by kernel_rfl) (by kernel_rfl) ?_
                  go_wp2
                  go_meet
                  exact ⟨b9, rfl, rfl, rfl, HZ2.out⟩
                refine AllReadyE.cons rfl (fun K hK => ?_) ?_
                · skip
                  go_simp
                  refine hK _ _ ?_
                  clear hK K
                  have hs := HS.out.alloc stp0.boxv
                  obtain ⟨b9, hB⟩ : ∃ B, (W9).heap.size = B := ⟨_, rfl⟩
                  obtain ⟨w12, hWN⟩ : ∃ WN, (W9).alloc stp0.boxv = WN := ⟨_, rfl⟩
                  rw [hB, hWN] at hs
                  rw [hB, show (W9).alloc (.cells #[.int .u8 0, .int .u8 0, .int .u8 0, .int .u8 0] 36) = w12 from hWN]
                  have HS := Lib.hid hs
                  have HSC := Lib.hid hs.r
                  clear hs hB hWN
                  refine wpE_one (i := 12) rfl (by kernel_rfl) (HSC.out) (fun K hK => ?_)
                  go_simp
                  with_reducible refine Calls.mono (HFI.out _ (HS.out.r)) ?_
                  rintro e w11 ⟨rfl, hx⟩
                  have hs := HS.out.ext hx
                  have HS := Lib.hid hs
                  clear hs hx
                  go_simp
                  refine hK _ _ ?_
                  clear hK K
                  clear HSC
                  have HSC := Lib.hid HS.out.r
                  refine wpE_take (i := 13) (q := 14) (v := ?_) rfl (by kernel_rfl) (by kernel_rfl) (by kernel_rfl) (by kernel_rfl) (by kernel_rfl) (fun _ _ _ h => h) (by rfl) ?_ ?_
                  rotate_left 1
                  · intro w hw; (have hw := HGE.out _ hw; have b0 := hw.cell b0; have b1 := hw.cell b1; have b2 := hw.cell b2; have b3 := hw.cell b3; have b4 := hw.cell b4; have b5 := hw.cell b5; have b6 := hw.cell b6; have b7 := hw.cell b7; have lq := hw.lt lq; have c1 := hw.cell cca; have c2 := hw.cell ccb; have lb := hw.lt lb; go_simp; try with_reducible rfl)
                  refine wpE_take (i := 14) (q := 18) (v := ?_) rfl (by kernel_rfl) (by kernel_rfl) (by kernel_rfl) (by kernel_rfl) (by kernel_rfl) (fun _ _ _ h => h) (by rfl) ?_ ?_
                  rotate_left 1
                  · intro w hw; (have hw := HGE.out _ hw; have b0 := hw.cell b0; have b1 := hw.cell b1; have b2 := hw.cell b2; have b3 := hw.cell b3; have b4 := hw.cell b4; have b5 := hw.cell b5; have b6 := hw.cell b6; have b7 := hw.cell b7; have lq := hw.lt lq; have c1 := hw.cell cca; have c2 := hw.cell ccb; have lb := hw.lt lb; go_simp; try with_reducible rfl)
                  refine wpE_take (i := 15) (q := 19) (v := ?_) rfl (by kernel_rfl) (by kernel_rfl) (by kernel_rfl) (by kernel_rfl) (by kernel_rfl) (fun _ _ _ h => h) (by rfl) ?_ ?_
                  rotate_left 1
                  · intro w hw; (have hw := HGE.out _ hw; have b0 := hw.cell b0; have b1 := hw.cell b1; have b2 := hw.cell b2; have b3 := hw.cell b3; have b4 := hw.cell b4; have b5 := hw.cell b5; have b6 := hw.cell b6; have b7 := hw.cell b7; have lq := hw.lt lq; have c1 := hw.cell cca; have c2 := hw.cell ccb; have lb := hw.lt lb; go_simp; try with_reducible rfl)
                  refine wpE_take (i := 16) (q := 20) (v := ?_) rfl (by kernel_rfl) (by kernel_rfl) (by kernel_rfl) (by kernel_rfl) (by kernel_rfl) (fun _ _ _ h => h) (by rfl) ?_ ?_
                  rotate_left 1
                  · intro w hw; (have hw := HGE.out _ hw; have b0 := hw.cell b0; have b1 := hw.cell b1; have b2 := hw.cell b2; have b3 := hw.cell b3; have b4 := hw.cell b4; have b5 := hw.cell b5; have b6 := hw.cell b6; have b7 := hw.cell b7; have lq := hw.lt lq; have c1 := hw.cell cca; have c2 := hw.cell ccb; have lb := hw.lt lb; go_simp; try with_reducible rfl)
                  have j0 := HS.out.cell (i := 0) rfl
                  have j1 := HS.out.cell (i := 1) rfl
                  have j2 := HS.out.cell (i := 2) rfl
                  have j3 := HS.out.cell (i := 3) rfl
                  have jl := HS.out.lt
                  have f0 := HS.out.free (i := 0)
                  have f1 := HS.out.free (i := 1)
                  have f2 := HS.out.free (i := 2)
                  have f3 := HS.out.free (i := 3)
                  have hz2 := sat_set4 HS.out (.int .u8 (q.getD stp0).skip.toNat) (.int .u8 (q.getD stp0).next.toNat) (.int .u8 (q.getD stp0).op.toNat) (.int .u8 (q.getD stp0).rest.toNat)
                  have HZ2 := Lib.hid hz2
                  have HCZ := Lib.hid hz2.r
                  clear hz2 HS
                  refine wpE_one (i := 18) rfl (by kernel_rfl) (HSC.out) (fun K hK => ?_)
                  go_simp
                  refine hK _ _ ?_
                  clear hK K j0 j1 j2 j3 jl f0 f1 f2 f3 HSC
                  refine wpE_one (i := 19) rfl (by kernel_rfl) (HCZ.out) (fun K hK => ?_)
                  go_simp
                  refine hK _ _ ?_
                  clear hK K
                  refine wpE_one (i := 20) rfl (by kernel_rfl) (HCZ.out) (fun K hK => ?_)
                  go_simp
                  refine hK _ _ ?_
                  clear hK K HCZ
                  refine wpE_done (by kernel_rfl) (by kernel_rfl) ?_
                  go_wp2
                  go_meet
                  exact ⟨b9, rfl, rfl, rfl, HZ2.out⟩
                exact AllReadyE.nil
              case rest =>
                obtain ⟨b9, rfl, rfl, rfl, hm⟩ := hcut
                have hx6 := HGE.out _ hm.r
                have hm2 := hm.of_eq (show _ = rowP (.slice ua n5 uc) PL * (pts b9 (q.getD stp0).boxv * own W1) by rw [← HGG.out]; ac_rfl)
                unfold rowP at hm2
                rw [HPN.out] at hm2
                have HS7 := Lib.hid hm2
                have c0 := hx6.cell HCC.out
                have lb := hx6.lt HLB.out
                have HX6 := Lib.hid hx6
                have HB6 := Lib.hid (HB.out.ext hx6)
                clear hm hm2 hx6 HX5 HFI HGE HGG b0 b1 b2 b3 b4 b5 b6 b7 lq cca ccb hwj hwa hwc hj0 hjn hj1 hjm
                cases q with
                | none =>
                  go_wp2_with fail
                  with_reducible refine Calls.mono (num_any _ _) ?_
                  rintro e w6 ⟨rfl, rfl⟩
                  go_wp2_with (at_builtin; refine wpList_append_sep rfl _ _ 39 rfl i0 _ 32 Try.underlying39 HI.out HZ0.out HZ1.out HZ2.out rfl rfl HS7.out.allocD ⟨_, 0, none⟩ 1 1 (Pc.cells (⟨1, c.toNat, 1, 0⟩ : Pc)) rfl rfl (new_cells _ _ _) (pc_one _) (by simp only [maxLen]; omega) (by omega) ?_)
                  intro v' w7 h7
                  have h8 := rowP_snoc (L := PL) (y := (⟨1, c.toNat, 1, 0⟩ : Pc)) h7 (by rw [HPN.out])
                  rw [show PL ++ [(⟨1, c.toNat, 1, 0⟩ : Pc)] = wantP F word (j + 1 + 1) from by rw [HWS.out, HSP.out]; rfl] at h8
                  have HS8 := Lib.hid (h8.of_eq (show _ = pts b9 ((none : Option Stp).getD stp0).boxv * (rowP v' (wantP F word (j + 1 + 1)) * own W1) by ac_rfl)).r
                  clear h7 h8 HS7 c0 lb
                  go_wp2
                  go_roundg (wn - (j + 1 + 1))
                  case measure => have := HG.out; omega
                  case rel => exact ⟨j + 1 + 1, by omega, rfl, by go_num, HTS2.out, HNX.out (fun s hs => by cases hs), HS8.out⟩
                | some s =>
                  obtain ⟨s1, s2, s3, s4⟩ := s
                  have k3 := u8i s3
                  have k4 := u8i s4
                  have hs6 := HS7.out.r
                  simp only [Option.getD_some] at hs6
                  have e2 : wc.cell? ⟨b9, 2, none⟩ = some (.int .u8 s3.toNat) := hs6.cell (i := 2) rfl
                  have e3 : wc.cell? ⟨b9, 3, none⟩ = some (.int .u8 s4.toNat) := hs6.cell (i := 3) rfl
                  have le := hs6.lt
                  clear hs6
                  by_cases ho : 128 ≤ s3.toNat
                  · have ho2 : (128 : Int) ≤ s3.toNat := by omega
                    have ho3 : ¬ (s3.toNat : Int) < 128 := by omega
                    obtain ⟨kk, hkl, hks, hk128⟩ := findM_mem HQ.out
                    have hki := HKK.out kk hkl (by rw [← hks]; exact hk128) (by rw [← hks]; exact ho)
                    rw [← hks] at hki
                    simp only at hki
                    obtain ⟨ki, hki2⟩ : ∃ ki, 256 * (s3.toNat - 128) + s4.toNat = ki := ⟨_, rfl⟩
                    rw [hki2] at hki
                    have hko : kernOf F ⟨s1, s2, s3, s4⟩ = F.kerns[ki] := by
                      unfold kernOf
                      simp only [hki2]
                      rw [List.getD_eq_getElem?_getD, List.getElem?_eq_getElem hki]; rfl
                    obtain ⟨kv, hkv⟩ : ∃ kv, kernOf F ⟨s1, s2, s3, s4⟩ = kv := ⟨_, rfl⟩
                    simp only [hkv] at HSP
                    rw [hkv] at hko
                    have hsum : (256 : Int) * ((s3.toNat : Int) - 128) + s4.toNat = ki := by omega
                    have HNY := Lib.hid (HNX.out (fun s hs => by cases hs; exact ho))
                    obtain ⟨kb, ko, rfl, kc0, kl⟩ := (HRD.out.ext HX6.out).rk.int rfl hki
                    rw [← hko] at kc0
                    have hki3 : (ki : Int) < F.kerns.length := by omega
                    have ki0 : (0 : Int) ≤ ki := by omega
                    clear hkl hks hk128 hkv hko hki2 HNX
                    have b0 := HB6.out.c0
                    have b1 := HB6.out.c1
                    have b2 := HB6.out.c2
                    have b3 := HB6.out.c3
                    have b4 := HB6.out.c4
                    have b5 := HB6.out.c5
                    have b6 := HB6.out.c6
                    have b7 := HB6.out.c7
                    have lq := HB6.out.lt
                    go_wp2_with fail
                    with_reducible refine Calls.mono (num_any _ _) ?_
                    rintro e w6 ⟨rfl, rfl⟩
                    go_wp2_with (at_builtin; refine wpList_append_sep rfl _ _ 39 rfl i0 _ 32 Try.underlying39 HI.out HZ0.out HZ1.out HZ2.out rfl rfl HS7.out.allocD ⟨_, 0, none⟩ 1 1 (Pc.cells (⟨8, 0, 0, kv⟩ : Pc)) rfl rfl (new_cells _ _ _) (pc_one _) (by simp only [maxLen]; omega) (by omega) ?_)
                    intro v' w7 h7
                    have h8 := rowP_snoc (L := PL) (y := (⟨8, 0, 0, kv⟩ : Pc)) h7 (by rw [HPN.out])
                    obtain ⟨P2, hP2⟩ : ∃ P2, PL ++ [(⟨8, 0, 0, kv⟩ : Pc)] = P2 := ⟨_, rfl⟩
                    have hP3 : P2.length = n5 + 1 := by rw [← hP2, List.length_append, HPN.out]; rfl
                    rw [hP2] at h8
                    have HP2 := Lib.hid hP2
                    obtain ⟨va, vc, hv, -⟩ := (rowP_rd h8).val
                    rw [hP3] at hv
                    subst hv
                    have hs8 := h8
                    unfold rowP at hs8
                    rw [hP3] at hs8
                    have HS8 := Lib.hid hs8
                    have hx8 := h8.r.r.toExt
                    have HPN2 := Lib.hid hP3
                    have HWS2 := Lib.hid (show wantP F word (j + 1 + 1) = P2 ++ [(⟨1, c.toNat, 1, 0⟩ : Pc)] by rw [HWS.out, HSP.out, ← hP2, List.append_assoc]; rfl)
                    clear h7 h8 hs8 hP2 hP3 HS7 c0 lb e2 e3 le kc0 kl b0 b1 b2 b3 b4 b5 b6 b7 lq HB6
                    have c0 := hx8.cell HCC.out
                    have lb := hx8.lt HLB.out
                    clear hx8
                    go_wp2_with (at_builtin; refine wpList_append_sep rfl _ _ 39 rfl i0 _ 32 Try.underlying39 HI.out HZ0.out HZ1.out HZ2.out rfl rfl HS8.out.allocD ⟨_, 0, none⟩ 1 1 (Pc.cells (⟨1, c.toNat, 1, 0⟩ : Pc)) rfl rfl (new_cells _ _ _) (pc_one _) (by simp only [maxLen]; omega) (by omega) ?_)
                    intro v' w7 h7
                    have h8 := rowP_snoc (L := P2) (y := (⟨1, c.toNat, 1, 0⟩ : Pc)) h7 (by rw [HPN2.out])
                    rw [← HWS2.out] at h8
                    have HS9 := Lib.hid (h8.of_eq (show _ = pts b9 ((some ⟨s1, s2, s3, s4⟩ : Option Stp).getD stp0).boxv * (rowP v' (wantP F word (j + 1 + 1)) * own W1) by ac_rfl)).r
                    clear h7 h8 HS8 c0 lb
                    go_wp2
                    go_roundg (wn - (j + 1 + 1))
                    case measure => have := HG.out; omega
                    case rel => exact ⟨j + 1 + 1, by omega, rfl, by go_num, HTS2.out, HNY.out, HS9.out⟩
                  · have ho2 : (s3.toNat : Int) < 128 := by omega
                    go_wp2_with fail
                    with_reducible refine Calls.mono (num_any _ _) ?_
                    rintro e w6 ⟨rfl, rfl⟩
                    go_wp2_with fail
                    with_reducible refine Calls.mono (HLV.out _) ?_
                    rintro e w7 ⟨rfl, h7⟩
                    have HX7 := Lib.hid ((HE1.out.trans HX6.out).trans h7)
                    clear h7
                    go_wp2
                    go_ret
                    exact ⟨rfl, HX7.out⟩
        · obtain rfl : wn = k := by omega
          have hth := HT.out
          rw [List.take_of_length_le (by rw [HWN.out]; exact Nat.le_refl _)] at hth
          have HRN := Lib.hid (fun w' (k : Ext W1 w') v (hv : RdL byteC 1 w' v word) => krun_any (HRD.out.ext k) hv HCK.out hth (by rw [HWN.out]; exact hlen) (by rw [HWN.out]; exact HNS.out))
          rw [HWN.out] at HRN
          obtain ⟨PL, hPL⟩ : ∃ PL, wantP F word wn = PL := ⟨_, rfl⟩
          rw [hPL] at HR HRN
          obtain ⟨GG, hGG⟩ : ∃ GG, rowP u5 PL * own W1 = GG := ⟨_, rfl⟩
          have HGG := Lib.hid hGG
          rw [hGG] at HR
          have HGE := Lib.hid (fun w' (h : Sat W1 GG w') => (show Ext W1 w' from (h.of_eq hGG.symm).r.toExt))
          obtain ⟨i1, hi, hz0, hz1, hz2⟩ := info_parts3 info_by
          have HJ := Lib.hid hi
          have HY0 := Lib.hid hz0
          have HY1 := Lib.hid hz1
          have HY2 := Lib.hid hz2
          clear hth hs hx HT HNS hi hz0 hz1 hz2 HTH HFN b0 b1 b2 b3 b4 b5 b6 b7 lq hPL hGG
          have b0 := HB.out.c0
          have b1 := HB.out.c1
          have b2 := HB.out.c2
          have b3 := HB.out.c3
          have b4 := HB.out.c4
          have b5 := HB.out.c5
          have b6 := HB.out.c6
          have b7 := HB.out.c7
          have lq := HB.out.lt
          go_upto_region 18 with fail
          refine wp_region_E (fun w' => Sat W1 GG w') (by kernel_rfl) ?_
          obtain ⟨W9, hW9⟩ : ∃ W9, wr.drew = W9 := ⟨_, rfl⟩
          have h9 := HR.out.ext (Ext.refl wr).drew
          rw [hW9] at h9
          rw [hW9]
          have HS := Lib.hid h9
          clear h9 hW9 HR
          refine wpE_take (i := 0) (q := 4) (v := ?_) rfl (by kernel_rfl) (by kernel_rfl) (by kernel_rfl) (by kernel_rfl) (by kernel_rfl) (fun _ _ _ h => h) (by rfl) ?_ ?_
          rotate_left 1
          · intro w hw; (have hw := HGE.out _ hw; have b0 := hw.cell b0; have b1 := hw.cell b1; have b2 := hw.cell b2; have b3 := hw.cell b3; have b4 := hw.cell b4; have b5 := hw.cell b5; have b6 := hw.cell b6; have b7 := hw.cell b7; have lq := hw.lt lq; go_simp; try with_reducible rfl)
          refine wpE_take (i := 2) (q := 3) (v := ?_) rfl (by kernel_rfl) (by kernel_rfl) (by kernel_rfl) (by kernel_rfl) (by kernel_rfl) (fun _ _ _ h => h) (by rfl) ?_ ?_
          rotate_left 1
          · intro w hw; (have hw := HGE.out _ hw; have b0 := hw.cell b0; have b1 := hw.cell b1; have b2 := hw.cell b2; have b3 := hw.cell b3; have b4 := hw.cell b4; have b5 := hw.cell b5; have b6 := hw.cell b6; have b7 := hw.cell b7; have lq := hw.lt lq; go_simp; try with_reducible rfl)
          refine wpE_one (i := 1) rfl (by kernel_rfl) (HS.out) (fun K hK => ?_)
          go_simp
          refine hK _ _ ?_
          clear hK K
          have hs := HS.out.alloc (.cells #[] 5)
          obtain ⟨bn, hbn⟩ : ∃ bn, W9.heap.size = bn := ⟨_, rfl⟩
          obtain ⟨W10, hW10⟩ : ∃ W10, W9.alloc (.cells #[] 5) = W10 := ⟨_, rfl⟩
          rw [hbn, hW10] at hs
          rw [hbn, hW10]
          have HS2 := Lib.hid (Sat.row_whole (size := 1) 0 hs (by simp only [maxLen]; omega) rfl)
          have HRW := Lib.hid (HWD.out.ext (HGE.out _ hs.r))
          clear hs hbn hW10 HS
          refine wpE_one (i := 3) rfl (by kernel_rfl) (HS2.out.r) (fun K hK => ?_)
          refine step_append_rd rfl _ _ 29 rfl i1 _ 1 Try.underlying29 HJ.out HY0.out HY1.out HY2.out rfl (by omega) rfl HS2.out _ wn (word.flatMap byteC) rfl (by have h := HRW.out.1; rw [HWN.out] at h; exact h) (byte_one word) (by simp only [maxLen]; omega) (by omega) ?_
          intro v' w' h7 _
          refine hK _ _ ?_
          clear hK K
          have HS3 := Lib.hid (h7.r)
          have HV := Lib.hid (byte_rd h7 (by rw [HWN.out, Nat.zero_add]))
          clear h7 HS2
          refine wpE_one (i := 4) rfl (by kernel_rfl) (HS3.out) (fun K hK => ?_)
          go_simp
          with_reducible refine Calls.mono (HRN.out _ (HGE.out _ HS3.out) _ HV.out) ?_
          rintro e w8 ⟨u, rfl, h8⟩
          have HU := Lib.hid (rowP_rd h8)
          have HS4 := Lib.hid (HS3.out.ext h8.r.toExt)
          clear h8 HRN HV HRW
          go_simp
          refine hK _ _ ?_
          clear hK K HS3
          refine wpE_take (i := 5) (q := 6) (v := ?_) rfl (by kernel_rfl) (by kernel_rfl) (by kernel_rfl) (by kernel_rfl) (by kernel_rfl) (fun _ _ _ h => h) (by rfl) ?_ ?_
          rotate_left 1
          · intro w hw; (have hw := HGE.out _ hw; have b0 := hw.cell b0; have b1 := hw.cell b1; have b2 := hw.cell b2; have b3 := hw.cell b3; have b4 := hw.cell b4; have b5 := hw.cell b5; have b6 := hw.cell b6; have b7 := hw.cell b7; have lq := hw.lt lq; go_simp; try with_reducible rfl)
          refine wpE_take (i := 6) (q := 8) (v := ?_) rfl (by kernel_rfl) (by kernel_rfl) (by kernel_rfl) (by kernel_rfl) (by kernel_rfl) (fun _ _ _ h => h) (by rfl) ?_ ?_
          rotate_left 1
          · intro w hw; (have hw := HGE.out _ hw; have b0 := hw.cell b0; have b1 := hw.cell b1; have b2 := hw.cell b2; have b3 := hw.cell b3; have b4 := hw.cell b4; have b5 := hw.cell b5; have b6 := hw.cell b6; have b7 := hw.cell b7; have lq := hw.lt lq; go_simp; try with_reducible rfl)
          refine wpE_take (i := 7) (q := 9) (v := ?_) rfl (by kernel_rfl) (by kernel_rfl) (by kernel_rfl) (by kernel_rfl) (by kernel_rfl) (fun _ _ _ h => h) (by rfl) ?_ ?_
          rotate_left 1
          · intro w hw; (have hw := HGE.out _ hw; have b0 := hw.cell b0; have b1 := hw.cell b1; have b2 := hw.cell b2; have b3 := hw.cell b3; have b4 := hw.cell b4; have b5 := hw.cell b5; have b6 := hw.cell b6; have b7 := hw.cell b7; have lq := hw.lt lq; go_simp; try with_reducible rfl)
          refine wpE_one (i := 8) rfl (by kernel_rfl) (HS4.out) (fun K hK => ?_)
          go_simp
          refine hK _ _ ?_
          clear hK K
          refine wpE_one (i := 9) rfl (by kernel_rfl) (HS4.out) (fun K hK => ?_)
          go_simp
          refine hK _ _ ?_
          clear hK K
          refine wpE_done (by kernel_rfl) (by kernel_rfl) ?_
          have HX8 := Lib.hid (HGE.out _ HS4.out)
          have hpc := lpieces_any HU.out (rowP_rd (HS4.out.of_eq HGG.out.symm))
          rw [decide_eq_true rfl] at hpc
          have HPC := Lib.hid hpc
          clear HS4 hpc b0 b1 b2 b3 b4 b5 b6 b7 lq
          go_wp2_with fail
          with_reducible refine Calls.mono (num_any _ _) ?_
          rintro e w9 ⟨rfl, rfl⟩
          go_wp2_with fail
          with_reducible refine Calls.mono HPC.out ?_
          rintro e w10 ⟨rfl, h10⟩
          have HX10 := Lib.hid ((HE1.out.trans HX8.out).trans h10)
          clear h10
          go_wp2_with fail
          with_reducible refine Calls.mono (HLV.out _) ?_
          rintro e w11 ⟨rfl, h11⟩
          have HX11 := Lib.hid (HX10.out.trans h11)
          clear h11
          go_wp2
          go_ret
          exact ⟨rfl, HX11.out⟩
    · have hli : ¬ (wn : Int) ≤ 1000 := by omega
      go_enter Try.func4, Try.ntmps4
      go_upto_region 1 with fail
      rw [HBF.out, HW1.out]
      clear HBF HW1
      have b0 := HB.out.c0
      have b1 := HB.out.c1
      have b2 := HB.out.c2
      have b3 := HB.out.c3
      have b4 := HB.out.c4
      have b5 := HB.out.c5
      have b6 := HB.out.c6
      have b7 := HB.out.c7
      have lq := HB.out.lt
      go_wp2_with fail
      with_reducible refine Calls.mono HC.out ?_
      rintro e w2 ⟨rfl, hx⟩
      have HX2 := Lib.hid (HE1.out.trans hx)
      clear hx HC
      go_wp2_with fail
      with_reducible refine Calls.mono (num_any _ _) ?_
      rintro e w3 ⟨rfl, rfl⟩
      go_wp2_with fail
      with_reducible refine Calls.mono (HLV.out _) ?_
      rintro e w6 ⟨rfl, h6⟩
      have HX6 := Lib.hid (HX2.out.trans h6)
      clear h6
      go_wp2
      go_ret
      exact ⟨rfl, HX6.out⟩
  · obtain ⟨ev, hev⟩ : ∃ ev, lcheckE F = ev := ⟨_, rfl⟩
    rw [hev] at HC he
    clear hev
    go_enter Try.func4, Try.ntmps4
    go_upto_region 1 with fail
    rw [HBF.out, HW1.out]
    clear HBF HW1
    have b0 := HB.out.c0
    have b1 := HB.out.c1
    have b2 := HB.out.c2
    have b3 := HB.out.c3
    have b4 := HB.out.c4
    have b5 := HB.out.c5
    have b6 := HB.out.c6
    have b7 := HB.out.c7
    have lq := HB.out.lt
    go_wp2_with fail
    with_reducible refine Calls.mono HC.out ?_
    rintro e w2 ⟨rfl, hx⟩
    have HX2 := Lib.hid (HE1.out.trans hx)
    clear hx HC
    go_wp2_with fail
    with_reducible refine Calls.mono (num_any _ _) ?_
    rintro e w3 ⟨rfl, rfl⟩
    go_wp2_with fail
    with_reducible refine Calls.mono (HLV.out _) ?_
    rintro e w6 ⟨rfl, h6⟩
    have HX6 := Lib.hid (HX2.out.trans h6)
    clear h6
    go_wp2
    go_ret
    exact ⟨rfl, HX6.out⟩
end Go.Proofs.Ytigjfbbgbiajbaa
