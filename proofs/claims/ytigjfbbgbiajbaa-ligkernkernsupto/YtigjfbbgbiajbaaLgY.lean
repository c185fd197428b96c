/-
  LigkernPlain, walked. Conditions: those that each theorem names.
-/
import Derived.Test.YtigjfbbgbiajbaaLgX
namespace Go.Proofs.Ytigjfbbgbiajbaa
open Go.RowKit Go.Sp
variable {w W : World} {x : FV} {F : Fnt} {A : HProp}

theorem NoStep.succ {word : List UInt8} {j : Nat} (h : NoStep F word (j + 1)) (hj : findM F (word.getD j 0).toNat (word.getD (j + 1) 0).toNat = none) : NoStep F word (j + 1 + 1) := by
  intro i hi
  rcases Nat.lt_or_ge (i + 1) (j + 1) with h1 | h1
  · exact h i h1
  · obtain rfl : i = j := by omega
    exact hj
theorem there_succ {word : List UInt8} {k : Nat} (hk : k < word.length) (h : ∀ c ∈ word.take k, (thereM F c.toNat).isSome = true) (h2 : (thereM F word[k].toNat).isSome = true) : ∀ c ∈ word.take (k + 1), (thereM F c.toNat).isSome = true := by
  rw [List.take_succ_eq_append_getElem hk]
  intro c hc
  rcases List.mem_append.1 hc with h3 | h3
  · exact h c h3
  · rw [List.mem_singleton.1 h3]; exact h2
theorem info_by : (Try.prog.info? 5).map (fun i => (i.zero, i.size, i.bytes)) = some (some (.int .u8 0), 1, 1) := by kernel_rfl
theorem byte_one (L : List UInt8) : ∀ u ∈ L.flatMap byteC, u.oneCell' = true :=
  flatMap_one (fun x u hu => by simp only [byteC, List.mem_singleton] at hu; rw [hu]; rfl) L
theorem byte_rd {v : Value} {n : Nat} {L : List UInt8} (h : Sat W (row v n 5 1 (L.flatMap byteC) * A) w) (hn : n = L.length) : RdL byteC 1 w v L := by
  subst hn
  refine ⟨h.rd, ?_⟩
  obtain ⟨-, h2⟩ := h.row_cases
  rcases h2 with ⟨rfl, h0, -⟩ | ⟨g, cap, cur, rfl, h3, -⟩
  · exact ⟨none, 0, by rw [h0], by rw [h0]; exact Nat.le_refl _⟩
  · exact ⟨_, cap, rfl, h3⟩
set_option maxRecDepth 100000 in
set_option maxHeartbeats 8000000 in
theorem plain_any {wv : Value} {word : List UInt8} (h : RdF w x F) (hw : RdL byteC 1 w wv word) : Calls Try.prog 3 #[F.val x, wv] w fun e w' => e = .returned (.bool true) ∧ Ext w w' := by
  have HS := (Sat.start w).alloc (F.box x)
  obtain ⟨W1, hW1⟩ : ∃ W1, w.alloc (F.box x) = W1 := ⟨_, rfl⟩
  obtain ⟨bf, hbf⟩ : ∃ bf, w.heap.size = bf := ⟨_, rfl⟩
  rw [hW1, hbf] at HS
  have HB := Lib.hid (BoxF.of HS)
  have HE1 := Lib.hid HS.r.toExt
  have HRD := Lib.hid (h.ext HS.r.toExt)
  have HWD := Lib.hid (hw.ext HS.r.toExt)
  have HC := Lib.hid (lcheck_any HRD.out)
  clear HS
  have HLV := Lib.hid (fun w => live_any w)
  obtain ⟨wa, wc, hv, -⟩ := hw.val
  subst hv
  obtain ⟨wn, hwn⟩ : ∃ wn, word.length = wn := ⟨_, rfl⟩
  have HWN := Lib.hid hwn
  have hle := hw.le
  rw [hwn] at hle ⊢
  obtain ⟨ca, cc, sa, sc, ka, kc, pa, pc, ra, rc, rfl, -⟩ := h.vals
  simp only [Fnt.box] at hW1
  have HW1 := Lib.hid hW1
  have HBF := Lib.hid hbf
  clear h hw hW1 hbf hwn
  by_cases he : lcheckE F = 0
  · rw [he] at HC
    have HCK := Lib.hid he
    clear he
    by_cases hlen : wn ≤ 2000
    · have hli : (wn : Int) ≤ 2000 := by omega
      have hok := FOk.of (lcheck_zero HCK.out)
      have htg := tag_of (lcheck_zero HCK.out)
      have HTH := Lib.hid (fun w' (k : Ext W1 w') c => rthere_any (HRD.out.ext k) c hok.h0 hok.h1 htg)
      have HFN := Lib.hid (fun w' (k : Ext W1 w') => lfind_any (HRD.out.ext k) HCK.out)
      clear hok htg
      go_enter Try.func3, Try.ntmps3
      go_upto_region 1 with fail
      rw [HBF.out, HW1.out]
      clear HBF HW1
      have b0 := HB.out.c0
      have b1 := HB.out.c1
      have b2 := HB.out.c2
      have b3 := HB.out.c3
      have b4 := HB.out.c4
      have b5 := HB.out.c5
      have b6 := HB.out.c6
      have b7 := HB.out.c7
      have lq := HB.out.lt
      go_wp2_with fail
      with_reducible refine Calls.mono HC.out ?_
      rintro e w2 ⟨rfl, hx⟩
      have HX2 := Lib.hid hx
      clear hx HC
      go_wp2_with fail
      with_reducible refine Calls.mono (num_any _ _) ?_
      rintro e w3 ⟨rfl, rfl⟩
      go_wp2_with fail
      go_loopg [5] wn (fun gg s5 wx => ∃ k : Nat, k ≤ wn ∧ gg = wn - k ∧ s5 = .int .i64 k ∧ (∀ c ∈ word.take k, (thereM F c.toNat).isSome = true) ∧ NoStep F word k ∧ Ext W1 wx)
      case atStart => exact ⟨0, by omega, rfl, rfl, by simp, fun j hj => absurd hj (by omega), HX2.out⟩
      case round =>
        obtain ⟨k, hk, hg, rfl, ht, hn, hx⟩ := hrel
        have HT := Lib.hid ht
        have HNS := Lib.hid hn
        have HG := Lib.hid hg
        clear ht hn hg HX2
        by_cases hlt : k < wn
        · have hki : (k : Int) < wn := by omega
          have hkw : k < word.length := by rw [HWN.out]; exact hlt
          have hx9 := hx.drew
          obtain ⟨W9, hW9⟩ : ∃ W9, wr.drew = W9 := ⟨_, rfl⟩
          have HC9 := Lib.hid (show Ext W9 wr.drew by rw [hW9]; exact Ext.refl _)
          rw [hW9] at hx9
          have HX9 := Lib.hid hx9
          have HB9 := Lib.hid (HB.out.ext hx9)
          obtain ⟨g, o, rfl, hcc, lb⟩ := (HWD.out.ext hx9).at byte_len (by omega) hkw
          have c0 := hcc 0 _ rfl
          rw [Nat.mul_one, Nat.add_zero] at c0
          have HTS := Lib.hid (there_succ hkw HT.out)
          obtain ⟨c, hc⟩ : ∃ c, word[k] = c := ⟨_, rfl⟩
          have hcd : word.getD k 0 = c := by rw [List.getD_eq_getElem?_getD, List.getElem?_eq_getElem hkw, hc]; rfl
          have HCD := Lib.hid hcd
          rw [hc] at c0 HTS
          obtain ⟨z, hz⟩ : ∃ z, (thereM F c.toNat).isSome = z := ⟨_, rfl⟩
          have HZ := Lib.hid hz
          have uc := u8i c
          clear b0 b1 b2 b3 b4 b5 b6 b7 lq hcc hc hcd hz hx hx9 hW9 hkw
          have b0 := HB9.out.c0
          have b1 := HB9.out.c1
          have b2 := HB9.out.c2
          have b3 := HB9.out.c3
          have b4 := HB9.out.c4
          have b5 := HB9.out.c5
          have b6 := HB9.out.c6
          have b7 := HB9.out.c7
          have lq := HB9.out.lt
          go_upto_region 6 with fail
          refine wp_region_tail (Ext W9) 6 (by kernel_rfl) (by kernel_rfl) HC9.out ?_
          simp only [List.take_succ_cons, List.take_zero, List.drop_succ_cons, List.drop_zero]
          iterate 6
            with_reducible refine wpQuiet_step ?_
            intro K hK
            go_simp
            first
              | (with_reducible refine hK _ ?_
                 clear hK K)
              | (rw [if_neg (by intro h; cases h)]
                 with_reducible refine hK _ ?_
                 clear hK K)
              | (apply Exists.intro
                 refine ⟨fun w9 hw9 => ?_, ?_⟩
                 · first
                    | rfl
                    | (fail)
                    | ((have q0 := hw9.cell b0; have q1 := hw9.cell b1; have q2 := hw9.cell b2; have q3 := hw9.cell b3; have q4 := hw9.cell b4; have q5 := hw9.cell b5; have q6 := hw9.cell b6; have q7 := hw9.cell b7; have q8 := hw9.cell c0; have q9 := hw9.lt lq; have q10 := hw9.lt lb); go_simp; first | done | rfl)
                 with_reducible refine hK _ ?_
                 clear hK K)
          refine wpQuiet_nil ?_
          intro w17 hw17
          have HX17 := Lib.hid (HX9.out.trans hw17)
          clear hw17 b0 b1 b2 b3 b4 b5 b6 b7 lq c0 lb HB9 HX9 HC9
          go_wp2_with fail
          with_reducible refine Calls.mono (HTH.out _ HX17.out c) ?_
          rintro e w5 ⟨rfl, h5⟩
          rw [HZ.out]
          have HX5 := Lib.hid (HX17.out.trans h5)
          clear h5 HX17
          cases z with
          | false =>
            go_wp2_with fail
            with_reducible refine Calls.mono (HLV.out _) ?_
            rintro e w6 ⟨rfl, h6⟩
            have HX6 := Lib.hid ((HE1.out.trans HX5.out).trans h6)
            clear h6
            go_wp2
            go_ret
            exact ⟨rfl, HX6.out⟩
          | true =>
            have HTS2 := Lib.hid (HTS.out HZ.out)
            cases k with
            | zero =>
              go_wp2
              go_roundg (wn - (0 + 1))
              case measure => have := HG.out; omega
              case rel => exact ⟨0 + 1, by omega, rfl, by go_num, HTS2.out, fun j hj => absurd hj (by omega), HX5.out⟩
            | succ j =>
              have hkj : j < word.length := by rw [HWN.out]; omega
              have hkj1 : j + 1 < word.length := by rw [HWN.out]; exact hlt
              obtain ⟨g1, o1, e1, hcc, lb⟩ := HWD.out.at byte_len (by omega) hkj
              obtain ⟨g2, o2, e2, hcb, -⟩ := HWD.out.at byte_len (by omega) hkj1
              simp only [Option.some.injEq, Addr.mk.injEq, and_true] at e1 e2
              obtain ⟨rfl, rfl⟩ := e1
              obtain ⟨rfl, rfl⟩ := e2
              have cca := hcc 0 _ rfl
              have ccb := hcb 0 _ rfl
              rw [Nat.mul_one, Nat.add_zero] at cca ccb
              have hcd := HCD.out
              rw [List.getD_eq_getElem?_getD, List.getElem?_eq_getElem hkj1, Option.getD_some] at hcd
              rw [hcd] at ccb
              have hta := HTS2.out word[j] (by rw [List.mem_iff_getElem]; exact ⟨j, by rw [List.length_take]; omega, List.getElem_take⟩)
              have HNX := Lib.hid (fun h => NoStep.succ (j := j) HNS.out h)
              rw [HCD.out, List.getD_eq_getElem?_getD, List.getElem?_eq_getElem hkj, Option.getD_some] at HNX
              obtain ⟨a, ha⟩ : ∃ a, word[j] = a := ⟨_, rfl⟩
              rw [ha] at cca hta HNX
              have HFI := Lib.hid (fun w' (h : Sat W1 (own W1) w') => HFN.out w' h.toExt a c hta HZ.out)
              obtain ⟨q, hq⟩ : ∃ q, findM F a.toNat c.toNat = q := ⟨_, rfl⟩
              rw [hq] at HFI HNX
              have ua := u8i a
              have hwj : IntKind.i64.wrap (j : Int) = j := IntWalk.i64_in _ (by omega)
              have hwa : IntKind.i64.wrap (a.toNat : Int) = a.toNat := IntWalk.i64_in _ (by omega)
              have hwc : IntKind.i64.wrap (c.toNat : Int) = c.toNat := IntWalk.i64_in _ (by omega)
              have hj0 : (0 : Int) ≤ j := by omega
              have hjn : (j : Int) < wn := by omega
              have hj1 : (0 : Int) ≤ j + 1 := by omega
              have hjm : (j : Int) + 1 < wn := by omega
              clear hcc hcb hcd hta ha hq hkj hkj1 HCD HNS HT HTS HZ
              have b0 := HB.out.c0
              have b1 := HB.out.c1
              have b2 := HB.out.c2
              have b3 := HB.out.c3
              have b4 := HB.out.c4
              have b5 := HB.out.c5
              have b6 := HB.out.c6
              have b7 := HB.out.c7
              have lq := HB.out.lt
              go_upto_region 9 with fail
              go_cut [6, 7, 8] from 39 to 55 (fun s6 s7 s8 wx => ∃ b9 : Nat, s6 = .pointer (some ⟨b9, 0, none⟩) ∧ s7 = .bool q.isSome ∧ s8 = .int .i64 0 ∧ Sat W1 (pts b9 (q.getD stp0).boxv * own W1) wx)
              case first =>
                refine wp_region_E (fun w' => Sat W1 (own W1) w') (by kernel_rfl) ?_
                obtain ⟨W9, hW9⟩ : ∃ W9, w5.drew = W9 := ⟨_, rfl⟩
                have h9 := HX5.out.drew.toSat
                rw [hW9] at h9
                rw [hW9]
                have HS := Lib.hid h9
                clear h9 hW9
                refine wpE_take (i := 0) (q := 12) (v := ?_) rfl (by kernel_rfl) (by kernel_rfl) (by kernel_rfl) (by kernel_rfl) (by kernel_rfl) (fun _ _ _ h => h) (by rfl) ?_ ?_
                rotate_left 1
                · intro w hw; (have hw := hw.toExt; have b0 := hw.cell b0; have b1 := hw.cell b1; have b2 := hw.cell b2; have b3 := hw.cell b3; have b4 := hw.cell b4; have b5 := hw.cell b5; have b6 := hw.cell b6; have b7 := hw.cell b7; have lq := hw.lt lq; have c1 := hw.cell cca; have c2 := hw.cell ccb; have lb := hw.lt lb; go_simp; try with_reducible rfl)
                refine wpE_take (i := 1) (q := 4) (v := ?_) rfl (by kernel_rfl) (by kernel_rfl) (by kernel_rfl) (by kernel_rfl) (by kernel_rfl) (fun _ _ _ h => h) (by rfl) ?_ ?_
                rotate_left 1
                · intro w hw; (have hw := hw.toExt; have b0 := hw.cell b0; have b1 := hw.cell b1; have b2 := hw.cell b2; have b3 := hw.cell b3; have b4 := hw.cell b4; have b5 := hw.cell b5; have b6 := hw.cell b6; have b7 := hw.cell b7; have lq := hw.lt lq; have c1 := hw.cell cca; have c2 := hw.cell ccb; have lb := hw.lt lb; go_simp; try with_reducible rfl)
                refine wpE_take (i := 2) (q := 3) (v := ?_) rfl (by kernel_rfl) (by kernel_rfl) (by kernel_rfl) (by kernel_rfl) (by kernel_rfl) (fun _ _ _ h => h) (by rfl) ?_ ?_
                rotate_left 1
                · intro w hw; (have hw := hw.toExt; have b0 := hw.cell b0; have b1 := hw.cell b1; have b2 := hw.cell b2; have b3 := hw.cell b3; have b4 := hw.cell b4; have b5 := hw.cell b5; have b6 := hw.cell b6; have b7 := hw.cell b7; have lq := hw.lt lq; have c1 := hw.cell cca; have c2 := hw.cell ccb; have lb := hw.lt lb; go_simp; try with_reducible rfl)
                refine wpE_take (i := 3) (q := 4) (v := ?_) rfl (by kernel_rfl) (by kernel_rfl) (by kernel_rfl) (by kernel_rfl) (by kernel_rfl) (fun _ _ _ h => h) (by rfl) ?_ ?_
                rotate_left 1
                · intro w hw; (have hw := hw.toExt; have b0 := hw.cell b0; have b1 := hw.cell b1; have b2 := hw.cell b2; have b3 := hw.cell b3; have b4 := hw.cell b4; have b5 := hw.cell b5; have b6 := hw.cell b6; have b7 := hw.cell b7; have lq := hw.lt lq; have c1 := hw.cell cca; have c2 := hw.cell ccb; have lb := hw.lt lb; go_simp; try with_reducible rfl)
                refine wpE_take (i := 4) (q := 5) (v := ?_) rfl (by kernel_rfl) (by kernel_rfl) (by kernel_rfl) (by kernel_rfl) (by kernel_rfl) (fun _ _ _ h => h) (by rfl) ?_ ?_
                rotate_left 1
                · intro w hw; (have hw := hw.toExt; have b0 := hw.cell b0; have b1 := hw.cell b1; have b2 := hw.cell b2; have b3 := hw.cell b3; have b4 := hw.cell b4; have b5 := hw.cell b5; have b6 := hw.cell b6; have b7 := hw.cell b7; have lq := hw.lt lq; have c1 := hw.cell cca; have c2 := hw.cell ccb; have lb := hw.lt lb; go_simp; try with_reducible rfl)
                refine wpE_take (i := 5) (q := 6) (v := ?_) rfl (by kernel_rfl) (by kernel_rfl) (by kernel_rfl) (by kernel_rfl) (by kernel_rfl) (fun _ _ _ h => h) (by rfl) ?_ ?_
                rotate_left 1
                · intro w hw; (have hw := hw.toExt; have b0 := hw.cell b0; have b1 := hw.cell b1; have b2 := hw.cell b2; have b3 := hw.cell b3; have b4 := hw.cell b4; have b5 := hw.cell b5; have b6 := hw.cell b6; have b7 := hw.cell b7; have lq := hw.lt lq; have c1 := hw.cell cca; have c2 := hw.cell ccb; have lb := hw.lt lb; go_simp; try with_reducible rfl)
                refine wpE_take (i := 6) (q := 12) (v := ?_) rfl (by kernel_rfl) (by kernel_rfl) (by kernel_rfl) (by kernel_rfl) (by kernel_rfl) (fun _ _ _ h => h) (by rfl) ?_ ?_
                rotate_left 1
                · intro w hw; (have hw := hw.toExt; have b0 := hw.cell b0; have b1 := hw.cell b1; have b2 := hw.cell b2; have b3 := hw.cell b3; have b4 := hw.cell b4; have b5 := hw.cell b5; have b6 := hw.cell b6; have b7 := hw.cell b7; have lq := hw.lt lq; have c1 := hw.cell cca; have c2 := hw.cell ccb; have lb := hw.lt lb; go_simp; try with_reducible rfl)
                refine wpE_take (i := 7) (q := 9) (v := ?_) rfl (by kernel_rfl) (by kernel_rfl) (by kernel_rfl) (by kernel_rfl) (by kernel_rfl) (fun _ _ _ h => h) (by rfl) ?_ ?_
                rotate_left 1
                · intro w hw; (have hw := hw.toExt; have b0 := hw.cell b0; have b1 := hw.cell b1; have b2 := hw.cell b2; have b3 := hw.cell b3; have b4 := hw.cell b4; have b5 := hw.cell b5; have b6 := hw.cell b6; have b7 := hw.cell b7; have lq := hw.lt lq; have c1 := hw.cell cca; have c2 := hw.cell ccb; have lb := hw.lt lb; go_simp; try with_reducible rfl)
                refine wpE_take (i := 8) (q := 9) (v := ?_) rfl (by kernel_rfl) (by kernel_rfl) (by kernel_rfl) (by kernel_rfl) (by kernel_rfl) (fun _ _ _ h => h) (by rfl) ?_ ?_
                rotate_left 1
                · intro w hw; (have hw := hw.toExt; have b0 := hw.cell b0; have b1 := hw.cell b1; have b2 := hw.cell b2; have b3 := hw.cell b3; have b4 := hw.cell b4; have b5 := hw.cell b5; have b6 := hw.cell b6; have b7 := hw.cell b7; have lq := hw.lt lq; have c1 := hw.cell cca; have c2 := hw.cell ccb; have lb := hw.lt lb; go_simp; try with_reducible rfl)
                refine wpE_take (i := 9) (q := 10) (v := ?_) rfl (by kernel_rfl) (by kernel_rfl) (by kernel_rfl) (by kernel_rfl) (by kernel_rfl) (fun _ _ _ h => h) (by rfl) ?_ ?_
                rotate_left 1
                · intro w hw; (have hw := hw.toExt; have b0 := hw.cell b0; have b1 := hw.cell b1; have b2 := hw.cell b2; have b3 := hw.cell b3; have b4 := hw.cell b4; have b5 := hw.cell b5; have b6 := hw.cell b6; have b7 := hw.cell b7; have lq := hw.lt lq; have c1 := hw.cell cca; have c2 := hw.cell ccb; have lb := hw.lt lb; go_simp; try with_reducible rfl)
                refine wpE_take (i := 10) (q := 11) (v := ?_) rfl (by kernel_rfl) (by kernel_rfl) (by kernel_rfl) (by kernel_rfl) (by kernel_rfl) (fun _ _ _ h => h) (by rfl) ?_ ?_
                rotate_left 1
                · intro w hw; (have hw := hw.toExt; have b0 := hw.cell b0; have b1 := hw.cell b1; have b2 := hw.cell b2; have b3 := hw.cell b3; have b4 := hw.cell b4; have b5 := hw.cell b5; have b6 := hw.cell b6; have b7 := hw.cell b7; have lq := hw.lt lq; have c1 := hw.cell cca; have c2 := hw.cell ccb; have lb := hw.lt lb; go_simp; try with_reducible rfl)
                refine wpE_take (i := 11) (q := 12) (v := ?_) rfl (by kernel_rfl) (by kernel_rfl) (by kernel_rfl) (by kernel_rfl) (by kernel_rfl) (fun _ _ _ h => h) (by rfl) ?_ ?_
                rotate_left 1
                · intro w hw; (have hw := hw.toExt; have b0 := hw.cell b0; have b1 := hw.cell b1; have b2 := hw.cell b2; have b3 := hw.cell b3; have b4 := hw.cell b4; have b5 := hw.cell b5; have b6 := hw.cell b6; have b7 := hw.cell b7; have lq := hw.lt lq; have c1 := hw.cell cca; have c2 := hw.cell ccb; have lb := hw.lt lb; go_simp; try with_reducible rfl)
                refine wpE_ready (rs := [12, 17]) (by kernel_rfl) (by simp) (HS.out) ?_
                refine AllReadyE.cons rfl (fun K hK => ?_) ?_
                · skip
                  go_simp
                  with_reducible refine Calls.mono (HFI.out _ (HS.out)) ?_
                  rintro e w11 ⟨rfl, hx⟩
                  have hs := HS.out.ext hx
                  have HS := Lib.hid hs
                  clear hs hx
                  go_simp
                  refine hK _ _ ?_
                  clear hK K
                  refine wpE_take (i := 13) (q := 14) (v := ?_) rfl (by kernel_rfl) (by kernel_rfl) (by kernel_rfl) (by kernel_rfl) (by kernel_rfl) (fun _ _ _ h => h) (by rfl) ?_ ?_
                  rotate_left 1
                  · intro w hw; (have hw := hw.toExt; have b0 := hw.cell b0; have b1 := hw.cell b1; have b2 := hw.cell b2; have b3 := hw.cell b3; have b4 := hw.cell b4; have b5 := hw.cell b5; have b6 := hw.cell b6; have b7 := hw.cell b7; have lq := hw.lt lq; have c1 := hw.cell cca; have c2 := hw.cell ccb; have lb := hw.lt lb; go_simp; try with_reducible rfl)
                  refine wpE_take (i := 14) (q := 18) (v := ?_) rfl (by kernel_rfl) (by kernel_rfl) (by kernel_rfl) (by kernel_rfl) (by kernel_rfl) (fun _ _ _ h => h) (by rfl) ?_ ?_
                  rotate_left 1
                  · intro w hw; (have hw := hw.toExt; have b0 := hw.cell b0; have b1 := hw.cell b1; have b2 := hw.cell b2; have b3 := hw.cell b3; have b4 := hw.cell b4; have b5 := hw.cell b5; have b6 := hw.cell b6; have b7 := hw.cell b7; have lq := hw.lt lq; have c1 := hw.cell cca; have c2 := hw.cell ccb; have lb := hw.lt lb; go_simp; try with_reducible rfl)
                  refine wpE_take (i := 15) (q := 19) (v := ?_) rfl (by kernel_rfl) (by kernel_rfl) (by kernel_rfl) (by kernel_rfl) (by kernel_rfl) (fun _ _ _ h => h) (by rfl) ?_ ?_
                  rotate_left 1
                  · intro w hw; (have hw := hw.toExt; have b0 := hw.cell b0; have b1 := hw.cell b1; have b2 := hw.cell b2; have b3 := hw.cell b3; have b4 := hw.cell b4; have b5 := hw.cell b5; have b6 := hw.cell b6; have b7 := hw.cell b7; have lq := hw.lt lq; have c1 := hw.cell cca; have c2 := hw.cell ccb; have lb := hw.lt lb; go_simp; try with_reducible rfl)
                  refine wpE_take (i := 16) (q := 20) (v := ?_) rfl (by kernel_rfl) (by kernel_rfl) (by kernel_rfl) (by kernel_rfl) (by kernel_rfl) (fun _ _ _ h => h) (by rfl) ?_ ?_
                  rotate_left 1
                  · intro w hw; (have hw := hw.toExt; have b0 := hw.cell b0; have b1 := hw.cell b1; have b2 := hw.cell b2; have b3 := hw.cell b3; have b4 := hw.cell b4; have b5 := hw.cell b5; have b6 := hw.cell b6; have b7 := hw.cell b7; have lq := hw.lt lq; have c1 := hw.cell cca; have c2 := hw.cell ccb; have lb := hw.lt lb; go_simp; try with_reducible rfl)
                  refine wpE_one (i := 17) rfl (by kernel_rfl) (HS.out) (fun K hK => ?_)
                  go_simp
                  refine hK _ _ ?_
                  clear hK K
                  have hs := HS.out.alloc stp0.boxv
                  obtain ⟨b9, hB⟩ : ∃ B, (w11).heap.size = B := ⟨_, rfl⟩
                  obtain ⟨w12, hWN⟩ : ∃ WN, (w11).alloc stp0.boxv = WN := ⟨_, rfl⟩
                  rw [hB, hWN] at hs
                  rw [hB, show (w11).alloc (.cells #[.int .u8 0, .int .u8 0, .int .u8 0, .int .u8 0] 36) = w12 from hWN]
                  have HS := Lib.hid hs
                  have HSC := Lib.hid hs.r
                  clear hs hB hWN
                  have j0 := HS.out.cell (i := 0) rfl
                  have j1 := HS.out.cell (i := 1) rfl
                  have j2 := HS.out.cell (i := 2) rfl
                  have j3 := HS.out.cell (i := 3) rfl
                  have jl := HS.out.lt
                  have f0 := HS.out.free (i := 0)
                  have f1 := HS.out.free (i := 1)
                  have f2 := HS.out.free (i := 2)
                  have f3 := HS.out.free (i := 3)
                  have hz2 := sat_set4 HS.out (.int .u8 (q.getD stp0).skip.toNat) (.int .u8 (q.getD stp0).next.toNat) (.int .u8 (q.getD stp0).op.toNat) (.int .u8 (q.getD stp0).rest.toNat)
                  have HZ2 := Lib.hid hz2
                  have HCZ := Lib.hid hz2.r
                  clear hz2 HS
                  refine wpE_one (i := 18) rfl (by kernel_rfl) (HSC.out) (fun K hK => ?_)
                  go_simp
                  refine hK _ _ ?_
                  clear hK K j0 j1 j2 j3 jl f0 f1 f2 f3 HSC
                  refine wpE_one (i := 19) rfl (by kernel_rfl) (HCZ.out) (fun K hK => ?_)
                  go_simp
                  refine hK _ _ ?_
                  clear hK K
                  refine wpE_one (i := 20) rfl (by kernel_rfl) (HCZ.out) (fun K hK => ?_)
                  go_simp
                  refine hK _ _ ?_
                  clear hK K HCZ
                  refine wpE_done (by kernel_rfl) (by kernel_rfl) ?_
                  go_wp2
                  go_meet
                  exact ⟨b9, rfl, rfl, rfl, HZ2.out⟩
                refine AllReadyE.cons rfl (fun K hK => ?_) ?_
                · skip
                  go_simp
                  refine hK _ _ ?_
                  clear hK K
                  have hs := HS.out.alloc stp0.boxv
                  obtain ⟨b9, hB⟩ : ∃ B, (W9).heap.size = B := ⟨_, rfl⟩
                  obtain ⟨w12, hWN⟩ : ∃ WN, (W9).alloc stp0.boxv = WN := ⟨_, rfl⟩
                  rw [hB, hWN] at hs
                  rw [hB, show (W9).alloc (.cells #[.int .u8 0, .int .u8 0, .int .u8 0, .int .u8 0] 36) = w12 from hWN]
                  have HS := Lib.hid hs
                  have HSC := Lib.hid hs.r
                  clear hs hB hWN
                  refine wpE_one (i := 12) rfl (by kernel_rfl) (HSC.out) (fun K hK => ?_)
                  go_simp
                  with_reducible refine Calls.mono (HFI.out _ (HS.out.r)) ?_
                  rintro e w11 ⟨rfl, hx⟩
                  have hs := HS.out.ext hx
                  have HS := Lib.hid hs
                  clear hs hx
                  go_simp
                  refine hK _ _ ?_
                  clear hK K
                  clear HSC
                  have HSC := Lib.hid HS.out.r
                  refine wpE_take (i := 13) (q := 14) (v := ?_) rfl (by kernel_rfl) (by kernel_rfl) (by kernel_rfl) (by kernel_rfl) (by kernel_rfl) (fun _ _ _ h => h) (by rfl) ?_ ?_
                  rotate_left 1
                  · intro w hw; (have hw := hw.toExt; have b0 := hw.cell b0; have b1 := hw.cell b1; have b2 := hw.cell b2; have b3 := hw.cell b3; have b4 := hw.cell b4; have b5 := hw.cell b5; have b6 := hw.cell b6; have b7 := hw.cell b7; have lq := hw.lt lq; have c1 := hw.cell cca; have c2 := hw.cell ccb; have lb := hw.lt lb; go_simp; try with_reducible rfl)
                  refine wpE_take (i := 14) (q := 18) (v := ?_) rfl (by kernel_rfl) (by kernel_rfl) (by kernel_rfl) (by kernel_rfl) (by kernel_rfl) (fun _ _ _ h => h) (by rfl) ?_ ?_
                  rotate_left 1
                  · intro w hw; (have hw := hw.toExt; have b0 := hw.cell b0; have b1 := hw.cell b1; have b2 := hw.cell b2; have b3 := hw.cell b3; have b4 := hw.cell b4; have b5 := hw.cell b5; have b6 := hw.cell b6; have b7 := hw.cell b7; have lq := hw.lt lq; have c1 := hw.cell cca; have c2 := hw.cell ccb; have lb := hw.lt lb; go_simp; try with_reducible rfl)
                  refine wpE_take (i := 15) (q := 19) (v := ?_) rfl (by kernel_rfl) (by kernel_rfl) (by kernel_rfl) (by kernel_rfl) (by kernel_rfl) (fun _ _ _ h => h) (by rfl) ?_ ?_
                  rotate_left 1
                  · intro w hw; (have hw := hw.toExt; have b0 := hw.cell b0; have b1 := hw.cell b1; have b2 := hw.cell b2; have b3 := hw.cell b3; have b4 := hw.cell b4; have b5 := hw.cell b5; have b6 := hw.cell b6; have b7 := hw.cell b7; have lq := hw.lt lq; have c1 := hw.cell cca; have c2 := hw.cell ccb; have lb := hw.lt lb; go_simp; try with_reducible rfl)
                  refine wpE_take (i := 16) (q := 20) (v := ?_) rfl (by kernel_rfl) (by kernel_rfl) (by kernel_rfl) (by kernel_rfl) (by kernel_rfl) (fun _ _ _ h => h) (by rfl) ?_ ?_
                  rotate_left 1
                  · intro w hw; (have hw := hw.toExt; have b0 := hw.cell b0; have b1 := hw.cell b1; have b2 := hw.cell b2; have b3 := hw.cell b3; have b4 := hw.cell b4; have b5 := hw.cell b5; have b6 := hw.cell b6; have b7 := hw.cell b7; have lq := hw.lt lq; have c1 := hw.cell cca; have c2 := hw.cell ccb; have lb := hw.lt lb; go_simp; try with_reducible rfl)
                  have j0 := HS.out.cell (i := 0) rfl
                  have j1 := HS.out.cell (i := 1) rfl
                  have j2 := HS.out.cell (i := 2) rfl
                  have j3 := HS.out.cell (i := 3) rfl
                  have jl := HS.out.lt
                  have f0 := HS.out.free (i := 0)
                  have f1 := HS.out.free (i := 1)
                  have f2 := HS.out.free (i := 2)
                  have f3 := HS.out.free (i := 3)
                  have hz2 := sat_set4 HS.out (.int .u8 (q.getD stp0).skip.toNat) (.int .u8 (q.getD stp0).next.toNat) (.int .u8 (q.getD stp0).op.toNat) (.int .u8 (q.getD stp0).rest.toNat)
                  have HZ2 := Lib.hid hz2
                  have HCZ := Lib.hid hz2.r
                  clear hz2 HS
                  refine wpE_one (i := 18) rfl (by kernel_rfl) (HSC.out) (fun K hK => ?_)
                  go_simp
                  refine hK _ _ ?_
                  clear hK K j0 j1 j2 j3 jl f0 f1 f2 f3 HSC
                  refine wpE_one (i := 19) rfl (by kernel_rfl) (HCZ.out) (fun K hK => ?_)
                  go_simp
                  refine hK _ _ ?_
                  clear hK K
                  refine wpE_one (i := 20) rfl (by kernel_rfl) (HCZ.out) (fun K hK => ?_)
                  go_simp
                  refine hK _ _ ?_
                  clear hK K HCZ
                  refine wpE_done (by kernel_rfl) (by kernel_rfl) ?_
                  go_wp2
                  go_meet
                  exact ⟨b9, rfl, rfl, rfl, HZ2.out⟩
                exact AllReadyE.nil
              case rest =>
                obtain ⟨b9, rfl, rfl, rfl, hm⟩ := hcut
                have HX6 := Lib.hid hm.r.toExt
                clear hm HX5 HFI
                go_wp2_with fail
                with_reducible refine Calls.mono (num_any _ _) ?_
                rintro e w6 ⟨rfl, rfl⟩
                cases q with
                | none =>
                  go_wp2
                  go_roundg (wn - (j + 1 + 1))
                  case measure => have := HG.out; omega
                  case rel => exact ⟨j + 1 + 1, by omega, rfl, by go_num, HTS2.out, HNX.out (by simp), HX6.out⟩
                | some s =>
                  go_wp2_with fail
                  with_reducible refine Calls.mono (HLV.out _) ?_
                  rintro e w7 ⟨rfl, h7⟩
                  have HX7 := Lib.hid ((HE1.out.trans HX6.out).trans h7)
                  clear h7
                  go_wp2
                  go_ret
                  exact ⟨rfl, HX7.out⟩
        · obtain rfl : wn = k := by omega
          have hth := HT.out
          rw [List.take_of_length_le (by rw [HWN.out]; exact Nat.le_refl _)] at hth
          have HRN := Lib.hid (fun w' (k : Ext W1 w') v (hv : RdL byteC 1 w' v word) => prun_any (HRD.out.ext k) hv HCK.out hth (by rw [HWN.out]; exact hlen) (by rw [HWN.out]; exact HNS.out))
          have HX := Lib.hid hx
          obtain ⟨i0, hi, hz0, hz1, hz2⟩ := info_parts3 info_by
          have HI := Lib.hid hi
          have HZ0 := Lib.hid hz0
          have HZ1 := Lib.hid hz1
          have HZ2 := Lib.hid hz2
          clear hth hx HT HNS hi hz0 hz1 hz2 HTH HFN b0 b1 b2 b3 b4 b5 b6 b7 lq
          have b0 := HB.out.c0
          have b1 := HB.out.c1
          have b2 := HB.out.c2
          have b3 := HB.out.c3
          have b4 := HB.out.c4
          have b5 := HB.out.c5
          have b6 := HB.out.c6
          have b7 := HB.out.c7
          have lq := HB.out.lt
          go_upto_region 14 with fail
          refine wp_region_E (fun w' => Sat W1 (own W1) w') (by kernel_rfl) ?_
          obtain ⟨W9, hW9⟩ : ∃ W9, wr.drew = W9 := ⟨_, rfl⟩
          have h9 := HX.out.drew.toSat
          rw [hW9] at h9
          rw [hW9]
          have HS := Lib.hid h9
          clear h9 hW9 HX
          refine wpE_take (i := 0) (q := 4) (v := ?_) rfl (by kernel_rfl) (by kernel_rfl) (by kernel_rfl) (by kernel_rfl) (by kernel_rfl) (fun _ _ _ h => h) (by rfl) ?_ ?_
          rotate_left 1
          · intro w hw; (have hw := hw.toExt; have b0 := hw.cell b0; have b1 := hw.cell b1; have b2 := hw.cell b2; have b3 := hw.cell b3; have b4 := hw.cell b4; have b5 := hw.cell b5; have b6 := hw.cell b6; have b7 := hw.cell b7; have lq := hw.lt lq; go_simp; try with_reducible rfl)
          refine wpE_take (i := 2) (q := 3) (v := ?_) rfl (by kernel_rfl) (by kernel_rfl) (by kernel_rfl) (by kernel_rfl) (by kernel_rfl) (fun _ _ _ h => h) (by rfl) ?_ ?_
          rotate_left 1
          · intro w hw; (have hw := hw.toExt; have b0 := hw.cell b0; have b1 := hw.cell b1; have b2 := hw.cell b2; have b3 := hw.cell b3; have b4 := hw.cell b4; have b5 := hw.cell b5; have b6 := hw.cell b6; have b7 := hw.cell b7; have lq := hw.lt lq; go_simp; try with_reducible rfl)
          refine wpE_one (i := 1) rfl (by kernel_rfl) (HS.out) (fun K hK => ?_)
          go_simp
          refine hK _ _ ?_
          clear hK K
          have hs := HS.out.alloc (.cells #[] 5)
          obtain ⟨bn, hbn⟩ : ∃ bn, W9.heap.size = bn := ⟨_, rfl⟩
          obtain ⟨W10, hW10⟩ : ∃ W10, W9.alloc (.cells #[] 5) = W10 := ⟨_, rfl⟩
          rw [hbn, hW10] at hs
          rw [hbn, hW10]
          have HS2 := Lib.hid (Sat.row_whole (size := 1) 0 hs (by simp only [maxLen]; omega) rfl)
          have HRW := Lib.hid (HWD.out.ext hs.r.toExt)
          clear hs hbn hW10 HS
          refine wpE_one (i := 3) rfl (by kernel_rfl) (HS2.out.r) (fun K hK => ?_)
          refine step_append_rd rfl _ _ 29 rfl i0 _ 1 Try.underlying29 HI.out HZ0.out HZ1.out HZ2.out rfl (by omega) rfl HS2.out _ wn (word.flatMap byteC) rfl (by have h := HRW.out.1; rw [HWN.out] at h; exact h) (byte_one word) (by simp only [maxLen]; omega) (by omega) ?_
          intro v' w' h7 _
          refine hK _ _ ?_
          clear hK K
          have HS3 := Lib.hid (h7.r)
          have HV := Lib.hid (byte_rd h7 (by rw [HWN.out, Nat.zero_add]))
          clear h7 HS2
          refine wpE_one (i := 4) rfl (by kernel_rfl) (HS3.out) (fun K hK => ?_)
          go_simp
          with_reducible refine Calls.mono (HRN.out _ HS3.out.toExt _ HV.out) ?_
          rintro e w8 ⟨u, rfl, h8⟩
          have hu8 := rowP_rd h8
          obtain ⟨ua, uc, hu, -⟩ := hu8.val
          rw [List.length_map, HWN.out] at hu
          subst hu
          have HU := Lib.hid hu8
          have HS4 := Lib.hid (HS3.out.ext h8.r.toExt)
          clear h8 hu8 HRN HV HRW
          go_simp
          refine hK _ _ ?_
          clear hK K HS3
          refine wpE_take (i := 5) (q := 6) (v := ?_) rfl (by kernel_rfl) (by kernel_rfl) (by kernel_rfl) (by kernel_rfl) (by kernel_rfl) (fun _ _ _ h => h) (by rfl) ?_ ?_
          rotate_left 1
          · intro w hw; (have hw := hw.toExt; have b0 := hw.cell b0; have b1 := hw.cell b1; have b2 := hw.cell b2; have b3 := hw.cell b3; have b4 := hw.cell b4; have b5 := hw.cell b5; have b6 := hw.cell b6; have b7 := hw.cell b7; have lq := hw.lt lq; go_simp; try with_reducible rfl)
          refine wpE_take (i := 6) (q := 8) (v := ?_) rfl (by kernel_rfl) (by kernel_rfl) (by kernel_rfl) (by kernel_rfl) (by kernel_rfl) (fun _ _ _ h => h) (by rfl) ?_ ?_
          rotate_left 1
          · intro w hw; (have hw := hw.toExt; have b0 := hw.cell b0; have b1 := hw.cell b1; have b2 := hw.cell b2; have b3 := hw.cell b3; have b4 := hw.cell b4; have b5 := hw.cell b5; have b6 := hw.cell b6; have b7 := hw.cell b7; have lq := hw.lt lq; go_simp; try with_reducible rfl)
          refine wpE_take (i := 7) (q := 9) (v := ?_) rfl (by kernel_rfl) (by kernel_rfl) (by kernel_rfl) (by kernel_rfl) (by kernel_rfl) (fun _ _ _ h => h) (by rfl) ?_ ?_
          rotate_left 1
          · intro w hw; (have hw := hw.toExt; have b0 := hw.cell b0; have b1 := hw.cell b1; have b2 := hw.cell b2; have b3 := hw.cell b3; have b4 := hw.cell b4; have b5 := hw.cell b5; have b6 := hw.cell b6; have b7 := hw.cell b7; have lq := hw.lt lq; go_simp; try with_reducible rfl)
          refine wpE_one (i := 8) rfl (by kernel_rfl) (HS4.out) (fun K hK => ?_)
          go_simp
          refine hK _ _ ?_
          clear hK K
          refine wpE_one (i := 9) rfl (by kernel_rfl) (HS4.out) (fun K hK => ?_)
          go_simp
          refine hK _ _ ?_
          clear hK K
          refine wpE_done (by kernel_rfl) (by kernel_rfl) ?_
          have HX8 := Lib.hid HS4.out.toExt
          clear HS4 b0 b1 b2 b3 b4 b5 b6 b7 lq
          go_wp2_with fail
          with_reducible refine Calls.mono (num_any _ _) ?_
          rintro e w9 ⟨rfl, rfl⟩
          go_wp2_with fail
          go_loopg [11] wn (fun gg s11 wx => ∃ k : Nat, k ≤ wn ∧ gg = wn - k ∧ s11 = .int .i64 k ∧ Ext w9 wx)
          case atStart => exact ⟨0, by omega, rfl, rfl, Ext.refl _⟩
          case round =>
            obtain ⟨k, hk, hg, rfl, hx⟩ := hrel
            have HG2 := Lib.hid hg
            by_cases hlt : k < wn
            · have hki : (k : Int) < wn := by omega
              have hkw : k < word.length := by rw [HWN.out]; exact hlt
              have hx9 := hx.drew
              obtain ⟨W9, hW9⟩ : ∃ W9, wr.drew = W9 := ⟨_, rfl⟩
              rw [hW9] at hx9
              have hU := HU.out.ext hx9
              have hV := HWD.out.ext (HX8.out.trans hx9)
              obtain ⟨g, o, rfl, hcu, lb⟩ := hU.at pc_len (by omega) (show k < (word.map plainP).length by rw [List.length_map]; exact hkw)
              obtain ⟨g2, o2, rfl, hcv, lc⟩ := hV.at byte_len (by omega) hkw
              rw [List.getElem_map] at hcu
              have d0 := hcv 0 _ rfl
              rw [Nat.mul_one, Nat.add_zero] at d0
              obtain ⟨c, hc⟩ : ∃ c, word[k] = c := ⟨_, rfl⟩
              rw [hc] at hcu d0
              obtain ⟨c0, c1, c2, c3⟩ := PcAt.mk' hcu
              simp only [plainP] at c0 c1 c2 c3
              have HX := Lib.hid hx9
              have hrun := fun w => run_neq_pc w (plainP c) (plainP c)
              simp only [decide_true, Bool.not_true, Pc.val, plainP] at hrun
              clear hcu hcv hU hV hx hx9 hg hkw hc
              go_wp2_with fail
              refine wp_region_tail (fun w' => w' = W9) 9 (by kernel_rfl) (by kernel_rfl) hW9 ?_
              clear hW9
              simp only [List.take_succ_cons, List.take_zero, List.drop_succ_cons, List.drop_zero]
              iterate 9
                with_reducible refine wpQuiet_step ?_
                intro K hK
                go_simp
                first
                  | (with_reducible refine hK _ ?_
                     clear hK K)
                  | (rw [if_neg (by intro h; cases h)]
                     with_reducible refine hK _ ?_
                     clear hK K)
                  | (refine Exists.intro _ ⟨fun w9 hw9 => ?_, ?_⟩
                     rotate_left 1
                     with_reducible refine hK _ ?_
                     clear hK K
                     rotate_left 1
                     · subst hw9; go_simp; try with_reducible rfl)
              refine wpQuiet_nil ?_
              rintro w17 rfl
              go_wp2
              go_roundg (wn - (k + 1))
              case measure => have := HG2.out; omega
              case rel => exact ⟨k + 1, by omega, rfl, by go_num, HX.out⟩
            · obtain rfl : wn = k := by omega
              have HX := Lib.hid ((HE1.out.trans HX8.out).trans hx)
              clear hx hg
              go_wp2_with fail
              with_reducible refine Calls.mono (HLV.out _) ?_
              rintro e w7 ⟨rfl, h7⟩
              have HX7 := Lib.hid (HX.out.trans h7)
              clear h7
              go_wp2
              go_ret
              exact ⟨rfl, HX7.out⟩
    · have hli : ¬ (wn : Int) ≤ 2000 := by omega
      go_enter Try.func3, Try.ntmps3
      go_upto_region 1 with fail
      rw [HBF.out, HW1.out]
      clear HBF HW1
      have b0 := HB.out.c0
      have b1 := HB.out.c1
      have b2 := HB.out.c2
      have b3 := HB.out.c3
      have b4 := HB.out.c4
      have b5 := HB.out.c5
      have b6 := HB.out.c6
      have b7 := HB.out.c7
      have lq := HB.out.lt
      go_wp2_with fail
      with_reducible refine Calls.mono HC.out ?_
      rintro e w2 ⟨rfl, hx⟩
      have HX2 := Lib.hid (HE1.out.trans hx)
      clear hx HC
      go_wp2_with fail
      with_reducible refine Calls.mono (num_any _ _) ?_
      rintro e w3 ⟨rfl, rfl⟩
      go_wp2_with fail
      with_reducible refine Calls.mono (HLV.out _) ?_
      rintro e w6 ⟨rfl, h6⟩
      have HX6 := Lib.hid (HX2.out.trans h6)
      clear h6
      go_wp2
      go_ret
      exact ⟨rfl, HX6.out⟩
  · obtain ⟨ev, hev⟩ : ∃ ev, lcheckE F = ev := ⟨_, rfl⟩
    rw [hev] at HC he
    clear hev
    go_enter Try.func3, Try.ntmps3
    go_upto_region 1 with fail
    rw [HBF.out, HW1.out]
    clear HBF HW1
    have b0 := HB.out.c0
    have b1 := HB.out.c1
    have b2 := HB.out.c2
    have b3 := HB.out.c3
    have b4 := HB.out.c4
    have b5 := HB.out.c5
    have b6 := HB.out.c6
    have b7 := HB.out.c7
    have lq := HB.out.lt
    go_wp2_with fail
    with_reducible refine Calls.mono HC.out ?_
    rintro e w2 ⟨rfl, hx⟩
    have HX2 := Lib.hid (HE1.out.trans hx)
    clear hx HC
    go_wp2_with fail
    with_reducible refine Calls.mono (num_any _ _) ?_
    rintro e w3 ⟨rfl, rfl⟩
    go_wp2_with fail
    with_reducible refine Calls.mono (HLV.out _) ?_
    rintro e w6 ⟨rfl, h6⟩
    have HX6 := Lib.hid (HX2.out.trans h6)
    clear h6
    go_wp2
    go_ret
    exact ⟨rfl, HX6.out⟩
end Go.Proofs.Ytigjfbbgbiajbaa
