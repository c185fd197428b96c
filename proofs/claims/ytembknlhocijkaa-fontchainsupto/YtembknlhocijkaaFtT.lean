
/-
  The law's small font, read: the walk. Conditions: those that each theorem names.
-/
import Derived.Test.YtembknlhocijkaaFtU
namespace Go.Proofs.Ytembknlhocijkaa
open Go.RowKit Go.Sp
variable {w w' W : World} {A : HProp}

theorem rowJ_lt {g n c : Nat} {L : List Int} (h : Sat W (rowJ (.slice (some ⟨g, 0, none⟩) n c) L * A) w) (h0 : 0 < L.length) : g < w.heap.size := by
  obtain ⟨g2, c2, e, -, h2⟩ := rowJ_pos h h0
  simp only [Value.slice.injEq, Option.some.injEq, Addr.mk.injEq, and_true] at e
  obtain ⟨rfl, -⟩ := e
  exact h2

theorem tail_sum : ∀ k < 9, 0 ≤ ((headL.drop 4).take k).sum ∧ ((headL.drop 4).take k).sum ≤ 100 := by decide
theorem tail_step : ∀ k < 8, ((headL.drop 4).take (k + 1)).sum = ((headL.drop 4).take k).sum + headL.getD (4 + k) 0 := by decide
abbrev font1 : Obj := fontO (.int .u32 7) (.int .i64 10485760) (.int .i64 97) (.slice none 0 0) (.slice none 0 0) (.slice none 0 0) (.slice none 0 0) (.slice none 0 0)
abbrev fontP (sv kv pv rv cv : Value) : Obj := fontO (.int .u32 7) (.int .i64 10485760) (.int .i64 97) cv sv kv pv rv
set_option maxRecDepth 100000 in
set_option maxHeartbeats 16000000 in
theorem read_any {v : Value} {br : Nat} (hA : ∀ w', Sat W A w' → Ext W w') (hr : RdA W v smallB) (h : Sat W (pts br (rdB v) * A) w) :
    Calls Try.prog 27 #[.pointer (some ⟨br, 0, none⟩), .int .i64 68] w fun e w' => ∃ x X, e = .returned (smallF.val x) ∧ (∀ (w'' : World) (B : HProp), Sat W (X * B) w'' → RdF w'' x smallF) ∧ ∃ v', Sat W (X * (pts br (rdB v') * A)) w' := by
  have hs := (h.alloc (ptB br)).alloc font0
  rw [World.size_alloc] at hs
  obtain ⟨c2, hc2⟩ : ∃ c2, w.heap.size = c2 := ⟨_, rfl⟩
  obtain ⟨W1, hW1⟩ : ∃ W1, (w.alloc (ptB br)).alloc font0 = W1 := ⟨_, rfl⟩
  rw [hc2, hW1] at hs
  have HA := Lib.hid hA
  have hs2 := hs.of_eq (show _ = pts br (rdB v) * (pts c2 (ptB br) * (pts (c2 + 1) font0 * A)) by ac_rfl)
  have HT := Lib.hid (tabHead_any (A := pts c2 (ptB br) * (pts (c2 + 1) font0 * A)) (fun w' h => hA _ h.r.r) hr hs2)
  have p0 := hs2.r.cell (i := 0) rfl
  have pl := hs2.r.lt
  have HW1 := Lib.hid hW1
  have HC2 := Lib.hid hc2
  clear hA hr h hs hs2 hc2 hW1
  go_enter Try.func27, Try.ntmps27
  go_upto_region 1 with fail
  rw [HC2.out, HW1.out]
  clear HC2 HW1
  go_wp2_with fail
  with_reducible refine Calls.mono HT.out ?_
  rintro e w2 ⟨u, rfl, v1, hv1, hs⟩
  have HV1 := Lib.hid hv1
  obtain ⟨hb, hc, rfl, hc12, lb⟩ := rowJ_pos hs (by decide)
  rw [show headL.length = 12 from rfl] at *
  have HS1 := Lib.hid (hs.of_eq (show _ = pts br (rdB v1) * (pts c2 (ptB br) * (rowJ (.slice (some ⟨hb, 0, none⟩) 12 hc) headL * (pts (c2 + 1) font0 * A))) by ac_rfl))
  clear hv1 hs p0 pl HT lb
  go_upto_region 2 with fail
  obtain ⟨W9, hWN⟩ : ∃ WN, w2.drew = WN := ⟨_, rfl⟩
  have hxN : Ext w2 W9 := by rw [← hWN]; exact (Ext.refl w2).drew
  have HS2 := Lib.hid (HS1.out.ext hxN)
  clear hxN HS1
  have hW9 := hWN
  have q0 := rowJ_cells HS2.out.r.r 0 17 rfl
  have q1 := rowJ_cells HS2.out.r.r 1 2 rfl
  have q2 := rowJ_cells HS2.out.r.r 2 97 rfl
  have q3 := rowJ_cells HS2.out.r.r 3 97 rfl
  have lb := rowJ_lt HS2.out.r.r (by decide)
  clear hWN
  refine wp_region_tail (fun w' => w' = W9) 15 (by kernel_rfl) (by kernel_rfl) hW9 ?_
  clear hW9
  simp only [List.take_succ_cons, List.take_zero, List.drop_succ_cons, List.drop_zero]
  iterate 15
    with_reducible refine wpQuiet_step ?_
    intro K hK
    go_simp
    first
      | (with_reducible refine hK _ ?_
         clear hK K)
      | (rw [if_neg (by intro h; cases h)]
         with_reducible refine hK _ ?_
         clear hK K)
      | (refine Exists.intro _ ⟨fun w9 hw9 => ?_, ?_⟩
         rotate_left 1
         with_reducible refine hK _ ?_
         clear hK K
         rotate_left 1
         · subst hw9; go_simp; try with_reducible rfl)
  refine wpQuiet_nil ?_
  rintro w17 rfl
  clear q0 q1 q2 q3
  have HD := Lib.hid (fun w => demand_any w)
  go_wp2_with fail
  with_reducible refine Calls.mono (HD.out _) ?_
  rintro e w3 ⟨rfl, rfl⟩
  have hc4 : (hc = 4) = False := eq_false (by omega)
  have hci : (4 : Int) ≤ hc := by omega
  go_wp2_with fail
  go_loopg [10, 72] 8 (fun gg s10 s72 wx => ∃ k : Nat, k ≤ 8 ∧ gg = 8 - k ∧ s72 = .int .i64 k ∧ s10 = .int .i64 (9 + ((headL.drop 4).take k).sum) ∧ Sat W (pts br (rdB v1) * (pts c2 (ptB br) * (rowJ (.slice (some ⟨hb, 0, none⟩) 12 hc) headL * (pts (c2 + 1) font0 * A)))) wx)
  case atStart => exact ⟨0, by omega, rfl, rfl, rfl, HS2.out⟩
  case round =>
    obtain ⟨k, hk, hg, rfl, rfl, hs⟩ := hrel
    have HG := Lib.hid hg
    have HS3 := Lib.hid hs
    clear hg hs HS2 lb
    by_cases hk8 : k < 8
    · have hki : (k : Int) < 8 := by omega
      have c0 := rowJ_cells HS3.out.r.r (4 + k) (headL.getD (4 + k) 0) (by
        have : 4 + k < headL.length := by show 4 + k < 12; omega
        rw [List.getD_eq_getElem?_getD, List.getElem?_eq_getElem this]; rfl)
      have lb := rowJ_lt HS3.out.r.r (by decide)
      obtain ⟨hs1, hs2⟩ := tail_sum k (by omega)
      obtain ⟨hs3, hs4⟩ := tail_sum (k + 1) (by omega)
      have hst := tail_step k hk8
      obtain ⟨y, hy⟩ : ∃ y, headL.getD (4 + k) 0 = y := ⟨_, rfl⟩
      rw [hy] at c0 hst
      obtain ⟨s0, hs0⟩ : ∃ s, ((headL.drop 4).take k).sum = s := ⟨_, rfl⟩
      rw [hs0] at hs1 hs2 hst
      rw [hst] at hs3 hs4
      have HST := Lib.hid hst
      rw [hs0]
      clear hst hy hs0
      go_wp2
      go_roundg (8 - (k + 1))
      case measure => have := HG.out; omega
      case rel => exact ⟨k + 1, by omega, rfl, by go_num, by rw [HST.out, Int.add_assoc], HS3.out⟩
    · obtain rfl : k = 8 := by omega
      rw [show (9 : Int) + ((headL.drop 4).take 8).sum = 17 by decide]
      have q4 := rowJ_cells HS3.out.r.r 4 2 rfl
      have q5 := rowJ_cells HS3.out.r.r 5 2 rfl
      have q6 := rowJ_cells HS3.out.r.r 6 1 rfl
      have q7 := rowJ_cells HS3.out.r.r 7 1 rfl
      have lb := rowJ_lt HS3.out.r.r (by decide)
      go_wp2_with fail
      with_reducible refine Calls.mono (HD.out _) ?_
      rintro e w4 ⟨rfl, rfl⟩
      clear q4 q5 q6 q7 lb HG hk8
      go_upto_region 13 with fail
      go_cut [13] from 108 to 113 (fun s13 wx => ∃ (b13 : Nat) (v2 : Value), s13 = .pointer (some ⟨b13, 0, none⟩) ∧ RdA W v2 (smallB.drop 32) ∧ Sat W (pts br (rdB v2) * (pts b13 font1 * (pts c2 (ptB br) * (rowJ (.slice (some ⟨hb, 0, none⟩) 12 hc) headL * (pts (c2 + 1) font0 * A))))) wx)
      case first =>
        obtain ⟨C, hC⟩ : ∃ C : World → Prop, C = fun w' => ∃ v, Sat W (pts br (rdB v) * (pts c2 (ptB br) * (rowJ (.slice (some ⟨hb, 0, none⟩) 12 hc) headL * (pts (c2 + 1) font0 * A)))) w' := ⟨_, rfl⟩
        have HCP := Lib.hid (show ∀ w', C w' → w'.cell? ⟨c2, 0, none⟩ = some (.pointer (some ⟨br, 0, none⟩)) ∧ c2 < w'.heap.size from fun w' h => by
          rw [hC] at h
          obtain ⟨v, h⟩ := h
          exact ⟨h.r.cell rfl, h.r.lt⟩)
        have HCI := Lib.hid (show ∀ w' v, Sat W (pts br (rdB v) * (pts c2 (ptB br) * (rowJ (.slice (some ⟨hb, 0, none⟩) 12 hc) headL * (pts (c2 + 1) font0 * A)))) w' → C w' from fun w' v h => by rw [hC]; exact ⟨v, h⟩)
        have HCJ := Lib.hid (show ∀ w' v b O, Sat W (pts br (rdB v) * (pts b O * (pts c2 (ptB br) * (rowJ (.slice (some ⟨hb, 0, none⟩) 12 hc) headL * (pts (c2 + 1) font0 * A))))) w' → C w' from fun w' v b O h => HCI.out _ v (h.of_eq (show _ = pts b O * (pts br (rdB v) * (pts c2 (ptB br) * (rowJ (.slice (some ⟨hb, 0, none⟩) 12 hc) headL * (pts (c2 + 1) font0 * A)))) by ac_rfl)).r)
        have HWD := Lib.hid (fun (w : World) (B : HProp) (hB : ∀ w', Sat W B w' → Ext W w') (h : Sat W (pts br (rdB v1) * B) w) => rword_any (a := 0) (b := 0) (c := 0) (d := 7) (l := smallB.drop 28) hB (show RdA W v1 (0 :: 0 :: 0 :: 7 :: smallB.drop 28) from HV1.out) h)
        have HSG := Lib.hid (fun (w : World) (v : Value) (hv : RdA W v (smallB.drop 28)) (B : HProp) (hB : ∀ w', Sat W B w' → Ext W w') (h : Sat W (pts br (rdB v) * B) w) => rsigned_any (a := 0) (b := 160) (c := 0) (d := 0) (l := smallB.drop 32) (by decide) hB (show RdA W v (0 :: 160 :: 0 :: 0 :: smallB.drop 32) from hv) h)
        refine wp_region_E C (by kernel_rfl) ?_
        obtain ⟨W9, hWN⟩ : ∃ WN, w4.drew = WN := ⟨_, rfl⟩
        have hxN : Ext w4 W9 := by rw [← hWN]; exact (Ext.refl w4).drew
        have HS4 := Lib.hid (HS3.out.ext hxN)
        clear hxN HS3
        rw [hWN]
        clear hWN hC
        refine wpE_take (i := 0) (q := 1) (v := ?_) rfl (by kernel_rfl) (by kernel_rfl) (by kernel_rfl) (by kernel_rfl) (by kernel_rfl) (fun _ _ _ h => h) (by rfl) ?_ ?_
        rotate_left 1
        · intro w hw; (obtain ⟨p1, p2⟩ := HCP.out _ hw; go_simp; try with_reducible rfl)
        refine wpE_take (i := 2) (q := 3) (v := ?_) rfl (by kernel_rfl) (by kernel_rfl) (by kernel_rfl) (by kernel_rfl) (by kernel_rfl) (fun _ _ _ h => h) (by rfl) ?_ ?_
        rotate_left 1
        · intro w hw; (obtain ⟨p1, p2⟩ := HCP.out _ hw; go_simp; try with_reducible rfl)
        refine wpE_take (i := 4) (q := 5) (v := ?_) rfl (by kernel_rfl) (by kernel_rfl) (by kernel_rfl) (by kernel_rfl) (by kernel_rfl) (fun _ _ _ h => h) (by rfl) ?_ ?_
        rotate_left 1
        · intro w hw; (obtain ⟨p1, p2⟩ := HCP.out _ hw; go_simp; try with_reducible rfl)
        refine wpE_ready (rs := [1, 6]) (by kernel_rfl) (by simp) (HCI.out _ _ HS4.out) ?_
        refine AllReadyE.cons rfl (fun K hK => ?_) ?_
        · skip
          go_simp
          with_reducible refine Calls.mono (HWD.out _ _ (by intro w' h; first | exact HA.out _ h.r.r.r | exact HA.out _ h.r.r.r.r) HS4.out) ?_
          rintro e wx ⟨rfl, va, hva, hsa⟩
          have HVA := Lib.hid hva
          have HS5 := Lib.hid hsa
          clear hva hsa HS4
          go_simp
          refine hK _ _ ?_
          clear hK K
          refine wpE_ready (rs := [3, 6]) (by kernel_rfl) (by simp) (HCI.out _ _ HS5.out) ?_
          refine AllReadyE.cons rfl (fun K hK => ?_) ?_
          · skip
            go_simp
            with_reducible refine Calls.mono (HSG.out _ va HVA.out _ (by intro w' h; first | exact HA.out _ h.r.r.r | exact HA.out _ h.r.r.r.r) HS5.out) ?_
            rintro e wy ⟨rfl, vb, hvb, hsb⟩
            have HVB := Lib.hid hvb
            have HS6 := Lib.hid hsb
            clear hvb hsb HS5
            go_simp
            refine hK _ _ ?_
            clear hK K
            refine wpE_take (i := 5) (q := 7) (v := ?_) rfl (by kernel_rfl) (by kernel_rfl) (by kernel_rfl) (by kernel_rfl) (by kernel_rfl) (fun _ _ _ h => h) (by rfl) ?_ ?_
            rotate_left 1
            · intro w hw; (obtain ⟨p1, p2⟩ := HCP.out _ hw; go_simp; try with_reducible rfl)
            refine wpE_one (i := 6) rfl (by kernel_rfl) (HCI.out _ _ HS6.out) (fun K hK => ?_)
            go_simp
            refine hK _ _ ?_
            clear hK K
            have hsc := HS6.out.alloc font0
            obtain ⟨b13, hB⟩ : ∃ B, (wy).heap.size = B := ⟨_, rfl⟩
            obtain ⟨wz, hWN⟩ : ∃ WN, (wy).alloc font0 = WN := ⟨_, rfl⟩
            rw [hB, hWN] at hsc
            rw [hB, show (wy).alloc (.cells #[.int .u32 0, .int .i64 0, .int .i64 0, .slice none 0 0, .slice none 0 0, .slice none 0 0, .slice none 0 0, .slice none 0 0] 35) = wz from hWN]
            have HS7 := Lib.hid (hsc.of_eq (show _ = pts br _ * (pts b13 font0 * (pts c2 (ptB br) * (rowJ (.slice (some ⟨hb, 0, none⟩) 12 hc) headL * (pts (c2 + 1) font0 * A)))) by ac_rfl))
            clear hsc hB hWN HS6
            have hst := HS7.out.of_eq (show _ = pts b13 font0 * (pts br (rdB vb) * (pts c2 (ptB br) * (rowJ (.slice (some ⟨hb, 0, none⟩) 12 hc) headL * (pts (c2 + 1) font0 * A)))) by ac_rfl)
            have d0 := hst.cell (i := 0) rfl
            have d1 := hst.cell (i := 1) rfl
            have d2 := hst.cell (i := 2) rfl
            have d3 := hst.cell (i := 3) rfl
            have d4 := hst.cell (i := 4) rfl
            have d5 := hst.cell (i := 5) rfl
            have d6 := hst.cell (i := 6) rfl
            have d7 := hst.cell (i := 7) rfl
            have f0 := hst.free (i := 0)
            have f1 := hst.free (i := 1)
            have f2 := hst.free (i := 2)
            have f3 := hst.free (i := 3)
            have f4 := hst.free (i := 4)
            have f5 := hst.free (i := 5)
            have f6 := hst.free (i := 6)
            have f7 := hst.free (i := 7)
            have ld := hst.lt
            have HZ := Lib.hid (sat_set8 hst (.int .u32 7) (.int .i64 10485760) (.int .i64 97) (.slice none 0 0) (.slice none 0 0) (.slice none 0 0) (.slice none 0 0) (.slice none 0 0))
            have HCW := Lib.hid (HCI.out _ _ hst.r)
            clear hst HS7
            refine wpE_one (i := 7) rfl (by kernel_rfl) (HCW.out) (fun K hK => ?_)
            go_simp
            refine hK _ _ ?_
            clear hK K d0 d1 d2 d3 d4 d5 d6 d7 f0 f1 f2 f3 f4 f5 f6 f7 ld HCW
            refine wpE_done (by kernel_rfl) (by kernel_rfl) ?_
            go_wp2
            go_meet
            exact ⟨b13, vb, rfl, HVB.out, HZ.out.of_eq (by ac_rfl)⟩
          refine AllReadyE.cons rfl (fun K hK => ?_) ?_
          · skip
            go_simp
            refine hK _ _ ?_
            clear hK K
            have hsc := HS5.out.alloc font0
            obtain ⟨b13, hB⟩ : ∃ B, (wx).heap.size = B := ⟨_, rfl⟩
            obtain ⟨wz, hWN⟩ : ∃ WN, (wx).alloc font0 = WN := ⟨_, rfl⟩
            rw [hB, hWN] at hsc
            rw [hB, show (wx).alloc (.cells #[.int .u32 0, .int .i64 0, .int .i64 0, .slice none 0 0, .slice none 0 0, .slice none 0 0, .slice none 0 0, .slice none 0 0] 35) = wz from hWN]
            have HS6 := Lib.hid (hsc.of_eq (show _ = pts br _ * (pts b13 font0 * (pts c2 (ptB br) * (rowJ (.slice (some ⟨hb, 0, none⟩) 12 hc) headL * (pts (c2 + 1) font0 * A)))) by ac_rfl))
            clear hsc hB hWN HS5
            refine wpE_one (i := 3) rfl (by kernel_rfl) (HCJ.out _ _ _ _ HS6.out) (fun K hK => ?_)
            go_simp
            with_reducible refine Calls.mono (HSG.out _ va HVA.out _ (by intro w' h; first | exact HA.out _ h.r.r.r | exact HA.out _ h.r.r.r.r) HS6.out) ?_
            rintro e wy ⟨rfl, vb, hvb, hsb⟩
            have HVB := Lib.hid hvb
            have HS7 := Lib.hid hsb
            clear hvb hsb HS6
            go_simp
            refine hK _ _ ?_
            clear hK K
            refine wpE_take (i := 5) (q := 7) (v := ?_) rfl (by kernel_rfl) (by kernel_rfl) (by kernel_rfl) (by kernel_rfl) (by kernel_rfl) (fun _ _ _ h => h) (by rfl) ?_ ?_
            rotate_left 1
            · intro w hw; (obtain ⟨p1, p2⟩ := HCP.out _ hw; go_simp; try with_reducible rfl)
            have hst := HS7.out.of_eq (show _ = pts b13 font0 * (pts br (rdB vb) * (pts c2 (ptB br) * (rowJ (.slice (some ⟨hb, 0, none⟩) 12 hc) headL * (pts (c2 + 1) font0 * A)))) by ac_rfl)
            have d0 := hst.cell (i := 0) rfl
            have d1 := hst.cell (i := 1) rfl
            have d2 := hst.cell (i := 2) rfl
            have d3 := hst.cell (i := 3) rfl
            have d4 := hst.cell (i := 4) rfl
            have d5 := hst.cell (i := 5) rfl
            have d6 := hst.cell (i := 6) rfl
            have d7 := hst.cell (i := 7) rfl
            have f0 := hst.free (i := 0)
            have f1 := hst.free (i := 1)
            have f2 := hst.free (i := 2)
            have f3 := hst.free (i := 3)
            have f4 := hst.free (i := 4)
            have f5 := hst.free (i := 5)
            have f6 := hst.free (i := 6)
            have f7 := hst.free (i := 7)
            have ld := hst.lt
            have HZ := Lib.hid (sat_set8 hst (.int .u32 7) (.int .i64 10485760) (.int .i64 97) (.slice none 0 0) (.slice none 0 0) (.slice none 0 0) (.slice none 0 0) (.slice none 0 0))
            have HCW := Lib.hid (HCI.out _ _ hst.r)
            clear hst HS7
            refine wpE_one (i := 7) rfl (by kernel_rfl) (HCW.out) (fun K hK => ?_)
            go_simp
            refine hK _ _ ?_
            clear hK K d0 d1 d2 d3 d4 d5 d6 d7 f0 f1 f2 f3 f4 f5 f6 f7 ld HCW
            refine wpE_done (by kernel_rfl) (by kernel_rfl) ?_
            go_wp2
            go_meet
            exact ⟨b13, vb, rfl, HVB.out, HZ.out.of_eq (by ac_rfl)⟩
          exact AllReadyE.nil
        refine AllReadyE.cons rfl (fun K hK => ?_) ?_
        · skip
          go_simp
          refine hK _ _ ?_
          clear hK K
          have hsc := HS4.out.alloc font0
          obtain ⟨b13, hB⟩ : ∃ B, (W9).heap.size = B := ⟨_, rfl⟩
          obtain ⟨wz, hWN⟩ : ∃ WN, (W9).alloc font0 = WN := ⟨_, rfl⟩
          rw [hB, hWN] at hsc
          rw [hB, show (W9).alloc (.cells #[.int .u32 0, .int .i64 0, .int .i64 0, .slice none 0 0, .slice none 0 0, .slice none 0 0, .slice none 0 0, .slice none 0 0] 35) = wz from hWN]
          have HS5 := Lib.hid (hsc.of_eq (show _ = pts br _ * (pts b13 font0 * (pts c2 (ptB br) * (rowJ (.slice (some ⟨hb, 0, none⟩) 12 hc) headL * (pts (c2 + 1) font0 * A)))) by ac_rfl))
          clear hsc hB hWN HS4
          refine wpE_one (i := 1) rfl (by kernel_rfl) (HCJ.out _ _ _ _ HS5.out) (fun K hK => ?_)
          go_simp
          with_reducible refine Calls.mono (HWD.out _ _ (by intro w' h; first | exact HA.out _ h.r.r.r | exact HA.out _ h.r.r.r.r) HS5.out) ?_
          rintro e wx ⟨rfl, va, hva, hsa⟩
          have HVA := Lib.hid hva
          have HS6 := Lib.hid hsa
          clear hva hsa HS5
          go_simp
          refine hK _ _ ?_
          clear hK K
          refine wpE_one (i := 3) rfl (by kernel_rfl) (HCJ.out _ _ _ _ HS6.out) (fun K hK => ?_)
          go_simp
          with_reducible refine Calls.mono (HSG.out _ va HVA.out _ (by intro w' h; first | exact HA.out _ h.r.r.r | exact HA.out _ h.r.r.r.r) HS6.out) ?_
          rintro e wy ⟨rfl, vb, hvb, hsb⟩
          have HVB := Lib.hid hvb
          have HS7 := Lib.hid hsb
          clear hvb hsb HS6
          go_simp
          refine hK _ _ ?_
          clear hK K
          refine wpE_take (i := 5) (q := 7) (v := ?_) rfl (by kernel_rfl) (by kernel_rfl) (by kernel_rfl) (by kernel_rfl) (by kernel_rfl) (fun _ _ _ h => h) (by rfl) ?_ ?_
          rotate_left 1
          · intro w hw; (obtain ⟨p1, p2⟩ := HCP.out _ hw; go_simp; try with_reducible rfl)
          have hst := HS7.out.of_eq (show _ = pts b13 font0 * (pts br (rdB vb) * (pts c2 (ptB br) * (rowJ (.slice (some ⟨hb, 0, none⟩) 12 hc) headL * (pts (c2 + 1) font0 * A)))) by ac_rfl)
          have d0 := hst.cell (i := 0) rfl
          have d1 := hst.cell (i := 1) rfl
          have d2 := hst.cell (i := 2) rfl
          have d3 := hst.cell (i := 3) rfl
          have d4 := hst.cell (i := 4) rfl
          have d5 := hst.cell (i := 5) rfl
          have d6 := hst.cell (i := 6) rfl
          have d7 := hst.cell (i := 7) rfl
          have f0 := hst.free (i := 0)
          have f1 := hst.free (i := 1)
          have f2 := hst.free (i := 2)
          have f3 := hst.free (i := 3)
          have f4 := hst.free (i := 4)
          have f5 := hst.free (i := 5)
          have f6 := hst.free (i := 6)
          have f7 := hst.free (i := 7)
          have ld := hst.lt
          have HZ := Lib.hid (sat_set8 hst (.int .u32 7) (.int .i64 10485760) (.int .i64 97) (.slice none 0 0) (.slice none 0 0) (.slice none 0 0) (.slice none 0 0) (.slice none 0 0))
          have HCW := Lib.hid (HCI.out _ _ hst.r)
          clear hst HS7
          refine wpE_one (i := 7) rfl (by kernel_rfl) (HCW.out) (fun K hK => ?_)
          go_simp
          refine hK _ _ ?_
          clear hK K d0 d1 d2 d3 d4 d5 d6 d7 f0 f1 f2 f3 f4 f5 f6 f7 ld HCW
          refine wpE_done (by kernel_rfl) (by kernel_rfl) ?_
          go_wp2
          go_meet
          exact ⟨b13, vb, rfl, HVB.out, HZ.out.of_eq (by ac_rfl)⟩
        exact AllReadyE.nil
      case rest =>
        obtain ⟨b13, v2, rfl, hv2, hs⟩ := hcut
        have HB0 := Lib.hid (show Calls Try.prog 40 #[.pointer (some ⟨br, 0, none⟩), .int .i64 0] wc fun e w' => ∃ u, e = .returned u ∧ RdA W u [] ∧ ∃ v', RdA W v' (smallB.drop 32) ∧ Sat W (pts br (rdB v') * (pts b13 font1 * (pts c2 (ptB br) * (rowJ (.slice (some ⟨hb, 0, none⟩) 12 hc) headL * (pts (c2 + 1) font0 * A))))) w' from bytes_any (n := 0) (Nat.zero_le _) hv2 hs)
        have p0 := hs.r.r.cell (i := 0) rfl
        have pl := hs.r.r.lt
        clear hs hv2 HV1 HS3
        go_wp2_with fail
        with_reducible refine Calls.mono HB0.out ?_
        rintro e w5 ⟨u, rfl, -, v3, hv3, hs⟩
        have HT4 := Lib.hid (tab4_one (br := br) (c2 := c2) (a := 1) (b := 16) (c := 0) (d := 0) (l := smallB.drop 36) (A := pts b13 font1 * (rowJ (.slice (some ⟨hb, 0, none⟩) 12 hc) headL * (pts (c2 + 1) font0 * A))) (fun w' h => HA.out _ h.r.r.r) hv3 (hs.of_eq (by ac_rfl)))
        clear p0 pl HB0
        have p0 := hs.r.r.cell (i := 0) rfl
        have pl := hs.r.r.lt
        clear hs hv3
        go_wp2_with fail
        with_reducible refine Calls.mono HT4.out ?_
        rintro e w6 ⟨u14, rfl, v4, hv4, hs⟩
        have HV := Lib.hid hv4
        obtain ⟨B, hB⟩ : ∃ B, row4 u14 [⟨1, 16, 0, 0⟩] * (pts c2 (ptB br) * (pts b13 font1 * (rowJ (.slice (some ⟨hb, 0, none⟩) 12 hc) headL * (pts (c2 + 1) font0 * A)))) = B := ⟨_, rfl⟩
        have HB := Lib.hid hB
        have HS := Lib.hid (hs.of_eq (show _ = pts br (rdB v4) * B by rw [← hB]; ac_rfl))
        clear hs hv4 p0 pl HT4 hB
        go_upto_region 16 with fail
        go_cut [15, 16, 17, 18] from 125 to 148 (fun s15 s16 s17 s18 wx => ∃ v8 : Value, RdA W v8 (smallB.drop 60) ∧ Sat W (rowJ s15 [0, 524288] * (rowJ s16 [0, 262144] * (rowJ s17 [0] * (rowJ s18 [0] * (pts br (rdB v8) * (row4 u14 [⟨1, 16, 0, 0⟩] * (pts c2 (ptB br) * (pts b13 font1 * (rowJ (.slice (some ⟨hb, 0, none⟩) 12 hc) headL * (pts (c2 + 1) font0 * A)))))))))) wx)
        case first =>
          have HBE := Lib.hid (show ∀ Y w', Sat W (Y * B) w' → Ext W w' from fun Y w' h => by rw [← HB.out] at h; exact HA.out _ h.r.r.r.r.r.r)
          obtain ⟨C, hC⟩ : ∃ C : World → Prop, C = fun w' => ∃ v Y, Sat W (pts br (rdB v) * (Y * B)) w' := ⟨_, rfl⟩
          have HCP := Lib.hid (show ∀ w', C w' → w'.cell? ⟨c2, 0, none⟩ = some (.pointer (some ⟨br, 0, none⟩)) ∧ c2 < w'.heap.size ∧ w'.cell? ⟨hb, 4, none⟩ = some (.int .i64 2) ∧ w'.cell? ⟨hb, 5, none⟩ = some (.int .i64 2) ∧ w'.cell? ⟨hb, 6, none⟩ = some (.int .i64 1) ∧ w'.cell? ⟨hb, 7, none⟩ = some (.int .i64 1) ∧ hb < w'.heap.size from fun w' h => by
            rw [hC] at h
            obtain ⟨v, Y, h⟩ := h
            have h2 := h.r.r
            rw [← HB.out] at h2
            have h3 := h2.r.r.r
            exact ⟨h2.r.cell rfl, h2.r.lt, rowJ_cells h3 4 2 rfl, rowJ_cells h3 5 2 rfl, rowJ_cells h3 6 1 rfl, rowJ_cells h3 7 1 rfl, rowJ_lt h3 (by decide)⟩)
          have HCI := Lib.hid (show ∀ w' v Y, Sat W (pts br (rdB v) * (Y * B)) w' → C w' from fun w' v Y h => by rw [hC]; exact ⟨v, Y, h⟩)
          have HT15 := Lib.hid (fun (w : World) (v : Value) (Y : HProp) (hv : RdA W v (smallB.drop 36)) (h : Sat W (pts br (rdB v) * (Y * B)) w) => (show Calls Try.prog 36 #[.int .i64 2, .func (.func 39) #[.pointer (some ⟨br, 0, none⟩)] #[]] w fun e w' => ∃ u, e = .returned u ∧ ∃ v', RdA W v' (smallB.drop 44) ∧ Sat W (rowJ u [0, 524288] * (pts br (rdB v') * (Y * B))) w' from tabWords_any (n := 2) words_w (by omega) rfl (fun w' h => HBE.out Y w' h) hv h))
          have HT16 := Lib.hid (fun (w : World) (v : Value) (Y : HProp) (hv : RdA W v (smallB.drop 44)) (h : Sat W (pts br (rdB v) * (Y * B)) w) => (show Calls Try.prog 36 #[.int .i64 2, .func (.func 39) #[.pointer (some ⟨br, 0, none⟩)] #[]] w fun e w' => ∃ u, e = .returned u ∧ ∃ v', RdA W v' (smallB.drop 52) ∧ Sat W (rowJ u [0, 262144] * (pts br (rdB v') * (Y * B))) w' from tabWords_any (n := 2) words_h (by omega) rfl (fun w' h => HBE.out Y w' h) hv h))
          have HT17 := Lib.hid (fun (w : World) (v : Value) (Y : HProp) (hv : RdA W v (smallB.drop 52)) (h : Sat W (pts br (rdB v) * (Y * B)) w) => (show Calls Try.prog 36 #[.int .i64 1, .func (.func 39) #[.pointer (some ⟨br, 0, none⟩)] #[]] w fun e w' => ∃ u, e = .returned u ∧ ∃ v', RdA W v' (smallB.drop 56) ∧ Sat W (rowJ u [0] * (pts br (rdB v') * (Y * B))) w' from tabWords_any (n := 1) words_d (by omega) rfl (fun w' h => HBE.out Y w' h) hv h))
          have HT18 := Lib.hid (fun (w : World) (v : Value) (Y : HProp) (hv : RdA W v (smallB.drop 56)) (h : Sat W (pts br (rdB v) * (Y * B)) w) => (show Calls Try.prog 36 #[.int .i64 1, .func (.func 39) #[.pointer (some ⟨br, 0, none⟩)] #[]] w fun e w' => ∃ u, e = .returned u ∧ ∃ v', RdA W v' (smallB.drop 60) ∧ Sat W (rowJ u [0] * (pts br (rdB v') * (Y * B))) w' from tabWords_any (n := 1) words_i (by omega) rfl (fun w' h => HBE.out Y w' h) hv h))
          refine wp_region_E C (by kernel_rfl) ?_
          have hs := HS.out.of_eq (show _ = pts br (rdB v4) * (emp * B) by rw [emp_star])
          clear HS
          have HS := Lib.hid hs
          clear hs
          obtain ⟨W9, hWN⟩ : ∃ WN, w6.drew = WN := ⟨_, rfl⟩
          have hxN : Ext w6 W9 := by rw [← hWN]; exact (Ext.refl w6).drew
          have HS0 := Lib.hid (HS.out.ext hxN)
          clear hxN HS
          rw [hWN]
          clear hWN hC
          refine wpE_take (i := 0) (q := 1) (v := ?_) rfl (by kernel_rfl) (by kernel_rfl) (by kernel_rfl) (by kernel_rfl) (by kernel_rfl) (fun _ _ _ h => h) (by rfl) ?_ ?_
          rotate_left 1
          · intro w hw; (obtain ⟨p1, p2, q4, q5, q6, q7, lb⟩ := HCP.out _ hw; go_simp; try with_reducible rfl)
          refine wpE_take (i := 1) (q := 2) (v := ?_) rfl (by kernel_rfl) (by kernel_rfl) (by kernel_rfl) (by kernel_rfl) (by kernel_rfl) (fun _ _ _ h => h) (by rfl) ?_ ?_
          rotate_left 1
          · intro w hw; (obtain ⟨p1, p2, q4, q5, q6, q7, lb⟩ := HCP.out _ hw; go_simp; try with_reducible rfl)
          refine wpE_take (i := 2) (q := 5) (v := ?_) rfl (by kernel_rfl) (by kernel_rfl) (by kernel_rfl) (by kernel_rfl) (by kernel_rfl) (fun _ _ _ h => h) (by rfl) ?_ ?_
          rotate_left 1
          · intro w hw; (obtain ⟨p1, p2, q4, q5, q6, q7, lb⟩ := HCP.out _ hw; go_simp; try with_reducible rfl)
          refine wpE_take (i := 3) (q := 4) (v := ?_) rfl (by kernel_rfl) (by kernel_rfl) (by kernel_rfl) (by kernel_rfl) (by kernel_rfl) (fun _ _ _ h => h) (by rfl) ?_ ?_
          rotate_left 1
          · intro w hw; (obtain ⟨p1, p2, q4, q5, q6, q7, lb⟩ := HCP.out _ hw; go_simp; try with_reducible rfl)
          refine wpE_take (i := 4) (q := 5) (v := ?_) rfl (by kernel_rfl) (by kernel_rfl) (by kernel_rfl) (by kernel_rfl) (by kernel_rfl) (fun _ _ _ h => h) (by rfl) ?_ ?_
          rotate_left 1
          · intro w hw; (obtain ⟨p1, p2, q4, q5, q6, q7, lb⟩ := HCP.out _ hw; go_simp; try with_reducible rfl)
          refine wpE_take (i := 6) (q := 7) (v := ?_) rfl (by kernel_rfl) (by kernel_rfl) (by kernel_rfl) (by kernel_rfl) (by kernel_rfl) (fun _ _ _ h => h) (by rfl) ?_ ?_
          rotate_left 1
          · intro w hw; (obtain ⟨p1, p2, q4, q5, q6, q7, lb⟩ := HCP.out _ hw; go_simp; try with_reducible rfl)
          refine wpE_take (i := 7) (q := 8) (v := ?_) rfl (by kernel_rfl) (by kernel_rfl) (by kernel_rfl) (by kernel_rfl) (by kernel_rfl) (fun _ _ _ h => h) (by rfl) ?_ ?_
          rotate_left 1
          · intro w hw; (obtain ⟨p1, p2, q4, q5, q6, q7, lb⟩ := HCP.out _ hw; go_simp; try with_reducible rfl)
          refine wpE_take (i := 8) (q := 11) (v := ?_) rfl (by kernel_rfl) (by kernel_rfl) (by kernel_rfl) (by kernel_rfl) (by kernel_rfl) (fun _ _ _ h => h) (by rfl) ?_ ?_
          rotate_left 1
          · intro w hw; (obtain ⟨p1, p2, q4, q5, q6, q7, lb⟩ := HCP.out _ hw; go_simp; try with_reducible rfl)
          refine wpE_take (i := 9) (q := 10) (v := ?_) rfl (by kernel_rfl) (by kernel_rfl) (by kernel_rfl) (by kernel_rfl) (by kernel_rfl) (fun _ _ _ h => h) (by rfl) ?_ ?_
          rotate_left 1
          · intro w hw; (obtain ⟨p1, p2, q4, q5, q6, q7, lb⟩ := HCP.out _ hw; go_simp; try with_reducible rfl)
          refine wpE_take (i := 10) (q := 11) (v := ?_) rfl (by kernel_rfl) (by kernel_rfl) (by kernel_rfl) (by kernel_rfl) (by kernel_rfl) (fun _ _ _ h => h) (by rfl) ?_ ?_
          rotate_left 1
          · intro w hw; (obtain ⟨p1, p2, q4, q5, q6, q7, lb⟩ := HCP.out _ hw; go_simp; try with_reducible rfl)
          refine wpE_take (i := 12) (q := 13) (v := ?_) rfl (by kernel_rfl) (by kernel_rfl) (by kernel_rfl) (by kernel_rfl) (by kernel_rfl) (fun _ _ _ h => h) (by rfl) ?_ ?_
          rotate_left 1
          · intro w hw; (obtain ⟨p1, p2, q4, q5, q6, q7, lb⟩ := HCP.out _ hw; go_simp; try with_reducible rfl)
          refine wpE_take (i := 13) (q := 14) (v := ?_) rfl (by kernel_rfl) (by kernel_rfl) (by kernel_rfl) (by kernel_rfl) (by kernel_rfl) (fun _ _ _ h => h) (by rfl) ?_ ?_
          rotate_left 1
          · intro w hw; (obtain ⟨p1, p2, q4, q5, q6, q7, lb⟩ := HCP.out _ hw; go_simp; try with_reducible rfl)
          refine wpE_take (i := 14) (q := 17) (v := ?_) rfl (by kernel_rfl) (by kernel_rfl) (by kernel_rfl) (by kernel_rfl) (by kernel_rfl) (fun _ _ _ h => h) (by rfl) ?_ ?_
          rotate_left 1
          · intro w hw; (obtain ⟨p1, p2, q4, q5, q6, q7, lb⟩ := HCP.out _ hw; go_simp; try with_reducible rfl)
          refine wpE_take (i := 15) (q := 16) (v := ?_) rfl (by kernel_rfl) (by kernel_rfl) (by kernel_rfl) (by kernel_rfl) (by kernel_rfl) (fun _ _ _ h => h) (by rfl) ?_ ?_
          rotate_left 1
          · intro w hw; (obtain ⟨p1, p2, q4, q5, q6, q7, lb⟩ := HCP.out _ hw; go_simp; try with_reducible rfl)
          refine wpE_take (i := 16) (q := 17) (v := ?_) rfl (by kernel_rfl) (by kernel_rfl) (by kernel_rfl) (by kernel_rfl) (by kernel_rfl) (fun _ _ _ h => h) (by rfl) ?_ ?_
          rotate_left 1
          · intro w hw; (obtain ⟨p1, p2, q4, q5, q6, q7, lb⟩ := HCP.out _ hw; go_simp; try with_reducible rfl)
          refine wpE_take (i := 18) (q := 19) (v := ?_) rfl (by kernel_rfl) (by kernel_rfl) (by kernel_rfl) (by kernel_rfl) (by kernel_rfl) (fun _ _ _ h => h) (by rfl) ?_ ?_
          rotate_left 1
          · intro w hw; (obtain ⟨p1, p2, q4, q5, q6, q7, lb⟩ := HCP.out _ hw; go_simp; try with_reducible rfl)
          refine wpE_take (i := 19) (q := 20) (v := ?_) rfl (by kernel_rfl) (by kernel_rfl) (by kernel_rfl) (by kernel_rfl) (by kernel_rfl) (fun _ _ _ h => h) (by rfl) ?_ ?_
          rotate_left 1
          · intro w hw; (obtain ⟨p1, p2, q4, q5, q6, q7, lb⟩ := HCP.out _ hw; go_simp; try with_reducible rfl)
          refine wpE_take (i := 20) (q := 23) (v := ?_) rfl (by kernel_rfl) (by kernel_rfl) (by kernel_rfl) (by kernel_rfl) (by kernel_rfl) (fun _ _ _ h => h) (by rfl) ?_ ?_
          rotate_left 1
          · intro w hw; (obtain ⟨p1, p2, q4, q5, q6, q7, lb⟩ := HCP.out _ hw; go_simp; try with_reducible rfl)
          refine wpE_take (i := 21) (q := 22) (v := ?_) rfl (by kernel_rfl) (by kernel_rfl) (by kernel_rfl) (by kernel_rfl) (by kernel_rfl) (fun _ _ _ h => h) (by rfl) ?_ ?_
          rotate_left 1
          · intro w hw; (obtain ⟨p1, p2, q4, q5, q6, q7, lb⟩ := HCP.out _ hw; go_simp; try with_reducible rfl)
          refine wpE_take (i := 22) (q := 23) (v := ?_) rfl (by kernel_rfl) (by kernel_rfl) (by kernel_rfl) (by kernel_rfl) (by kernel_rfl) (fun _ _ _ h => h) (by rfl) ?_ ?_
          rotate_left 1
          · intro w hw; (obtain ⟨p1, p2, q4, q5, q6, q7, lb⟩ := HCP.out _ hw; go_simp; try with_reducible rfl)
          refine wpE_one (i := 5) rfl (by kernel_rfl) (HCI.out _ _ _ HS0.out) (fun K hK => ?_)
          go_simp
          with_reducible refine Calls.mono (HT15.out _ _ _ HV.out HS0.out) ?_
          rintro e w9x ⟨u15, rfl, v5, hvn, hsn⟩
          have HS5 := Lib.hid (hsn.of_eq (show _ = pts br (rdB v5) * ((rowJ u15 [0, 524288] * emp) * B) by ac_rfl))
          clear HV HS0
          have HV := Lib.hid hvn
          clear hvn hsn
          go_simp
          refine hK _ _ ?_
          clear hK K
          refine wpE_one (i := 11) rfl (by kernel_rfl) (HCI.out _ _ _ HS5.out) (fun K hK => ?_)
          go_simp
          with_reducible refine Calls.mono (HT16.out _ _ _ HV.out HS5.out) ?_
          rintro e w9x ⟨u16, rfl, v6, hvn, hsn⟩
          have HS6 := Lib.hid (hsn.of_eq (show _ = pts br (rdB v6) * ((rowJ u16 [0, 262144] * (rowJ u15 [0, 524288] * emp)) * B) by ac_rfl))
          clear HV HS5
          have HV := Lib.hid hvn
          clear hvn hsn
          go_simp
          refine hK _ _ ?_
          clear hK K
          refine wpE_one (i := 17) rfl (by kernel_rfl) (HCI.out _ _ _ HS6.out) (fun K hK => ?_)
          go_simp
          with_reducible refine Calls.mono (HT17.out _ _ _ HV.out HS6.out) ?_
          rintro e w9x ⟨u17, rfl, v7, hvn, hsn⟩
          have HS7 := Lib.hid (hsn.of_eq (show _ = pts br (rdB v7) * ((rowJ u17 [0] * (rowJ u16 [0, 262144] * (rowJ u15 [0, 524288] * emp))) * B) by ac_rfl))
          clear HV HS6
          have HV := Lib.hid hvn
          clear hvn hsn
          go_simp
          refine hK _ _ ?_
          clear hK K
          refine wpE_one (i := 23) rfl (by kernel_rfl) (HCI.out _ _ _ HS7.out) (fun K hK => ?_)
          go_simp
          with_reducible refine Calls.mono (HT18.out _ _ _ HV.out HS7.out) ?_
          rintro e w9x ⟨u18, rfl, v8, hvn, hsn⟩
          have HS8 := Lib.hid (hsn.of_eq (show _ = pts br (rdB v8) * ((rowJ u18 [0] * (rowJ u17 [0] * (rowJ u16 [0, 262144] * (rowJ u15 [0, 524288] * emp)))) * B) by ac_rfl))
          clear HV HS7
          have HV := Lib.hid hvn
          clear hvn hsn
          go_simp
          refine hK _ _ ?_
          clear hK K
          refine wpE_one (i := 24) rfl (by kernel_rfl) (HCI.out _ _ _ HS8.out) (fun K hK => ?_)
          go_simp
          refine hK _ _ ?_
          clear hK K
          refine wpE_one (i := 25) rfl (by kernel_rfl) (HCI.out _ _ _ HS8.out) (fun K hK => ?_)
          go_simp
          refine hK _ _ ?_
          clear hK K
          refine wpE_one (i := 26) rfl (by kernel_rfl) (HCI.out _ _ _ HS8.out) (fun K hK => ?_)
          go_simp
          refine hK _ _ ?_
          clear hK K
          refine wpE_one (i := 27) rfl (by kernel_rfl) (HCI.out _ _ _ HS8.out) (fun K hK => ?_)
          go_simp
          refine hK _ _ ?_
          clear hK K
          refine wpE_done (by kernel_rfl) (by kernel_rfl) ?_
          have hs := HS8.out.of_eq (show _ = rowJ u15 [0, 524288] * (rowJ u16 [0, 262144] * (rowJ u17 [0] * (rowJ u18 [0] * (pts br (rdB v8) * (row4 u14 [⟨1, 16, 0, 0⟩] * (pts c2 (ptB br) * (pts b13 font1 * (rowJ (.slice (some ⟨hb, 0, none⟩) 12 hc) headL * (pts (c2 + 1) font0 * A))))))))) by
            rw [← HB.out, show rowJ u15 [0, 524288] * emp = rowJ u15 [0, 524288] from by rw [star_comm, emp_star]]; ac_rfl)
          have HF := Lib.hid hs
          clear HS8 HBE HB HT15 HT16 HT17 HT18 HCP HCI hs
          go_wp2
          go_meet
          exact ⟨v8, HV.out, HF.out⟩
        case rest =>
          obtain ⟨v8, hv8, hs⟩ := hcut
          have HV8 := Lib.hid hv8
          clear hv8 HS HV
          obtain ⟨g15, k15, rfl, -, l15⟩ := rowJ_pos hs (by decide)
          obtain ⟨g16, k16, rfl, -, l16⟩ := rowJ_pos hs.r (by decide)
          obtain ⟨g17, k17, rfl, -, l17⟩ := rowJ_pos hs.r.r (by decide)
          obtain ⟨g18, k18, rfl, -, l18⟩ := rowJ_pos hs.r.r.r (by decide)
          rw [show ([0, 524288] : List Int).length = 2 from rfl, show ([0, 262144] : List Int).length = 2 from rfl, show ([0] : List Int).length = 1 from rfl] at *
          have q15 := rowJ_cells hs 0 0 rfl
          have q16 := rowJ_cells hs.r 0 0 rfl
          have q17 := rowJ_cells hs.r.r 0 0 rfl
          have q18 := rowJ_cells hs.r.r.r 0 0 rfl
          obtain ⟨Q, hQ⟩ : ∃ Q, rowJ (.slice (some ⟨g15, 0, none⟩) 2 k15) [0, 524288] * (rowJ (.slice (some ⟨g16, 0, none⟩) 2 k16) [0, 262144] * (rowJ (.slice (some ⟨g17, 0, none⟩) 1 k17) [0] * (rowJ (.slice (some ⟨g18, 0, none⟩) 1 k18) [0] * (row4 u14 [⟨1, 16, 0, 0⟩] * (pts (c2 + 1) font0 * A))))) = Q := ⟨_, rfl⟩
          have HQ := Lib.hid hQ
          have HQA := Lib.hid (show ∀ w', Sat W Q w' → Ext W w' from fun w' h => by rw [← hQ] at h; exact HA.out _ h.r.r.r.r.r.r)
          have HS17 := Lib.hid (hs.of_eq (show _ = pts b13 font1 * (pts br (rdB v8) * (pts c2 (ptB br) * (rowJ (.slice (some ⟨hb, 0, none⟩) 12 hc) headL * Q))) by rw [← hQ]; ac_rfl))
          clear hs hQ
          go_wp2_with fail
          with_reducible refine Calls.mono (HD.out _) ?_
          rintro e w7 ⟨rfl, hw7⟩
          have hw8 := hw7.symm
          clear hw7
          subst hw8
          clear q15 q16 q17 q18 l15 l16 l17 l18
          have dj := HS17.out.cell (i := 4) rfl
          have fj := HS17.out.free (i := 4)
          have l13 := HS17.out.lt
          have p0 := HS17.out.r.r.cell (i := 0) rfl
          have pl := HS17.out.r.r.lt
          have lb := rowJ_lt HS17.out.r.r.r (by decide)
          have q8 := rowJ_cells HS17.out.r.r.r 8 0 rfl
          go_wp2_with fail
          with_reducible refine Calls.mono (tabS_nil _ _) ?_
          rintro e w7 ⟨rfl, hw7⟩
          have hw8 := hw7.symm
          clear hw7
          subst hw8
          have hs8 := HS17.out.set (i := 4) (v := .slice none 0 0)
          rw [fset4] at hs8
          obtain ⟨W18, hW18⟩ : ∃ W18, wc.setCell ⟨b13, 4, none⟩ (.slice none 0 0) = W18 := ⟨_, rfl⟩
          rw [hW18] at hs8
          have HS18 := Lib.hid hs8
          have HW18 := Lib.hid hW18
          clear hs8 hW18
          go_upto_region 19 with fail
          rw [HW18.out]
          clear HW18 HS17 q8
          clear dj fj l13 p0 pl lb
          obtain ⟨W9, hWN⟩ : ∃ WN, W18.drew = WN := ⟨_, rfl⟩
          have hxN : Ext W18 W9 := by rw [← hWN]; exact (Ext.refl W18).drew
          have HS19 := Lib.hid (HS18.out.ext hxN)
          clear hxN HS18
          have hW9 := hWN
          clear hWN
          have dj := HS19.out.cell (i := 5) rfl
          have fj := HS19.out.free (i := 5)
          have l13 := HS19.out.lt
          have p0 := HS19.out.r.r.cell (i := 0) rfl
          have pl := HS19.out.r.r.lt
          have lb := rowJ_lt HS19.out.r.r.r (by decide)
          have q9 := rowJ_cells HS19.out.r.r.r 9 0 rfl
          have HT := Lib.hid (show Calls Try.prog 36 #[.int .i64 0, .func (.func 39) #[.pointer (some ⟨br, 0, none⟩)] #[]] W9 fun e w' => ∃ u, e = .returned u ∧ ∃ v', RdA W v' (smallB.drop 60) ∧ Sat W (rowJ u [] * (pts br (rdB v') * (pts b13 font1 * (pts c2 (ptB br) * (rowJ (.slice (some ⟨hb, 0, none⟩) 12 hc) headL * Q))))) w' from tabWords_any (n := 0) (words_0 60) (by omega) rfl (fun w' h => HQA.out w' h.r.r.r) HV8.out (HS19.out.of_eq (by ac_rfl)))
          refine wp_region_tail (fun w' => w' = W9) 5 (by kernel_rfl) (by kernel_rfl) hW9 ?_
          clear hW9
          simp only [List.take_succ_cons, List.take_zero, List.drop_succ_cons, List.drop_zero]
          iterate 5
            with_reducible refine wpQuiet_step ?_
            intro K hK
            go_simp
            first
              | (with_reducible refine hK _ ?_
                 clear hK K)
              | (rw [if_neg (by intro h; cases h)]
                 with_reducible refine hK _ ?_
                 clear hK K)
              | (refine Exists.intro _ ⟨fun w9 hw9 => ?_, ?_⟩
                 rotate_left 1
                 with_reducible refine hK _ ?_
                 clear hK K
                 rotate_left 1
                 · subst hw9; go_simp; try with_reducible rfl)
          refine wpQuiet_nil ?_
          rintro w17 rfl
          go_wp2_with fail
          with_reducible refine Calls.mono HT.out ?_
          rintro e w19 ⟨uk, rfl, v9, hv9, hs⟩
          obtain ⟨ak, ck, hk_, -⟩ := (rowJ_rd hs).val
          subst hk_
          have HV9 := Lib.hid hv9
          clear dj fj l13 p0 pl lb
          have hs2 := hs.of_eq (show _ = pts b13 font1 * (pts br (rdB v9) * (pts c2 (ptB br) * (rowJ (.slice (some ⟨hb, 0, none⟩) 12 hc) headL * (rowJ (.slice ak 0 ck) [] * Q)))) by
            show rowJ (.slice ak 0 ck) [] * _ = _
            ac_rfl)
          clear hs HT HV8 HS19 q9 hv9
          have HS20 := Lib.hid hs2
          have dj := HS20.out.cell (i := 5) rfl
          have fj := HS20.out.free (i := 5)
          have l13 := HS20.out.lt
          have p0 := HS20.out.r.r.cell (i := 0) rfl
          have pl := HS20.out.r.r.lt
          have lb := rowJ_lt HS20.out.r.r.r (by decide)
          have q10 := rowJ_cells HS20.out.r.r.r 10 0 rfl
          have hs8 := HS20.out.set (i := 5) (v := .slice ak 0 ck)
          rw [fset5] at hs8
          obtain ⟨W18, hW18⟩ : ∃ W18, w19.setCell ⟨b13, 5, none⟩ (.slice ak 0 ck) = W18 := ⟨_, rfl⟩
          rw [hW18] at hs8
          have HS21 := Lib.hid hs8
          have HW18 := Lib.hid hW18
          clear hs8 hW18 hs2
          go_upto_region 20 with fail
          show Code.wp _ _ _ _ (w19.setCell ⟨b13, 5, none⟩ (.slice ak 0 ck))
          rw [HW18.out]
          clear HW18 HS20 q10
          clear dj fj l13 p0 pl lb
          have dj := HS21.out.cell (i := 6) rfl
          have fj := HS21.out.free (i := 6)
          have l13 := HS21.out.lt
          have p0 := HS21.out.r.r.cell (i := 0) rfl
          have pl := HS21.out.r.r.lt
          have lb := rowJ_lt HS21.out.r.r.r (by decide)
          have q10 := rowJ_cells HS21.out.r.r.r 10 0 rfl
          go_wp2_with fail
          with_reducible refine Calls.mono (tab4_nil _ _) ?_
          rintro e w7 ⟨rfl, hw7⟩
          have hw8 := hw7.symm
          clear hw7
          subst hw8
          have hs8 := HS21.out.set (i := 6) (v := .slice none 0 0)
          rw [fset6] at hs8
          obtain ⟨W20, hW20⟩ : ∃ W20, W18.setCell ⟨b13, 6, none⟩ (.slice none 0 0) = W20 := ⟨_, rfl⟩
          rw [hW20] at hs8
          have HS22 := Lib.hid hs8
          have HW20 := Lib.hid hW20
          clear hs8 hW20
          go_upto_region 21 with fail
          rw [HW20.out]
          clear HW20 HS21 q10
          clear dj fj l13 p0 pl lb
          obtain ⟨W9, hWN⟩ : ∃ WN, W20.drew = WN := ⟨_, rfl⟩
          have hxN : Ext W20 W9 := by rw [← hWN]; exact (Ext.refl W20).drew
          have HS23 := Lib.hid (HS22.out.ext hxN)
          clear hxN HS22
          have hW9 := hWN
          clear hWN
          have dj := HS23.out.cell (i := 7) rfl
          have fj := HS23.out.free (i := 7)
          have l13 := HS23.out.lt
          have p0 := HS23.out.r.r.cell (i := 0) rfl
          have pl := HS23.out.r.r.lt
          have lb := rowJ_lt HS23.out.r.r.r (by decide)
          have q9 := rowJ_cells HS23.out.r.r.r 11 2 rfl
          have HT := Lib.hid (show Calls Try.prog 36 #[.int .i64 2, .func (.func 39) #[.pointer (some ⟨br, 0, none⟩)] #[]] W9 fun e w' => ∃ u, e = .returned u ∧ ∃ v', RdA W v' (smallB.drop 68) ∧ Sat W (rowJ u [0, 262144] * (pts br (rdB v') * (pts b13 (fontP (.slice none 0 0) (.slice ak 0 ck) (.slice none 0 0) (.slice none 0 0) (.slice none 0 0)) * (pts c2 (ptB br) * (rowJ (.slice (some ⟨hb, 0, none⟩) 12 hc) headL * (rowJ (.slice ak 0 ck) [] * Q)))))) w' from tabWords_any (n := 2) words_p (by omega) rfl (fun w' h => HQA.out w' h.r.r.r.r) HV9.out (HS23.out.of_eq (by ac_rfl)))
          refine wp_region_tail (fun w' => w' = W9) 5 (by kernel_rfl) (by kernel_rfl) hW9 ?_
          clear hW9
          simp only [List.take_succ_cons, List.take_zero, List.drop_succ_cons, List.drop_zero]
          iterate 5
            with_reducible refine wpQuiet_step ?_
            intro K hK
            go_simp
            first
              | (with_reducible refine hK _ ?_
                 clear hK K)
              | (rw [if_neg (by intro h; cases h)]
                 with_reducible refine hK _ ?_
                 clear hK K)
              | (refine Exists.intro _ ⟨fun w9 hw9 => ?_, ?_⟩
                 rotate_left 1
                 with_reducible refine hK _ ?_
                 clear hK K
                 rotate_left 1
                 · subst hw9; go_simp; try with_reducible rfl)
          refine wpQuiet_nil ?_
          rintro w17 rfl
          go_wp2_with fail
          with_reducible refine Calls.mono HT.out ?_
          rintro e w21 ⟨ur, rfl, v10, -, hs⟩
          obtain ⟨gr, kr, rfl, -, -⟩ := rowJ_pos hs (by decide)
          rw [show ([0, 262144] : List Int).length = 2 from rfl] at *
          clear dj fj l13 p0 pl lb
          rw [← HQ.out] at hs
          obtain ⟨a14, k14, hu14, -⟩ := (row4_rd hs.r.r.r.r.r.r.r.r.r.r).val
          rw [show ([⟨1, 16, 0, 0⟩] : List Pce).length = 1 from rfl] at hu14
          subst hu14
          obtain ⟨g14, o14, rfl, -, -⟩ := (row4_rd hs.r.r.r.r.r.r.r.r.r.r).at pce_len (by decide) (show (0 : Nat) < ([⟨1, 16, 0, 0⟩] : List Pce).length by decide)
          obtain ⟨R, hR⟩ : ∃ R, rowJ (.slice (some ⟨gr, 0, none⟩) 2 kr) [0, 262144] * (rowJ (.slice ak 0 ck) [] * (rowJ (.slice (some ⟨g15, 0, none⟩) 2 k15) [0, 524288] * (rowJ (.slice (some ⟨g16, 0, none⟩) 2 k16) [0, 262144] * (rowJ (.slice (some ⟨g17, 0, none⟩) 1 k17) [0] * (rowJ (.slice (some ⟨g18, 0, none⟩) 1 k18) [0] * (row4 (.slice (some ⟨g14, o14, none⟩) 1 k14) [⟨1, 16, 0, 0⟩] * (pts (c2 + 1) font0 * (pts br (rdB v10) * A)))))))) = R := ⟨_, rfl⟩
          have HR := Lib.hid hR
          have HS25 := Lib.hid (hs.of_eq (show _ = pts b13 (fontP (.slice none 0 0) (.slice ak 0 ck) (.slice none 0 0) (.slice none 0 0) (.slice none 0 0)) * (pts c2 (ptB br) * (rowJ (.slice (some ⟨hb, 0, none⟩) 12 hc) headL * R)) by rw [← hR]; ac_rfl))
          clear hs hR HQ HQA HT HV9 HS23 q9
          have dj := HS25.out.cell (i := 7) rfl
          have fj := HS25.out.free (i := 7)
          have l13 := HS25.out.lt
          have hs8 := HS25.out.set (i := 7) (v := .slice (some ⟨gr, 0, none⟩) 2 kr)
          rw [fset7] at hs8
          obtain ⟨W22, hW22⟩ : ∃ W22, w21.setCell ⟨b13, 7, none⟩ (.slice (some ⟨gr, 0, none⟩) 2 kr) = W22 := ⟨_, rfl⟩
          rw [hW22] at hs8
          have HW22 := Lib.hid hW22
          have hs9 := hs8.of_eq (show _ = pts c2 (ptB br) * (rowJ (.slice (some ⟨hb, 0, none⟩) 12 hc) headL * (pts b13 (fontP (.slice none 0 0) (.slice ak 0 ck) (.slice none 0 0) (.slice (some ⟨gr, 0, none⟩) 2 kr) (.slice none 0 0)) * R)) by ac_rfl)
          have HS26 := Lib.hid ((hs9.r.r).row_nil (e := 41) (size := 6))
          clear hs8 hs9 hW22
          go_upto_region 22 with fail
          show Code.wp _ _ _ _ (w21.setCell ⟨b13, 7, none⟩ (.slice (some ⟨gr, 0, none⟩) 2 kr))
          rw [HW22.out]
          clear HW22 HS25 dj fj l13
          go_wp2_with fail
          go_loopg [200] 1 (fun gg s200 wx => ∃ k : Nat, k ≤ 1 ∧ gg = 1 - k ∧ s200 = .int .i64 k ∧ ∃ cv, Sat W (rowC cv (if k = 0 then [] else [smM]) * (pts b13 (fontP (.slice none 0 0) (.slice ak 0 ck) (.slice none 0 0) (.slice (some ⟨gr, 0, none⟩) 2 kr) cv) * R)) wx)
          case atStart => exact ⟨0, by omega, rfl, rfl, .slice none 0 0, HS26.out⟩
          case round =>
            obtain ⟨k, hk, hg, rfl, cv, hs⟩ := hrel
            have HG := Lib.hid hg
            clear hg HS26
            by_cases hk0 : k = 0
            · subst hk0
              rw [if_pos rfl] at hs
              obtain ⟨va, vc, hv, -⟩ := (rowC_rd hs).val
              rw [List.length_nil] at hv
              subst hv
              have hs2 := (hs.alloc (.cells #[.int .u8 1, .int .u8 16, .int .u8 0, .int .u8 0] 65)).alloc (.cells #[.int .i64 0, .int .i64 0, .int .i64 0, .int .i64 0, .int .i64 (-1), .int .i64 0] 41)
              rw [World.size_alloc] at hs2
              obtain ⟨b20, hb20⟩ : ∃ b20, wr.heap.size = b20 := ⟨_, rfl⟩
              obtain ⟨W25, hW25⟩ : ∃ W25, (wr.alloc (.cells #[.int .u8 1, .int .u8 16, .int .u8 0, .int .u8 0] 65)).alloc (.cells #[.int .i64 0, .int .i64 0, .int .i64 0, .int .i64 0, .int .i64 (-1), .int .i64 0] 41) = W25 := ⟨_, rfl⟩
              rw [hb20, hW25] at hs2
              have hrr := hs.r.r
              rw [← HR.out] at hrr
              have h14 := (row4_rd hrr.r.r.r.r.r.r).at pce_len (by decide) (show (0 : Nat) < ([⟨1, 16, 0, 0⟩] : List Pce).length by decide)
              obtain ⟨x14, y14, e14, hc14, l14⟩ := h14
              simp only [Option.some.injEq, Addr.mk.injEq, and_true] at e14
              obtain ⟨rfl, rfl⟩ := e14
              obtain ⟨m0, m1, m2, m3⟩ := PceAt.mk' hc14
              simp only [Nat.zero_mul, Nat.add_zero] at m0 m1 m2 m3
              have HW25 := Lib.hid hW25
              have HB20 := Lib.hid hb20
              have HS27 := Lib.hid hs2
              clear hs hs2 hrr hc14 hW25 hb20
              go_upto_region 26 with fail
              rw [HB20.out, HW25.out]
              clear HB20 HW25 m0 m1 m2 m3 l14
              obtain ⟨W9, hWN⟩ : ∃ WN, W25.drew = WN := ⟨_, rfl⟩
              have hxN : Ext W25 W9 := by rw [← hWN]; exact (Ext.refl W25).drew
              have HS28 := Lib.hid (HS27.out.ext hxN)
              clear hxN HS27
              have hW9 := hWN
              clear hWN
              have y0 : W9.cell? ⟨b20, 0, none⟩ = some (.int .u8 1) := HS28.out.r.cell (i := 0) rfl
              have y1 : W9.cell? ⟨b20, 1, none⟩ = some (.int .u8 16) := HS28.out.r.cell (i := 1) rfl
              have y2 : W9.cell? ⟨b20, 2, none⟩ = some (.int .u8 0) := HS28.out.r.cell (i := 2) rfl
              have y3 : W9.cell? ⟨b20, 3, none⟩ = some (.int .u8 0) := HS28.out.r.cell (i := 3) rfl
              have l20 := HS28.out.r.lt
              have ba1 : bits .and .u8 16 15 = 0 := by decide
              have ba2 : bits .and .u8 0 3 = 0 := by decide
              have hw0 : IntKind.i64.wrap 0 = 0 := by decide
              have hw1 : IntKind.i64.wrap 1 = 1 := by decide
              refine wp_region_tail (fun w' => w' = W9) 18 (by kernel_rfl) (by kernel_rfl) hW9 ?_
              clear hW9
              simp only [List.take_succ_cons, List.take_zero, List.drop_succ_cons, List.drop_zero]
              iterate 18
                with_reducible refine wpQuiet_step ?_
                intro K hK
                go_simp
                first
                  | (with_reducible refine hK _ ?_
                     clear hK K)
                  | (rw [if_neg (by intro h; cases h)]
                     with_reducible refine hK _ ?_
                     clear hK K)
                  | (refine Exists.intro _ ⟨fun w9 hw9 => ?_, ?_⟩
                     rotate_left 1
                     with_reducible refine hK _ ?_
                     clear hK K
                     rotate_left 1
                     · subst hw9; go_simp; try with_reducible rfl)
              refine wpQuiet_nil ?_
              rintro w17 rfl
              go_wp2_with fail
              with_reducible refine Calls.mono (HD.out _) ?_
              rintro e w7 ⟨rfl, hw7⟩
              have hw8 := hw7.symm
              clear hw7
              subst hw8
              go_wp2_with fail
              with_reducible refine Calls.mono (HD.out _) ?_
              rintro e w7 ⟨rfl, hw7⟩
              have hw8 := hw7.symm
              clear hw7
              subst hw8
              go_upto_region 30 with fail
              clear y0 y1 y2 y3 l20 hw0 hw1
              obtain ⟨W9, hWN⟩ : ∃ WN, w17.drew = WN := ⟨_, rfl⟩
              have hxN : Ext w17 W9 := by rw [← hWN]; exact (Ext.refl w17).drew
              have HS29 := Lib.hid (HS28.out.ext hxN)
              clear hxN HS28
              have hW9 := hWN
              clear hWN
              have hrr := HS29.out.r.r.r.r
              rw [← HR.out] at hrr
              have y2 : W9.cell? ⟨b20, 2, none⟩ = some (.int .u8 0) := HS29.out.r.cell (i := 2) rfl
              have y3 : W9.cell? ⟨b20, 3, none⟩ = some (.int .u8 0) := HS29.out.r.cell (i := 3) rfl
              have l20 := HS29.out.r.lt
              have q15 := rowJ_cells hrr.r.r 1 524288 rfl
              have q16 := rowJ_cells hrr.r.r.r 1 262144 rfl
              have q17 := rowJ_cells hrr.r.r.r.r 0 0 rfl
              have q18 := rowJ_cells hrr.r.r.r.r.r 0 0 rfl
              have r15 := rowJ_lt hrr.r.r (by decide)
              have r16 := rowJ_lt hrr.r.r.r (by decide)
              have r17 := rowJ_lt hrr.r.r.r.r (by decide)
              have r18 := rowJ_lt hrr.r.r.r.r.r (by decide)
              have hw0 : IntKind.i64.wrap 0 = 0 := by decide
              clear hrr
              refine wp_region_tail (fun w' => w' = W9) 24 (by kernel_rfl) (by kernel_rfl) hW9 ?_
              clear hW9
              simp only [List.take_succ_cons, List.take_zero, List.drop_succ_cons, List.drop_zero]
              iterate 24
                with_reducible refine wpQuiet_step ?_
                intro K hK
                go_simp
                first
                  | (with_reducible refine hK _ ?_
                     clear hK K)
                  | (rw [if_neg (by intro h; cases h)]
                     with_reducible refine hK _ ?_
                     clear hK K)
                  | (refine Exists.intro _ ⟨fun w9 hw9 => ?_, ?_⟩
                     rotate_left 1
                     with_reducible refine hK _ ?_
                     clear hK K
                     rotate_left 1
                     · subst hw9; go_simp; try with_reducible rfl)
              refine wpQuiet_nil ?_
              rintro w17 rfl
              clear y2 y3 l20 q15 q16 q17 q18 r15 r16 r17 r18 hw0
              have e0 := HS29.out.cell (i := 0) rfl
              have e1 := HS29.out.cell (i := 1) rfl
              have e2 := HS29.out.cell (i := 2) rfl
              have e3 := HS29.out.cell (i := 3) rfl
              have e4 := HS29.out.cell (i := 4) rfl
              have e5 := HS29.out.cell (i := 5) rfl
              have f0 := HS29.out.free (i := 0)
              have f1 := HS29.out.free (i := 1)
              have f2 := HS29.out.free (i := 2)
              have f3 := HS29.out.free (i := 3)
              have f4 := HS29.out.free (i := 4)
              have f5 := HS29.out.free (i := 5)
              have le := HS29.out.lt
              have hs31 := sat_set6 HS29.out (.int .i64 524288) (.int .i64 262144) (.int .i64 0) (.int .i64 0) (.int .i64 0) (.int .i64 0)
              obtain ⟨W31, hW31⟩ : ∃ W31, ((((((w17.setCell ⟨b20 + 1, 0, none⟩ (.int .i64 524288)).setCell ⟨b20 + 1, 1, none⟩ (.int .i64 262144)).setCell ⟨b20 + 1, 2, none⟩ (.int .i64 0)).setCell ⟨b20 + 1, 3, none⟩ (.int .i64 0)).setCell ⟨b20 + 1, 4, none⟩ (.int .i64 0)).setCell ⟨b20 + 1, 5, none⟩ (.int .i64 0)) = W31 := ⟨_, rfl⟩
              rw [hW31] at hs31
              have HS31 := Lib.hid hs31
              have HW31 := Lib.hid hW31
              clear hs31 hW31
              go_upto_region 31 with fail
              rw [HW31.out]
              clear HW31 e0 e1 e2 e3 e4 e5 f0 f1 f2 f3 f4 f5 le HS29
              have e0 := HS31.out.cell (i := 0) rfl
              have e1 := HS31.out.cell (i := 1) rfl
              have e2 := HS31.out.cell (i := 2) rfl
              have e3 := HS31.out.cell (i := 3) rfl
              have e4 := HS31.out.cell (i := 4) rfl
              have e5 := HS31.out.cell (i := 5) rfl
              have f5 := HS31.out.free (i := 5)
              have le := HS31.out.lt
              have hs32 : Sat W (pts (b20 + 1) (.cells #[.int .i64 524288, .int .i64 262144, .int .i64 0, .int .i64 0, .int .i64 0, .int .i64 0] 41) * _) _ := HS31.out.set (i := 5) (v := .int .i64 0)
              obtain ⟨W32, hW32⟩ : ∃ W32, W31.setCell ⟨b20 + 1, 5, none⟩ (.int .i64 0) = W32 := ⟨_, rfl⟩
              rw [hW32] at hs32
              have HS32 := Lib.hid hs32
              have HW32 := Lib.hid hW32
              clear hs32 hW32
              go_upto_region 33 with fail
              rw [HW32.out]
              clear HW32 HS31 e0 e1 e2 e3 e4 e5 f5 le
              have e0 := HS32.out.cell (i := 0) rfl
              have e1 := HS32.out.cell (i := 1) rfl
              have e2 := HS32.out.cell (i := 2) rfl
              have e3 := HS32.out.cell (i := 3) rfl
              have e4 := HS32.out.cell (i := 4) rfl
              have e5 := HS32.out.cell (i := 5) rfl
              have le := HS32.out.lt
              have x3 := HS32.out.r.r.r.cell (i := 3) rfl
              have lx := HS32.out.r.r.r.lt
              obtain ⟨i1, hi, hz0, hz1, hz2⟩ := info_parts3 info_met
              have HI := Lib.hid hi
              have HZ0 := Lib.hid hz0
              have HZ1 := Lib.hid hz1
              have HZ2 := Lib.hid hz2
              have HS33 := Lib.hid ((HS32.out.r.r).of_eq (show _ = row (.slice va 0 vc) 0 41 6 [] * (pts b13 (fontP (.slice none 0 0) (.slice ak 0 ck) (.slice none 0 0) (.slice (some ⟨gr, 0, none⟩) 2 kr) (.slice va 0 vc)) * R) from rfl))
              clear hi hz0 hz1 hz2 HS32
              go_wp2_with (at_builtin; refine wpList_append_sep rfl _ _ 30 rfl i1 _ 48 Try.underlying30 HI.out HZ0.out HZ1.out HZ2.out rfl rfl HS33.out.allocD ⟨_, 0, none⟩ 1 1 (Met.cells smM) rfl rfl (new_cells _ _ _) (met_one smM) (by simp only [maxLen]; omega) (by omega) ?_)
              intro v' w33 h7
              have h8 : Sat W (rowC v' [smM] * (pts b13 (fontP (.slice none 0 0) (.slice ak 0 ck) (.slice none 0 0) (.slice (some ⟨gr, 0, none⟩) 2 kr) (.slice va 0 vc)) * R)) w33 := rowC_snoc (L := []) (y := smM) h7 rfl
              obtain ⟨ya, yc, hv, -⟩ := (rowC_rd h8).val
              rw [show ([smM] : List Met).length = 1 from rfl] at hv
              subst hv
              have h9 := h8.of_eq (show _ = pts b13 (fontP (.slice none 0 0) (.slice ak 0 ck) (.slice none 0 0) (.slice (some ⟨gr, 0, none⟩) 2 kr) (.slice va 0 vc)) * (rowC (.slice ya 1 yc) [smM] * R) by ac_rfl)
              clear e0 e1 e2 e3 e4 e5 le x3 lx HS33
              have x3 := h9.cell (i := 3) rfl
              have fx := h9.free (i := 3)
              have lx := h9.lt
              have h10 := h9.set (i := 3) (v := .slice ya 1 yc)
              rw [fset3] at h10
              have HS34 := Lib.hid (h10.of_eq (show _ = rowC (.slice ya 1 yc) [smM] * (pts b13 (fontP (.slice none 0 0) (.slice ak 0 ck) (.slice none 0 0) (.slice (some ⟨gr, 0, none⟩) 2 kr) (.slice ya 1 yc)) * R) by ac_rfl))
              clear h7 h8 h9 h10
              go_wp2
              go_roundg 0
              case measure => have := HG.out; omega
              case rel => exact ⟨1, by omega, rfl, rfl, .slice ya 1 yc, HS34.out⟩
            · obtain rfl : k = 1 := by omega
              rw [if_neg (show ¬ (1 : Nat) = 0 by decide)] at hs
              obtain ⟨va, vc, hv, -⟩ := (rowC_rd hs).val
              rw [show ([smM] : List Met).length = 1 from rfl] at hv
              subst hv
              have hrr := hs.r.r
              rw [← HR.out] at hrr
              have hrd : RdF wr ⟨.slice va 1 vc, .slice none 0 0, .slice ak 0 ck, .slice none 0 0, .slice (some ⟨gr, 0, none⟩) 2 kr⟩ smallF := ⟨rowC_rd hs, RdL.empty .., rowJ_rd hrr.r, RdL.empty .., rowJ_rd hrr, by
                intro m hm
                simp only [smallF, List.mem_singleton] at hm
                subst hm
                exact ⟨by decide, by decide⟩, by decide, by decide, by decide, by decide, by decide⟩
              have HRD := Lib.hid hrd
              have HTR := Lib.hid (show Calls Try.prog 46 #[.agg #[.int .u32 7, .int .i64 10485760, .int .i64 97, .slice va 1 vc, .slice none 0 0, .slice ak 0 ck, .slice none 0 0, .slice (some ⟨gr, 0, none⟩) 2 kr]] wr fun e w' => e = .returned (.agg #[.int .u32 7, .int .i64 10485760, .int .i64 97, .slice va 1 vc, .slice none 0 0, .slice ak 0 ck, .slice none 0 0, .slice (some ⟨gr, 0, none⟩) 2 kr]) ∧ Ext wr w' from trimmed_any hrd)
              have e0 := hs.r.cell (i := 0) rfl
              have e1 := hs.r.cell (i := 1) rfl
              have e2 := hs.r.cell (i := 2) rfl
              have e3 := hs.r.cell (i := 3) rfl
              have e4 := hs.r.cell (i := 4) rfl
              have e5 := hs.r.cell (i := 5) rfl
              have e6 := hs.r.cell (i := 6) rfl
              have e7 := hs.r.cell (i := 7) rfl
              have le := hs.r.lt
              have HS30 := Lib.hid hs
              clear hs hrr hrd
              go_wp2_with fail
              with_reducible refine Calls.mono HTR.out ?_
              rintro e w30 ⟨rfl, hx⟩
              have hs := HS30.out.ext hx
              rw [← HR.out] at hs
              have HF := Lib.hid (hs.of_eq (show _ = pts (c2 + 1) font0 * (pts br (rdB v10) * A * (rowC (.slice va 1 vc) [smM] * (rowJ (.slice (some ⟨gr, 0, none⟩) 2 kr) [0, 262144] * (rowJ (.slice ak 0 ck) [] * (pts b13 (fontP (.slice none 0 0) (.slice ak 0 ck) (.slice none 0 0) (.slice (some ⟨gr, 0, none⟩) 2 kr) (.slice va 1 vc)) * (rowJ (.slice (some ⟨g15, 0, none⟩) 2 k15) [0, 524288] * (rowJ (.slice (some ⟨g16, 0, none⟩) 2 k16) [0, 262144] * (rowJ (.slice (some ⟨g17, 0, none⟩) 1 k17) [0] * (rowJ (.slice (some ⟨g18, 0, none⟩) 1 k18) [0] * row4 (.slice (some ⟨g14, o14, none⟩) 1 k14) [⟨1, 16, 0, 0⟩]))))))))) by ac_rfl))
              have G := Lib.hid (sat_set8 HF.out (.int .u32 7) (.int .i64 10485760) (.int .i64 97) (.slice va 1 vc) (.slice none 0 0) (.slice ak 0 ck) (.slice none 0 0) (.slice (some ⟨gr, 0, none⟩) 2 kr))
              clear hs hx HTR HS30 e0 e1 e2 e3 e4 e5 e6 e7 le
              have c0 := HF.out.cell (i := 0) rfl
              have c1 := HF.out.cell (i := 1) rfl
              have cc2 := HF.out.cell (i := 2) rfl
              have c3 := HF.out.cell (i := 3) rfl
              have c4 := HF.out.cell (i := 4) rfl
              have c5 := HF.out.cell (i := 5) rfl
              have c6 := HF.out.cell (i := 6) rfl
              have c7 := HF.out.cell (i := 7) rfl
              have f0 := HF.out.free (i := 0)
              have f1 := HF.out.free (i := 1)
              have f2 := HF.out.free (i := 2)
              have f3 := HF.out.free (i := 3)
              have f4 := HF.out.free (i := 4)
              have f5 := HF.out.free (i := 5)
              have f6 := HF.out.free (i := 6)
              have f7 := HF.out.free (i := 7)
              have lc := HF.out.lt
              go_wp2
              clear c0 c1 cc2 c3 c4 c5 c6 c7 f0 f1 f2 f3 f4 f5 f6 f7 lc
              have d0 := G.out.cell (i := 0) rfl
              have d1 := G.out.cell (i := 1) rfl
              have d2 := G.out.cell (i := 2) rfl
              have d3 := G.out.cell (i := 3) rfl
              have d4 := G.out.cell (i := 4) rfl
              have d5 := G.out.cell (i := 5) rfl
              have d6 := G.out.cell (i := 6) rfl
              have d7 := G.out.cell (i := 7) rfl
              refine bodyPost_ret (v := smallF.val ⟨.slice va 1 vc, .slice none 0 0, .slice ak 0 ck, .slice none 0 0, .slice (some ⟨gr, 0, none⟩) 2 kr⟩) (by unfold results smallF; go_simp) rfl ?_
              exact ⟨_, rowC (.slice va 1 vc) [smM] * (rowJ (.slice (some ⟨gr, 0, none⟩) 2 kr) [0, 262144] * rowJ (.slice ak 0 ck) []), rfl, fun w'' B h => ⟨rowC_rd h.asc, RdL.empty .., rowJ_rd h.asc.r.asc.r, RdL.empty .., rowJ_rd h.asc.r.asc, HRD.out.ir, by decide, by decide, by decide, by decide, by decide⟩, v10, (G.out.r.of_eq (show _ = (pts b13 (fontP (.slice none 0 0) (.slice ak 0 ck) (.slice none 0 0) (.slice (some ⟨gr, 0, none⟩) 2 kr) (.slice va 1 vc)) * (rowJ (.slice (some ⟨g15, 0, none⟩) 2 k15) [0, 524288] * (rowJ (.slice (some ⟨g16, 0, none⟩) 2 k16) [0, 262144] * (rowJ (.slice (some ⟨g17, 0, none⟩) 1 k17) [0] * (rowJ (.slice (some ⟨g18, 0, none⟩) 1 k18) [0] * row4 (.slice (some ⟨g14, o14, none⟩) 1 k14) [⟨1, 16, 0, 0⟩]))))) * ((rowC (.slice va 1 vc) [smM] * (rowJ (.slice (some ⟨gr, 0, none⟩) 2 kr) [0, 262144] * rowJ (.slice ak 0 ck) [])) * (pts br (rdB v10) * A)) by ac_rfl)).r⟩
end Go.Proofs.Ytembknlhocijkaa
