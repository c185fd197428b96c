
/-
  The law's small font, written. Conditions: those that each theorem names.
-/
import Derived.Test.YtembknlhocijkaaFtN
import Derived.Test.YtembknlhocijkaaAnyE
namespace Go.Proofs.Ytembknlhocijkaa
open Go.RowKit Go.Sp
variable {w W : World} {A : HProp} {x : FV}

def sizesL : List Int := [2, 2, 1, 1, 0, 0, 0, 2]
def headL : List Int := [17, 2, 97, 97] ++ sizesL
def smallB : List UInt8 := headL.flatMap halfB ++ (wordB 7 ++ (wordB 10485760 ++ ([1, 16, 0, 0] ++ ([0, 524288, 0, 262144, 0, 0, 0, 262144] : List Int).flatMap wordB)))
theorem halfs_len (X : List Int) : (X.flatMap halfB).length = X.length * 2 := by
  induction X with
  | nil => rfl
  | cons y X ih => rw [List.flatMap_cons, List.length_append, ih, List.length_cons, show (halfB y).length = 2 from rfl]; omega
theorem take_halfs {X : List Int} {k : Nat} (hk : k < X.length) : (X.take (k + 1)).flatMap halfB = (X.take k).flatMap halfB ++ halfB X[k] := by
  rw [List.take_succ_eq_append_getElem hk, List.flatMap_append]
  simp
theorem sizes_sum : ∀ k < 9, 0 ≤ (sizesL.take k).sum ∧ (sizesL.take k).sum ≤ 100 := by decide
theorem sizes_step : ∀ k < 8, (sizesL.take (k + 1)).sum = (sizesL.take k).sum + sizesL.getD k 0 := by decide
def lA : List UInt8 := headL.flatMap halfB
def lB : List UInt8 := (lA ++ wordB 7) ++ wordB 10485760
def lC : List UInt8 := lB ++ [1, 16, 0, 0]
theorem ent_w1 : ∀ v w, (callFunc 18 (#[v] ++ #[])).run Try.prog w = .ok (.enter 18 (#[v] ++ #[])) w := by
  intro v w
  rfl
theorem ent_w2 : ∀ v w, (callFunc 19 (#[v] ++ #[])).run Try.prog w = .ok (.enter 19 (#[v] ++ #[])) w := by
  intro v w
  rfl
theorem ent_w3 : ∀ v w, (callFunc 20 (#[v] ++ #[])).run Try.prog w = .ok (.enter 20 (#[v] ++ #[])) w := by
  intro v w
  rfl
theorem ent_w4 : ∀ v w, (callFunc 21 (#[v] ++ #[])).run Try.prog w = .ok (.enter 21 (#[v] ++ #[])) w := by
  intro v w
  rfl
theorem len2 (a b : Int) (v : Value) (h : RdL intC 1 w v [a, b]) : ∃ p c, v = .slice p 2 c := by
  obtain ⟨p, c, rfl, -⟩ := h.val
  exact ⟨p, c, rfl⟩
set_option maxRecDepth 100000 in
set_option maxHeartbeats 8000000 in
theorem write_any (h : RdF w x smallF) : Calls Try.prog 11 #[smallF.val x] w fun e w' => ∃ u, e = .returned (.tuple #[u, .int .i64 0]) ∧ RdL byteC 1 w' u smallB ∧ Ext w w' := by
  have HS := (Sat.start w).alloc (smallF.box x)
  obtain ⟨W1, hW1⟩ : ∃ W1, w.alloc (smallF.box x) = W1 := ⟨_, rfl⟩
  obtain ⟨bf, hbf⟩ : ∃ bf, w.heap.size = bf := ⟨_, rfl⟩
  rw [hW1, hbf] at HS
  have HB := Lib.hid (BoxF.of HS)
  have HE1 := Lib.hid HS.r.toExt
  have HRD := Lib.hid (h.ext HS.r.toExt)
  obtain ⟨cb, co, cc, sa, sc, ka, kc, pa, pc, rb, ro, rc, rfl, hcell⟩ := small_vals (h.ext HS.r.toExt)
  have HCELL := Lib.hid hcell
  simp only [Fnt.box] at hW1
  have HW1 := Lib.hid hW1
  have HBF := Lib.hid hbf
  have hc := check_any HRD.out
  rw [small_check] at hc
  have HC := Lib.hid hc
  clear HS hW1 hbf hcell h hc
  go_enter Try.func11, Try.ntmps11
  go_upto_region 1 with fail
  rw [HBF.out, HW1.out]
  clear HBF HW1
  have b0 := HB.out.c0
  have b1 := HB.out.c1
  have b2 := HB.out.c2
  have b3 := HB.out.c3
  have b4 := HB.out.c4
  have b5 := HB.out.c5
  have b6 := HB.out.c6
  have b7 := HB.out.c7
  have lq := HB.out.lt
  go_wp2_with fail
  with_reducible refine Calls.mono HC.out ?_
  rintro e w2 ⟨rfl, hx⟩
  have HX2 := Lib.hid hx
  have HB2 := Lib.hid (HB.out.ext hx)
  have HV := Lib.hid (values_any true _ smM.w ent_w1 (fun w => write1_any smM w) (HRD.out.ext hx))
  clear hx HC b0 b1 b2 b3 b4 b5 b6 b7 lq HB
  have b0 := HB2.out.c0
  have b1 := HB2.out.c1
  have b2 := HB2.out.c2
  have b3 := HB2.out.c3
  have b4 := HB2.out.c4
  have b5 := HB2.out.c5
  have b6 := HB2.out.c6
  have b7 := HB2.out.c7
  have lq := HB2.out.lt
  go_wp2_with fail
  with_reducible refine Calls.mono HV.out ?_
  rintro e w3 ⟨u5, rfl, h5, hx⟩
  have HX3 := Lib.hid (HX2.out.trans hx)
  have HB3 := Lib.hid (HB2.out.ext hx)
  have HU5 := Lib.hid h5
  have HV2 := Lib.hid (values_any false _ smM.h ent_w2 (fun w => write2_any smM w) (HRD.out.ext HX3.out))
  clear hx HV b0 b1 b2 b3 b4 b5 b6 b7 lq HB2 HX2 h5
  have b0 := HB3.out.c0
  have b1 := HB3.out.c1
  have b2 := HB3.out.c2
  have b3 := HB3.out.c3
  have b4 := HB3.out.c4
  have b5 := HB3.out.c5
  have b6 := HB3.out.c6
  have b7 := HB3.out.c7
  have lq := HB3.out.lt
  go_wp2_with fail
  with_reducible refine Calls.mono HV2.out ?_
  rintro e w4 ⟨u6, rfl, h6, hx⟩
  have HX4 := Lib.hid (HX3.out.trans hx)
  have HB4 := Lib.hid (HB3.out.ext hx)
  have HU6 := Lib.hid h6
  have HU5b := Lib.hid (HU5.out.ext hx)
  have HV3 := Lib.hid (values_any false _ smM.d ent_w3 (fun w => write3_any smM w) (HRD.out.ext HX4.out))
  clear hx HV2 b0 b1 b2 b3 b4 b5 b6 b7 lq HB3 HX3 h6 HU5
  have b0 := HB4.out.c0
  have b1 := HB4.out.c1
  have b2 := HB4.out.c2
  have b3 := HB4.out.c3
  have b4 := HB4.out.c4
  have b5 := HB4.out.c5
  have b6 := HB4.out.c6
  have b7 := HB4.out.c7
  have lq := HB4.out.lt
  go_wp2_with fail
  with_reducible refine Calls.mono HV3.out ?_
  rintro e w5 ⟨u7, rfl, h7, hx⟩
  have HX5 := Lib.hid (HX4.out.trans hx)
  have HB5 := Lib.hid (HB4.out.ext hx)
  have HU7 := Lib.hid h7
  have HU6b := Lib.hid (HU6.out.ext hx)
  have HU5c := Lib.hid (HU5b.out.ext hx)
  have HV4 := Lib.hid (values_any false _ smM.i ent_w4 (fun w => write4_any smM w) (HRD.out.ext HX5.out))
  clear hx HV3 b0 b1 b2 b3 b4 b5 b6 b7 lq HB4 HX4 h7 HU5b HU6
  have b0 := HB5.out.c0
  have b1 := HB5.out.c1
  have b2 := HB5.out.c2
  have b3 := HB5.out.c3
  have b4 := HB5.out.c4
  have b5 := HB5.out.c5
  have b6 := HB5.out.c6
  have b7 := HB5.out.c7
  have lq := HB5.out.lt
  go_wp2_with fail
  with_reducible refine Calls.mono HV4.out ?_
  rintro e w6 ⟨u8, rfl, h8, hx⟩
  have HX6 := Lib.hid (HX5.out.trans hx)
  have HB6 := Lib.hid (HB5.out.ext hx)
  have HU8 := Lib.hid (show RdL intC 1 w6 u8 [0] from h8)
  have HU7b := Lib.hid (show RdL intC 1 w6 u7 [0] from HU7.out.ext hx)
  have HU6c := Lib.hid (show RdL intC 1 w6 u6 [0, 262144] from HU6b.out.ext hx)
  have HU5d := Lib.hid (show RdL intC 1 w6 u5 [0, 524288] from HU5c.out.ext hx)
  obtain ⟨a5, c5, hu5, hc5⟩ := HU5d.out.val
  obtain ⟨a6, c6, hu6, -⟩ := HU6c.out.val
  obtain ⟨a7, c7, hu7, -⟩ := HU7b.out.val
  obtain ⟨a8, c8, hu8, -⟩ := HU8.out.val
  simp only [List.length_cons, List.length_nil, Nat.zero_add, Nat.reduceAdd] at hu5 hu6 hu7 hu8 hc5
  subst hu5 hu6 hu7 hu8
  obtain ⟨p5, o5, rfl, -, -⟩ := HU5d.out.int rfl (show (0 : Nat) < [(0 : Int), 524288].length by decide)
  have HC5 := Lib.hid hc5
  clear hc5
  clear hx HV4 b0 b1 b2 b3 b4 b5 b6 b7 lq HB5 HX5 h8 HU5c HU6b HU7
  have b0 := HB6.out.c0
  have b1 := HB6.out.c1
  have b2 := HB6.out.c2
  have b3 := HB6.out.c3
  have b4 := HB6.out.c4
  have b5 := HB6.out.c5
  have b6 := HB6.out.c6
  have b7 := HB6.out.c7
  have lq := HB6.out.lt
  go_upto_region 10 with fail
  obtain ⟨W9, hW9⟩ : ∃ W9, w6.drew = W9 := ⟨_, rfl⟩
  have hx9 : Ext w6 W9 := by rw [← hW9]; exact (Ext.refl w6).drew
  have HX9 := Lib.hid (HX6.out.trans hx9)
  have HB9 := Lib.hid (HB6.out.ext hx9)
  have HX69 := Lib.hid hx9
  clear b0 b1 b2 b3 b4 b5 b6 b7 lq HB6 hx9
  have b0 := HB9.out.c0
  have b1 := HB9.out.c1
  have b2 := HB9.out.c2
  have b3 := HB9.out.c3
  have b4 := HB9.out.c4
  have b5 := HB9.out.c5
  have b6 := HB9.out.c6
  have b7 := HB9.out.c7
  have lq := HB9.out.lt
  simp only [smallF] at b2
  have hw1 : IntKind.i64.wrap 98 = 98 := by decide
  have hw2 : IntKind.i64.wrap 97 = 97 := by decide
  refine wp_region_tail (fun w' => w' = W9) 10 (by kernel_rfl) (by kernel_rfl) hW9 ?_
  clear hW9
  simp only [List.take_succ_cons, List.take_zero, List.drop_succ_cons, List.drop_zero]
  iterate 10
    with_reducible refine wpQuiet_step ?_
    intro K hK
    go_simp
    first
      | (with_reducible refine hK _ ?_
         clear hK K)
      | (rw [if_neg (by intro h; cases h)]
         with_reducible refine hK _ ?_
         clear hK K)
      | (refine Exists.intro _ ⟨fun w9 hw9 => ?_, ?_⟩
         rotate_left 1
         with_reducible refine hK _ ?_
         clear hK K
         rotate_left 1
         · subst hw9; go_simp; try with_reducible rfl)
  refine wpQuiet_nil ?_
  rintro w17 rfl
  clear hw1 hw2
  have hs9 := (Sat.start w17).alloc (.cells #[.int .i64 2, .int .i64 2, .int .i64 1, .int .i64 1, .int .i64 0, .int .i64 0, .int .i64 0, .int .i64 2] 3)
  obtain ⟨bz, hbz⟩ : ∃ bz, w17.heap.size = bz := ⟨_, rfl⟩
  obtain ⟨W10, hW10⟩ : ∃ W10, w17.alloc (.cells #[.int .i64 2, .int .i64 2, .int .i64 1, .int .i64 1, .int .i64 0, .int .i64 0, .int .i64 0, .int .i64 2] 3) = W10 := ⟨_, rfl⟩
  rw [hbz, hW10] at hs9
  have HX10 := Lib.hid hs9.r.toExt
  have hz := Sat.row_whole (size := 1) 8 hs9 (by simp only [maxLen]; omega) rfl
  have HZ := Lib.hid (show RdL intC 1 W10 (.slice (some ⟨bz, 0, none⟩) 8 8) sizesL from rowJ_rd (L := sizesL) hz)
  have HW10 := Lib.hid hW10
  have HBZ := Lib.hid hbz
  clear hs9 hz hbz hW10
  go_upto_region 14 with fail
  rw [HBZ.out, HW10.out]
  clear HBZ HW10 b0 b1 b2 b3 b4 b5 b6 b7 lq
  have HB10 := Lib.hid (HB9.out.ext HX10.out)
  have HX11 := Lib.hid (HX9.out.trans HX10.out)
  have HX6T := Lib.hid (HX69.out.trans HX10.out)
  have b0 := HB10.out.c0
  have b1 := HB10.out.c1
  have b2 := HB10.out.c2
  have b3 := HB10.out.c3
  have b4 := HB10.out.c4
  have b5 := HB10.out.c5
  have b6 := HB10.out.c6
  have b7 := HB10.out.c7
  have lq := HB10.out.lt
  go_wp2_with fail
  go_loopg [12, 96] 8 (fun gg s12 s96 wx => ∃ k : Nat, k ≤ 8 ∧ gg = 8 - k ∧ s96 = .int .i64 k ∧ s12 = .int .i64 (9 + (sizesL.take k).sum) ∧ wx = W10)
  case atStart => exact ⟨0, by omega, rfl, rfl, rfl, rfl⟩
  case round =>
    obtain ⟨k, hk, hg, rfl, rfl, hw⟩ := hrel
    have hw2 := hw.symm
    clear hw
    subst hw2
    have HG := Lib.hid hg
    by_cases hk8 : k < 8
    · have hki : (k : Int) < 8 := by omega
      have hkL : k < sizesL.length := hk8
      obtain ⟨zb, zo, e1, c0, lb⟩ := HZ.out.int rfl hkL
      simp only [Option.some.injEq, Addr.mk.injEq, and_true] at e1
      obtain ⟨rfl, rfl⟩ := e1
      obtain ⟨hs1, hs2⟩ := sizes_sum k (by omega)
      obtain ⟨hs3, hs4⟩ := sizes_sum (k + 1) (by omega)
      have hst := sizes_step k hk8
      rw [List.getD_eq_getElem?_getD, List.getElem?_eq_getElem hkL, Option.getD_some] at hst
      obtain ⟨y, hy⟩ : ∃ y, sizesL[k] = y := ⟨_, rfl⟩
      rw [hy] at c0 hst
      rw [Nat.zero_add] at c0
      obtain ⟨s0, hs0⟩ : ∃ s, (sizesL.take k).sum = s := ⟨_, rfl⟩
      rw [hs0] at hs1 hs2 hst
      rw [hst] at hs3 hs4
      have HST := Lib.hid hst
      rw [hs0]
      clear hkL hg hst hy hs0 HX9 HB9
      go_wp2
      go_roundg (8 - (k + 1))
      case measure => have := HG.out; omega
      case rel => exact ⟨k + 1, by omega, rfl, by go_num, by rw [HST.out, Int.add_assoc], rfl⟩
    · obtain rfl : k = 8 := by omega
      rw [show (9 : Int) + (sizesL.take 8).sum = 17 by decide]
      have hs0 := ((Sat.start W10).alloc (wrB (.slice none 0 0)))
      obtain ⟨bw, hbw⟩ : ∃ bw, W10.heap.size = bw := ⟨_, rfl⟩
      obtain ⟨V0, hV0⟩ : ∃ V0, W10.alloc (wrB (.slice none 0 0)) = V0 := ⟨_, rfl⟩
      rw [hbw, hV0] at hs0
      have hs1 := hs0.alloc (.cells #[.int .i64 17, .int .i64 2, .int .i64 97, .int .i64 97] 3)
      obtain ⟨bq4, hb4⟩ : ∃ bq4, V0.heap.size = bq4 := ⟨_, rfl⟩
      obtain ⟨V1, hV1⟩ : ∃ V1, V0.alloc (.cells #[.int .i64 17, .int .i64 2, .int .i64 97, .int .i64 97] 3) = V1 := ⟨_, rfl⟩
      rw [hb4, hV1] at hs1
      have HS1 := Lib.hid (Sat.row_whole (size := 1) 4 hs1 (by simp only [maxLen]; omega) rfl)
      have HZV := Lib.hid (HZ.out.ext hs1.r.r.toExt)
      have HBW := Lib.hid hbw
      have HV0 := Lib.hid hV0
      have HB4 := Lib.hid hb4
      have HV1 := Lib.hid hV1
      obtain ⟨i0, hi, hz0, hz1, hz2⟩ := info_parts3 info_in
      have HI := Lib.hid hi
      have HZ0 := Lib.hid hz0
      have HZ1 := Lib.hid hz1
      have HZ2 := Lib.hid hz2
      clear hs0 hs1 hbw hV0 hb4 hV1 hi hz0 hz1 hz2 hg HG HX9 HB9
      go_upto_region 21 with fail
      rw [HBW.out, HV0.out]
      clear HBW HV0
      go_wp2_with (at_builtin; rw [HV1.out, HB4.out]; refine wpList_append_rd rfl _ _ 32 rfl i0 _ 8 Try.underlying32 HI.out HZ0.out HZ1.out HZ2.out rfl (by omega) rfl HS1.out (.slice (some ⟨bz, 0, none⟩) 8 8) 8 (sizesL.flatMap intC) rfl HZV.out.1 (int_one sizesL) (by simp only [maxLen]; omega) (by omega) ?_)
      intro v' w11 h11
      have h12 : Sat W10 (rowJ v' headL * (pts bw (wrB (.slice none 0 0)) * own W10)) w11 := h11
      obtain ⟨ha, hc, hv, -⟩ := (rowJ_rd h12).val
      rw [show headL.length = 12 from rfl] at hv
      subst hv
      have HS2 := Lib.hid (h12.row_nil (e := 5) (size := 1))
      clear h11 h12 HS1 HZV HV1 HB4
      go_wp2_with fail
      go_loopg [113] 12 (fun gg s113 wx => ∃ k : Nat, k ≤ 12 ∧ gg = 12 - k ∧ s113 = .int .i64 k ∧ ∃ v', Sat W10 (pts bw (wrB v') * (rowY v' ((headL.take k).flatMap halfB) * (rowJ (.slice ha 12 hc) headL * own W10))) wx)
      case atStart => exact ⟨0, by omega, rfl, rfl, .slice none 0 0, HS2.out.of_eq (by unfold rowY; rw [List.take_zero, List.flatMap_nil]; show row _ 0 _ 1 [] * _ = _ * (row _ 0 _ 1 [] * _); ac_rfl)⟩
      case round =>
        obtain ⟨k, hk, hg, rfl, v', hs⟩ := hrel
        have HG := Lib.hid hg
        have HS3 := Lib.hid hs
        clear hg HS2
        by_cases hk12 : k < 12
        · have hki : (k : Int) < 12 := by omega
          have hkL : k < headL.length := hk12
          obtain ⟨zb, zo, rfl, c0, lb⟩ := (rowJ_rd (hs.of_eq (show _ = rowJ (.slice ha 12 hc) headL * (pts bw (wrB v') * (rowY v' ((headL.take k).flatMap halfB) * own W10)) by ac_rfl))).int rfl hkL
          have HT := Lib.hid (take_halfs hkL)
          obtain ⟨y, hy⟩ : ∃ y, headL[k] = y := ⟨_, rfl⟩
          rw [hy] at c0 HT
          have HW := Lib.hid (half_any y (by rw [halfs_len, List.length_take]; omega) HS3.out)
          clear hs hy hkL
          go_wp2_with fail
          with_reducible refine Calls.mono HW.out ?_
          rintro e w12 ⟨rfl, v2, h9⟩
          have H9 := Lib.hid h9
          clear h9 c0 lb HW HS3
          go_wp2
          go_roundg (12 - (k + 1))
          case measure => have := HG.out; omega
          case rel => exact ⟨k + 1, by omega, rfl, by go_num, v2, by rw [HT.out]; exact H9.out⟩
        · obtain rfl : k = 12 := by omega
          have hs4 := hs.of_eq (show _ = rowJ (.slice ha 12 hc) headL * (pts bw (wrB v') * (rowY v' ((headL.take 12).flatMap halfB) * own W10)) by ac_rfl)
          rw [show (headL.take 12).flatMap halfB = lA from rfl] at hs4
          have HS4 := Lib.hid hs4.r
          clear hs hs4 HS3
          have HB11 := Lib.hid (HB10.out.ext HS4.out.r.r.toExt)
          have HW7 := Lib.hid (word_any 7 (by decide) HS4.out)
          clear b0 b1 b2 b3 b4 b5 b6 b7 lq
          have b0 := HB11.out.c0
          have b1 := HB11.out.c1
          have b2 := HB11.out.c2
          have b3 := HB11.out.c3
          have b4 := HB11.out.c4
          have b5 := HB11.out.c5
          have b6 := HB11.out.c6
          have b7 := HB11.out.c7
          have lq := HB11.out.lt
          simp only [smallF] at b0 b1
          go_wp2_with fail
          with_reducible refine Calls.mono HW7.out ?_
          rintro e w12 ⟨rfl, v2, h9⟩
          have HS5 := Lib.hid h9
          have HB12 := Lib.hid (HB10.out.ext HS5.out.r.r.toExt)
          have HW8 := Lib.hid (word_any 10485760 (by decide) HS5.out)
          clear h9 HW7 HS4 HB11 b0 b1 b2 b3 b4 b5 b6 b7 lq
          have b0 := HB12.out.c0
          have b1 := HB12.out.c1
          have b2 := HB12.out.c2
          have b3 := HB12.out.c3
          have b4 := HB12.out.c4
          have b5 := HB12.out.c5
          have b6 := HB12.out.c6
          have b7 := HB12.out.c7
          have lq := HB12.out.lt
          simp only [smallF] at b0 b1
          go_wp2_with fail
          with_reducible refine Calls.mono HW8.out ?_
          rintro e w13 ⟨rfl, v3, h9⟩
          have HS6 := Lib.hid (show Sat W10 (pts bw (wrB v3) * (rowY v3 lB * own W10)) w13 from h9)
          have HB13 := Lib.hid (HB10.out.ext HS6.out.r.r.toExt)
          clear h9 HW8 HS5 HB12 b0 b1 b2 b3 b4 b5 b6 b7 lq
          have b0 := HB13.out.c0
          have b1 := HB13.out.c1
          have b2 := HB13.out.c2
          have b3 := HB13.out.c3
          have b4 := HB13.out.c4
          have b5 := HB13.out.c5
          have b6 := HB13.out.c6
          have b7 := HB13.out.c7
          have lq := HB13.out.lt
          go_wp2_with fail
          go_loopg [133] 1 (fun gg s133 wx => ∃ k : Nat, k ≤ 1 ∧ gg = 1 - k ∧ s133 = .int .i64 k ∧ ∃ v', Sat W10 (pts bw (wrB v') * (rowY v' (if k = 0 then lB else lC) * own W10)) wx)
          case atStart => exact ⟨0, by omega, rfl, rfl, v3, HS6.out⟩
          case round =>
            obtain ⟨k, hk, hg, rfl, v', hs⟩ := hrel
            have HG := Lib.hid hg
            clear hg HS6 HB13 b0 b1 b2 b3 b4 b5 b6 b7 lq
            by_cases hk0 : k = 0
            · subst hk0
              rw [if_pos rfl] at hs
              obtain ⟨va, vc, hv, -⟩ := (rowY_rd hs.r).val
              rw [show lB.length = 32 from rfl] at hv
              subst hv
              have hs2 := hs.alloc smM.box
              obtain ⟨b19, hb9⟩ : ∃ b19, wr.heap.size = b19 := ⟨_, rfl⟩
              obtain ⟨W14, hW14⟩ : ∃ W14, wr.alloc smM.box = W14 := ⟨_, rfl⟩
              rw [hb9, hW14] at hs2
              obtain ⟨c0, c1, c2, c3, c4, cx5, lb⟩ := HCELL.out _ (HX11.out.trans hs.r.r.toExt)
              have HW14 := Lib.hid (show wr.alloc (.cells #[.int .i64 524288, .int .i64 262144, .int .i64 0, .int .i64 0, .int .i64 0, .int .i64 0] 41) = W14 from hW14)
              have HB19 := Lib.hid hb9
              have HS7 := Lib.hid hs2
              have d0 := hs2.cell (i := 0) rfl
              have d4 := hs2.cell (i := 4) rfl
              have ld := hs2.lt
              simp only [smM] at d0 d4
              clear hs hs2 hb9 hW14
              go_upto_region 31 with fail
              rw [HB19.out, HW14.out]
              clear HB19 HW14 c0 c1 c2 c3 c4 cx5 lb
              go_upto_region 33 with fail
              obtain ⟨W9, hW9⟩ : ∃ W9, W14.drew = W9 := ⟨_, rfl⟩
              have hx9 : Ext W14 W9 := by rw [← hW9]; exact (Ext.refl W14).drew
              have HC9 := Lib.hid (show Ext W9 W14.drew by rw [hW9]; exact Ext.refl _)
              have HS8 := Lib.hid (HS7.out.ext hx9)
              replace d0 := hx9.cell d0
              replace ld := hx9.lt ld
              have hc5 := HC5.out
              have hc51 : (c5 = 1) = False := eq_false (by omega)
              clear hx9 hW9 HS7 d4
              refine wp_region_tail (Ext W9) 4 (by kernel_rfl) (by kernel_rfl) HC9.out ?_
              simp only [List.take_succ_cons, List.take_zero, List.drop_succ_cons, List.drop_zero]
              iterate 4
                with_reducible refine wpQuiet_step ?_
                intro K hK
                go_simp
                first
                  | (with_reducible refine hK _ ?_
                     clear hK K)
                  | (rw [if_neg (by intro h; cases h)]
                     with_reducible refine hK _ ?_
                     clear hK K)
                  | (apply Exists.intro
                     refine ⟨fun w9 hw9 => ?_, ?_⟩
                     · first
                        | rfl
                        | (fail)
                        | ((have q0 := hw9.cell d0; have q1 := hw9.lt ld); go_simp; first | done | rfl)
                     with_reducible refine hK _ ?_
                     clear hK K)
              refine wpQuiet_nil ?_
              intro w17 hw17
              have HS9 := Lib.hid (HS8.out.ext hw17)
              have HIX := Lib.hid (index_at (X := [524288]) (j := 0) (y := 524288) (((HU5d.out.ext HX6T.out).ext HS9.out.r.r.r.toExt).tail (by simp only [List.length_cons, List.length_nil]; omega)) (by decide) rfl (fun i _ h => absurd h (by omega)))
              clear hw17 HS8 HC9 d0 ld
              go_wp2_with fail
              with_reducible refine Calls.mono HIX.out ?_
              rintro e w18 ⟨rfl, rfl⟩
              go_upto_region 34 with fail
              obtain ⟨C, hC⟩ : ∃ C : World → Prop, C = fun w' => Ext W10 w' ∧ ∃ X, Sat W10 (pts b19 smM.box * (pts bw (wrB (.slice va 32 vc)) * X)) w' := ⟨_, rfl⟩
              have HC1 := Lib.hid (show ∀ w', C w' → w'.cell? ⟨b19, 1, none⟩ = some (.int .i64 262144) ∧ w'.cell? ⟨b19, 2, none⟩ = some (.int .i64 0) ∧ w'.cell? ⟨b19, 3, none⟩ = some (.int .i64 0) ∧ w'.cell? ⟨b19, 4, none⟩ = some (.int .i64 0) ∧ w'.cell? ⟨b19, 5, none⟩ = some (.int .i64 0) ∧ w'.cell? ⟨bw, 0, none⟩ = some (.slice va 32 vc) ∧ b19 < w'.heap.size ∧ bw < w'.heap.size from fun w' h => by
                rw [hC] at h
                obtain ⟨-, X, h⟩ := h
                exact ⟨h.cell rfl, h.cell rfl, h.cell rfl, h.cell rfl, h.cell rfl, h.r.cell rfl, h.lt, h.r.lt⟩)
              have HC2 := Lib.hid (show ∀ X w', Ext W10 w' → Sat W10 (pts b19 smM.box * (pts bw (wrB (.slice va 32 vc)) * X)) w' → C w' from fun X w' k h => by rw [hC]; exact ⟨k, X, h⟩)
              refine wp_region_E C (by kernel_rfl) ?_
              obtain ⟨W9, hW9⟩ : ∃ W9, w18.drew = W9 := ⟨_, rfl⟩
              have hx9 : Ext w18 W9 := by rw [← hW9]; exact (Ext.refl w18).drew
              have h9 := HS9.out.ext hx9
              rw [hW9]
              have HS10 := Lib.hid h9
              have HXW := Lib.hid h9.r.r.r.toExt
              have HCW := Lib.hid (HC2.out _ _ h9.r.r.r.toExt h9)
              have HI6 := Lib.hid (fun w' (k : Ext W10 w') => index_at (X := [0, 262144]) (j := 1) (y := 262144) ((HU6c.out.ext HX6T.out).ext k) (by decide) rfl (fun i _ h => by
                obtain rfl : i = 0 := (by omega)
                show (0 : Int) ≠ 262144
                decide))
              have HI7 := Lib.hid (fun w' (k : Ext W10 w') => index_at (X := [0]) (j := 0) (y := 0) ((HU7b.out.ext HX6T.out).ext k) (by decide) rfl (fun i _ h => absurd h (by omega)))
              have HI8 := Lib.hid (fun w' (k : Ext W10 w') => index_at (X := [0]) (j := 0) (y := 0) ((HU8.out.ext HX6T.out).ext k) (by decide) rfl (fun i _ h => absurd h (by omega)))
              have hor1 : bits .or .i64 16 0 = 16 := by decide
              have hor2 : bits .or .i64 0 0 = 0 := by decide
              clear h9 hx9 hW9 hC HS9
              refine wpE_take (i := 0) (q := 32) (v := ?_) rfl (by kernel_rfl) (by kernel_rfl) (by kernel_rfl) (by kernel_rfl) (by kernel_rfl) (fun _ _ _ h => h) (by rfl) ?_ ?_
              rotate_left 1
              · intro w hw; (have hC9 := HC1.out _ hw; obtain ⟨q1, q2, q3, q4, q5, q6, q7, q8⟩ := hC9; go_simp; try with_reducible rfl)
              refine wpE_take (i := 1) (q := 2) (v := ?_) rfl (by kernel_rfl) (by kernel_rfl) (by kernel_rfl) (by kernel_rfl) (by kernel_rfl) (fun _ _ _ h => h) (by rfl) ?_ ?_
              rotate_left 1
              · intro w hw; (have hC9 := HC1.out _ hw; obtain ⟨q1, q2, q3, q4, q5, q6, q7, q8⟩ := hC9; go_simp; try with_reducible rfl)
              refine wpE_take (i := 2) (q := 3) (v := ?_) rfl (by kernel_rfl) (by kernel_rfl) (by kernel_rfl) (by kernel_rfl) (by kernel_rfl) (fun _ _ _ h => h) (by rfl) ?_ ?_
              rotate_left 1
              · intro w hw; (have hC9 := HC1.out _ hw; obtain ⟨q1, q2, q3, q4, q5, q6, q7, q8⟩ := hC9; go_simp; try with_reducible rfl)
              refine wpE_take (i := 3) (q := 4) (v := ?_) rfl (by kernel_rfl) (by kernel_rfl) (by kernel_rfl) (by kernel_rfl) (by kernel_rfl) (fun _ _ _ h => h) (by rfl) ?_ ?_
              rotate_left 1
              · intro w hw; (have hC9 := HC1.out _ hw; obtain ⟨q1, q2, q3, q4, q5, q6, q7, q8⟩ := hC9; go_simp; try with_reducible rfl)
              refine wpE_take (i := 4) (q := 31) (v := ?_) rfl (by kernel_rfl) (by kernel_rfl) (by kernel_rfl) (by kernel_rfl) (by kernel_rfl) (fun _ _ _ h => h) (by rfl) ?_ ?_
              rotate_left 1
              · intro w hw; (have hC9 := HC1.out _ hw; obtain ⟨q1, q2, q3, q4, q5, q6, q7, q8⟩ := hC9; go_simp; try with_reducible rfl)
              refine wpE_take (i := 5) (q := 6) (v := ?_) rfl (by kernel_rfl) (by kernel_rfl) (by kernel_rfl) (by kernel_rfl) (by kernel_rfl) (fun _ _ _ h => h) (by rfl) ?_ ?_
              rotate_left 1
              · intro w hw; (have hC9 := HC1.out _ hw; obtain ⟨q1, q2, q3, q4, q5, q6, q7, q8⟩ := hC9; go_simp; try with_reducible rfl)
              refine wpE_take (i := 6) (q := 30) (v := ?_) rfl (by kernel_rfl) (by kernel_rfl) (by kernel_rfl) (by kernel_rfl) (by kernel_rfl) (fun _ _ _ h => h) (by rfl) ?_ ?_
              rotate_left 1
              · intro w hw; (have hC9 := HC1.out _ hw; obtain ⟨q1, q2, q3, q4, q5, q6, q7, q8⟩ := hC9; go_simp; try with_reducible rfl)
              refine wpE_take (i := 7) (q := 10) (v := ?_) rfl (by kernel_rfl) (by kernel_rfl) (by kernel_rfl) (by kernel_rfl) (by kernel_rfl) (fun _ _ _ h => h) (by rfl) ?_ ?_
              rotate_left 1
              · intro w hw; (have hC9 := HC1.out _ hw; obtain ⟨q1, q2, q3, q4, q5, q6, q7, q8⟩ := hC9; go_simp; try with_reducible rfl)
              refine wpE_take (i := 8) (q := 9) (v := ?_) rfl (by kernel_rfl) (by kernel_rfl) (by kernel_rfl) (by kernel_rfl) (by kernel_rfl) (fun _ _ _ h => h) (by rfl) ?_ ?_
              rotate_left 1
              · intro w hw; (have hC9 := HC1.out _ hw; obtain ⟨q1, q2, q3, q4, q5, q6, q7, q8⟩ := hC9; go_simp; try with_reducible rfl)
              refine wpE_take (i := 9) (q := 10) (v := ?_) rfl (by kernel_rfl) (by kernel_rfl) (by kernel_rfl) (by kernel_rfl) (by kernel_rfl) (fun _ _ _ h => h) (by rfl) ?_ ?_
              rotate_left 1
              · intro w hw; (have hC9 := HC1.out _ hw; obtain ⟨q1, q2, q3, q4, q5, q6, q7, q8⟩ := hC9; go_simp; try with_reducible rfl)
              refine wpE_take (i := 12) (q := 15) (v := ?_) rfl (by kernel_rfl) (by kernel_rfl) (by kernel_rfl) (by kernel_rfl) (by kernel_rfl) (fun _ _ _ h => h) (by rfl) ?_ ?_
              rotate_left 1
              · intro w hw; (have hC9 := HC1.out _ hw; obtain ⟨q1, q2, q3, q4, q5, q6, q7, q8⟩ := hC9; go_simp; try with_reducible rfl)
              refine wpE_take (i := 13) (q := 14) (v := ?_) rfl (by kernel_rfl) (by kernel_rfl) (by kernel_rfl) (by kernel_rfl) (by kernel_rfl) (fun _ _ _ h => h) (by rfl) ?_ ?_
              rotate_left 1
              · intro w hw; (have hC9 := HC1.out _ hw; obtain ⟨q1, q2, q3, q4, q5, q6, q7, q8⟩ := hC9; go_simp; try with_reducible rfl)
              refine wpE_take (i := 14) (q := 15) (v := ?_) rfl (by kernel_rfl) (by kernel_rfl) (by kernel_rfl) (by kernel_rfl) (by kernel_rfl) (fun _ _ _ h => h) (by rfl) ?_ ?_
              rotate_left 1
              · intro w hw; (have hC9 := HC1.out _ hw; obtain ⟨q1, q2, q3, q4, q5, q6, q7, q8⟩ := hC9; go_simp; try with_reducible rfl)
              refine wpE_take (i := 18) (q := 21) (v := ?_) rfl (by kernel_rfl) (by kernel_rfl) (by kernel_rfl) (by kernel_rfl) (by kernel_rfl) (fun _ _ _ h => h) (by rfl) ?_ ?_
              rotate_left 1
              · intro w hw; (have hC9 := HC1.out _ hw; obtain ⟨q1, q2, q3, q4, q5, q6, q7, q8⟩ := hC9; go_simp; try with_reducible rfl)
              refine wpE_take (i := 19) (q := 20) (v := ?_) rfl (by kernel_rfl) (by kernel_rfl) (by kernel_rfl) (by kernel_rfl) (by kernel_rfl) (fun _ _ _ h => h) (by rfl) ?_ ?_
              rotate_left 1
              · intro w hw; (have hC9 := HC1.out _ hw; obtain ⟨q1, q2, q3, q4, q5, q6, q7, q8⟩ := hC9; go_simp; try with_reducible rfl)
              refine wpE_take (i := 20) (q := 21) (v := ?_) rfl (by kernel_rfl) (by kernel_rfl) (by kernel_rfl) (by kernel_rfl) (by kernel_rfl) (fun _ _ _ h => h) (by rfl) ?_ ?_
              rotate_left 1
              · intro w hw; (have hC9 := HC1.out _ hw; obtain ⟨q1, q2, q3, q4, q5, q6, q7, q8⟩ := hC9; go_simp; try with_reducible rfl)
              refine wpE_take (i := 23) (q := 24) (v := ?_) rfl (by kernel_rfl) (by kernel_rfl) (by kernel_rfl) (by kernel_rfl) (by kernel_rfl) (fun _ _ _ h => h) (by rfl) ?_ ?_
              rotate_left 1
              · intro w hw; (have hC9 := HC1.out _ hw; obtain ⟨q1, q2, q3, q4, q5, q6, q7, q8⟩ := hC9; go_simp; try with_reducible rfl)
              refine wpE_take (i := 24) (q := 25) (v := ?_) rfl (by kernel_rfl) (by kernel_rfl) (by kernel_rfl) (by kernel_rfl) (by kernel_rfl) (fun _ _ _ h => h) (by rfl) ?_ ?_
              rotate_left 1
              · intro w hw; (have hC9 := HC1.out _ hw; obtain ⟨q1, q2, q3, q4, q5, q6, q7, q8⟩ := hC9; go_simp; try with_reducible rfl)
              refine wpE_take (i := 27) (q := 28) (v := ?_) rfl (by kernel_rfl) (by kernel_rfl) (by kernel_rfl) (by kernel_rfl) (by kernel_rfl) (fun _ _ _ h => h) (by rfl) ?_ ?_
              rotate_left 1
              · intro w hw; (have hC9 := HC1.out _ hw; obtain ⟨q1, q2, q3, q4, q5, q6, q7, q8⟩ := hC9; go_simp; try with_reducible rfl)
              refine wpE_take (i := 28) (q := 29) (v := ?_) rfl (by kernel_rfl) (by kernel_rfl) (by kernel_rfl) (by kernel_rfl) (by kernel_rfl) (fun _ _ _ h => h) (by rfl) ?_ ?_
              rotate_left 1
              · intro w hw; (have hC9 := HC1.out _ hw; obtain ⟨q1, q2, q3, q4, q5, q6, q7, q8⟩ := hC9; go_simp; try with_reducible rfl)
              refine wpE_take (i := 29) (q := 30) (v := ?_) rfl (by kernel_rfl) (by kernel_rfl) (by kernel_rfl) (by kernel_rfl) (by kernel_rfl) (fun _ _ _ h => h) (by rfl) ?_ ?_
              rotate_left 1
              · intro w hw; (have hC9 := HC1.out _ hw; obtain ⟨q1, q2, q3, q4, q5, q6, q7, q8⟩ := hC9; go_simp; try with_reducible rfl)
              refine wpE_one (i := 10) rfl (by kernel_rfl) (HCW.out) (fun K hK => ?_)
              go_simp
              with_reducible refine Calls.mono (HI6.out _ HXW.out) ?_
              rintro e w20 ⟨rfl, rfl⟩
              go_simp
              refine hK _ _ ?_
              clear hK K
              refine wpE_take (i := 11) (q := 16) (v := ?_) rfl (by kernel_rfl) (by kernel_rfl) (by kernel_rfl) (by kernel_rfl) (by kernel_rfl) (fun _ _ _ h => h) (by rfl) ?_ ?_
              rotate_left 1
              · intro w hw; (have hC9 := HC1.out _ hw; obtain ⟨q1, q2, q3, q4, q5, q6, q7, q8⟩ := hC9; go_simp; try with_reducible rfl)
              refine wpE_one (i := 15) rfl (by kernel_rfl) (HCW.out) (fun K hK => ?_)
              go_simp
              with_reducible refine Calls.mono (HI7.out _ HXW.out) ?_
              rintro e w20 ⟨rfl, rfl⟩
              go_simp
              refine hK _ _ ?_
              clear hK K
              refine wpE_take (i := 16) (q := 17) (v := ?_) rfl (by kernel_rfl) (by kernel_rfl) (by kernel_rfl) (by kernel_rfl) (by kernel_rfl) (fun _ _ _ h => h) (by rfl) ?_ ?_
              rotate_left 1
              · intro w hw; (have hC9 := HC1.out _ hw; obtain ⟨q1, q2, q3, q4, q5, q6, q7, q8⟩ := hC9; go_simp; try with_reducible rfl)
              refine wpE_take (i := 17) (q := 30) (v := ?_) rfl (by kernel_rfl) (by kernel_rfl) (by kernel_rfl) (by kernel_rfl) (by kernel_rfl) (fun _ _ _ h => h) (by rfl) ?_ ?_
              rotate_left 1
              · intro w hw; (have hC9 := HC1.out _ hw; obtain ⟨q1, q2, q3, q4, q5, q6, q7, q8⟩ := hC9; go_simp; try with_reducible rfl)
              refine wpE_one (i := 21) rfl (by kernel_rfl) (HCW.out) (fun K hK => ?_)
              go_simp
              with_reducible refine Calls.mono (HI8.out _ HXW.out) ?_
              rintro e w20 ⟨rfl, rfl⟩
              go_simp
              refine hK _ _ ?_
              clear hK K
              refine wpE_take (i := 22) (q := 25) (v := ?_) rfl (by kernel_rfl) (by kernel_rfl) (by kernel_rfl) (by kernel_rfl) (by kernel_rfl) (fun _ _ _ h => h) (by rfl) ?_ ?_
              rotate_left 1
              · intro w hw; (have hC9 := HC1.out _ hw; obtain ⟨q1, q2, q3, q4, q5, q6, q7, q8⟩ := hC9; go_simp; try with_reducible rfl)
              refine wpE_take (i := 25) (q := 26) (v := ?_) rfl (by kernel_rfl) (by kernel_rfl) (by kernel_rfl) (by kernel_rfl) (by kernel_rfl) (fun _ _ _ h => h) (by rfl) ?_ ?_
              rotate_left 1
              · intro w hw; (have hC9 := HC1.out _ hw; obtain ⟨q1, q2, q3, q4, q5, q6, q7, q8⟩ := hC9; go_simp; try with_reducible rfl)
              refine wpE_take (i := 26) (q := 30) (v := ?_) rfl (by kernel_rfl) (by kernel_rfl) (by kernel_rfl) (by kernel_rfl) (by kernel_rfl) (fun _ _ _ h => h) (by rfl) ?_ ?_
              rotate_left 1
              · intro w hw; (have hC9 := HC1.out _ hw; obtain ⟨q1, q2, q3, q4, q5, q6, q7, q8⟩ := hC9; go_simp; try with_reducible rfl)
              refine wpE_one (i := 30) rfl (by kernel_rfl) (HCW.out) (fun K hK => ?_)
              go_simp
              refine hK _ _ ?_
              clear hK K
              have hs := HS10.out.alloc (.cells #[.int .u8 1, .int .u8 16, .int .u8 0, .int .u8 0] 5)
              obtain ⟨bn, hbn⟩ : ∃ bn, w20.heap.size = bn := ⟨_, rfl⟩
              obtain ⟨W15, hW15⟩ : ∃ W15, w20.alloc (.cells #[.int .u8 1, .int .u8 16, .int .u8 0, .int .u8 0] 5) = W15 := ⟨_, rfl⟩
              rw [hbn, hW15] at hs
              rw [show IntKind.i64.wrap 16 = 16 by decide, show IntKind.i64.wrap 0 = 0 by decide, hor1, hor2, show IntKind.u8.wrap 1 = 1 by decide, show IntKind.u8.wrap 16 = 16 by decide, show IntKind.u8.wrap 0 = 0 by decide]
              rw [hbn, hW15]
              have HRN := Lib.hid (Sat.row_whole (size := 1) 4 hs (by simp only [maxLen]; omega) rfl).rd
              have HSR := Lib.hid (hs.r.of_eq (show _ = row (.slice va 32 vc) 32 5 1 (lB.flatMap byteC) * (pts b19 smM.box * (pts bw (wrB (.slice va 32 vc)) * own W10)) from by unfold rowY; rw [show lB.length = 32 from rfl]; ac_rfl))
              have HCW2 := Lib.hid (HC2.out _ _ hs.r.r.r.r.toExt hs.r)
              obtain ⟨i1, hi, hz0, hz1, hz2⟩ := info_parts3 info_by
              clear hs hbn hW15 HCW HS10 HI6 HI7 HI8
              refine wpE_one (i := 31) rfl (by kernel_rfl) (HCW2.out) (fun K hK => ?_)
              refine step_append_rd rfl _ _ 36 rfl i1 _ 1 Try.underlying36 hi hz0 hz1 hz2 rfl (by omega) rfl HSR.out _ 4 [.int .u8 1, .int .u8 16, .int .u8 0, .int .u8 0] rfl HRN.out (byte_one [1, 16, 0, 0]) (by simp only [maxLen]; omega) (by omega) ?_
              intro v' w' h7 _
              refine hK _ _ ?_
              clear hK K hi hz0 hz1 hz2
              have h8 : Sat W10 (rowY v' lC * (pts b19 smM.box * (pts bw (wrB (.slice va 32 vc)) * own W10))) w' := rowY_app (L := lB) (M := [1, 16, 0, 0]) h7 rfl rfl
              obtain ⟨xa, xc, hv, -⟩ := (rowY_rd h8).val
              rw [show lC.length = 36 from rfl] at hv
              subst hv
              have h9 := h8.of_eq (show _ = pts b19 smM.box * (pts bw (wrB (.slice va 32 vc)) * (rowY (.slice xa 36 xc) lC * own W10)) by ac_rfl)
              have HCW3 := Lib.hid (HC2.out _ _ h8.r.r.r.toExt h9)
              have H8 := Lib.hid h9.r
              have ob := h9.r.cell (i := 0) rfl
              have of := h9.r.free (i := 0)
              have ol := h9.r.lt
              clear h7 h8 h9 HSR HRN HCW2
              refine wpE_take (i := 32) (q := 33) (v := ?_) rfl (by kernel_rfl) (by kernel_rfl) (by kernel_rfl) (by kernel_rfl) (by kernel_rfl) (fun _ _ _ h => h) (by rfl) ?_ ?_
              rotate_left 1
              · intro w hw; (have hC9 := HC1.out _ hw; obtain ⟨q1, q2, q3, q4, q5, q6, q7, q8⟩ := hC9; go_simp; try with_reducible rfl)
              refine wpE_take (i := 33) (q := 34) (v := ?_) rfl (by kernel_rfl) (by kernel_rfl) (by kernel_rfl) (by kernel_rfl) (by kernel_rfl) (fun _ _ _ h => h) (by rfl) ?_ ?_
              rotate_left 1
              · intro w hw; (have hC9 := HC1.out _ hw; obtain ⟨q1, q2, q3, q4, q5, q6, q7, q8⟩ := hC9; go_simp; try with_reducible rfl)
              refine wpE_one (i := 34) rfl (by kernel_rfl) (HCW3.out) (fun K hK => ?_)
              go_simp
              refine hK _ _ ?_
              clear hK K
              refine wpE_done (by kernel_rfl) (by kernel_rfl) ?_
              have H9 := Lib.hid (H8.out.set (i := 0) (v := .slice xa 36 xc))
              clear ob of ol H8 HCW3 HC1 HC2
              go_wp2
              go_roundg 0
              case measure => have := HG.out; omega
              case rel => exact ⟨1, by omega, rfl, rfl, .slice xa 36 xc, H9.out⟩
            · obtain rfl : k = 1 := by omega
              rw [if_neg (show ¬ (1 : Nat) = 0 by decide)] at hs
              have HQ0 := Lib.hid hs
              clear hs HG
              have HWW0 := Lib.hid (words_any (HU5d.out.ext HX6T.out) (by decide) (by decide) HQ0.out)
              go_wp2_with fail
              with_reducible refine Calls.mono HWW0.out ?_
              rintro e w20 ⟨rfl, vq0, h9⟩
              have HQ1 := Lib.hid h9
              clear h9 HWW0 HQ0
              have HWW1 := Lib.hid (words_any (HU6c.out.ext HX6T.out) (by decide) (by decide) HQ1.out)
              go_wp2_with fail
              with_reducible refine Calls.mono HWW1.out ?_
              rintro e w21 ⟨rfl, vq1, h9⟩
              have HQ2 := Lib.hid h9
              clear h9 HWW1 HQ1
              have HWW2 := Lib.hid (words_any (HU7b.out.ext HX6T.out) (by decide) (by decide) HQ2.out)
              go_wp2_with fail
              with_reducible refine Calls.mono HWW2.out ?_
              rintro e w22 ⟨rfl, vq2, h9⟩
              have HQ3 := Lib.hid h9
              clear h9 HWW2 HQ2
              have HWW3 := Lib.hid (words_any (HU8.out.ext HX6T.out) (by decide) (by decide) HQ3.out)
              go_wp2_with fail
              with_reducible refine Calls.mono HWW3.out ?_
              rintro e w23 ⟨rfl, vq3, h9⟩
              have HQ4 := Lib.hid h9
              clear h9 HWW3 HQ3
              have HBQ4 := Lib.hid (HB10.out.ext HQ4.out.r.r.toExt)
              have b0 := HBQ4.out.c0
              have b1 := HBQ4.out.c1
              have b2 := HBQ4.out.c2
              have b3 := HBQ4.out.c3
              have b4 := HBQ4.out.c4
              have b5 := HBQ4.out.c5
              have b6 := HBQ4.out.c6
              have b7 := HBQ4.out.c7
              have lq := HBQ4.out.lt
              go_wp2_with fail
              go_loopg [198] 0 (fun gg s1 wx => gg = 0 ∧ s1 = .int .i64 0 ∧ Sat W10 (pts bw (wrB vq3) * (rowY vq3 ((((lC ++ ([0, 524288] : List Int).flatMap wordB) ++ ([0, 262144] : List Int).flatMap wordB) ++ ([0] : List Int).flatMap wordB) ++ ([0] : List Int).flatMap wordB) * own W10)) wx)
              case atStart => exact ⟨rfl, rfl, HQ4.out⟩
              case round =>
              obtain ⟨hg, rfl, hs⟩ := hrel
              have HQ5 := Lib.hid hs
              clear hg hs HQ4 HBQ4 b0 b1 b2 b3 b4 b5 b6 b7 lq
              have HBQ5 := Lib.hid (HB10.out.ext HQ5.out.r.r.toExt)
              have b0 := HBQ5.out.c0
              have b1 := HBQ5.out.c1
              have b2 := HBQ5.out.c2
              have b3 := HBQ5.out.c3
              have b4 := HBQ5.out.c4
              have b5 := HBQ5.out.c5
              have b6 := HBQ5.out.c6
              have b7 := HBQ5.out.c7
              have lq := HBQ5.out.lt
              have HWW5 := Lib.hid (words_any (HRD.out.rk.ext HX11.out) (by decide) (by decide) HQ5.out)
              go_wp2_with fail
              with_reducible refine Calls.mono HWW5.out ?_
              rintro e w25 ⟨rfl, vq5, h9⟩
              have HQ6 := Lib.hid h9
              clear h9 HWW5 HQ5 HBQ5 b0 b1 b2 b3 b4 b5 b6 b7 lq
              have HBQ6 := Lib.hid (HB10.out.ext HQ6.out.r.r.toExt)
              have b0 := HBQ6.out.c0
              have b1 := HBQ6.out.c1
              have b2 := HBQ6.out.c2
              have b3 := HBQ6.out.c3
              have b4 := HBQ6.out.c4
              have b5 := HBQ6.out.c5
              have b6 := HBQ6.out.c6
              have b7 := HBQ6.out.c7
              have lq := HBQ6.out.lt
              go_wp2_with fail
              go_loopg [227] 0 (fun gg s1 wx => gg = 0 ∧ s1 = .int .i64 0 ∧ Sat W10 (pts bw (wrB vq5) * (rowY vq5 (((((lC ++ ([0, 524288] : List Int).flatMap wordB) ++ ([0, 262144] : List Int).flatMap wordB) ++ ([0] : List Int).flatMap wordB) ++ ([0] : List Int).flatMap wordB) ++ ([] : List Int).flatMap wordB) * own W10)) wx)
              case atStart => exact ⟨rfl, rfl, HQ6.out⟩
              case round =>
              obtain ⟨hg, rfl, hs⟩ := hrel
              have HQ7 := Lib.hid hs
              clear hg hs HQ6 HBQ6 b0 b1 b2 b3 b4 b5 b6 b7 lq
              have HBQ7 := Lib.hid (HB10.out.ext HQ7.out.r.r.toExt)
              have b0 := HBQ7.out.c0
              have b1 := HBQ7.out.c1
              have b2 := HBQ7.out.c2
              have b3 := HBQ7.out.c3
              have b4 := HBQ7.out.c4
              have b5 := HBQ7.out.c5
              have b6 := HBQ7.out.c6
              have b7 := HBQ7.out.c7
              have lq := HBQ7.out.lt
              have HWW7 := Lib.hid (words_any (HRD.out.rr.ext HX11.out) (by decide) (by decide) HQ7.out)
              go_wp2_with fail
              with_reducible refine Calls.mono HWW7.out ?_
              rintro e w27 ⟨rfl, vq7, h9⟩
              have HQ8 := Lib.hid h9
              clear h9 HWW7 HQ7 HBQ7 b0 b1 b2 b3 b4 b5 b6 b7 lq
              have hb0 := HQ8.out.cell (i := 0) rfl
              have hbl := HQ8.out.lt
              go_wp2
              go_ret2
              have HF := rowY_rd HQ8.out.r
              exact ⟨vq7, rfl, HF, (HE1.out.trans HX11.out).trans HQ8.out.r.r.toExt⟩
end Go.Proofs.Ytembknlhocijkaa
