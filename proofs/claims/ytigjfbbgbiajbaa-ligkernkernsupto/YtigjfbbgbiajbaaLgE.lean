/-
  pair: the mark at which the place has passed a pair: the walk. Conditions: those that each theorem names.
-/
import Derived.Test.YtigjfbbgbiajbaaLgD
import Derived.IntWalk
namespace Go.Proofs.Ytigjfbbgbiajbaa
open Go.RowKit Go.Sp
variable {w W : World} {x : FV} {F : Fnt} {bm : Nat}

set_option maxRecDepth 100000 in
set_option maxHeartbeats 8000000 in
theorem pair_of {g : Nat} (hrd : RdF W x F) (hfk : FOk F) (IH : FolC W x F bm g) : PairC W x F bm g := by
  intro A n kn a c w hk ha hc hu h
  have hal := h.alloc (F.pbox x)
  obtain ⟨W1, hW1⟩ : ∃ W1, w.alloc (F.pbox x) = W1 := ⟨_, rfl⟩
  obtain ⟨bf, hbf⟩ : ∃ bf, w.heap.size = bf := ⟨_, rfl⟩
  rw [hW1, hbf] at hal
  have HIH := Lib.hid IH
  have HS := Lib.hid hal
  have HB := Lib.hid (BoxP.of hal)
  have hE := (hal.of_eq (show _ = own W * (pts bf (F.pbox x) * (mapH kE2 vI bm n kn * A)) by ac_rfl)).l.toExt
  have HFI := Lib.hid (find_any (hrd.ext hE) hfk a c ha)
  obtain ⟨q, hq⟩ : ∃ q, findM F a c = q := ⟨_, rfl⟩
  obtain ⟨r, hr⟩ : ∃ r, pairM F (followM F g) kn a c = r := ⟨_, rfl⟩
  rw [hr]
  unfold pairM at hr
  rw [hq] at HFI hr
  have HR := Lib.hid hr
  have HK := Lib.hid hk
  have HA := Lib.hid ha
  have HC := Lib.hid hc
  have HU := Lib.hid hu
  obtain ⟨ca, cc, sa, sc, ka, kc, pa, pc, ra, rc, rfl, -⟩ := hrd.vals
  simp only [Fnt.pbox] at hW1
  have HW1 := Lib.hid hW1
  have HBF := Lib.hid hbf
  clear hr hW1 hbf h hal hk ha hc hu IH hq hE
  go_enter Try.func40, Try.ntmps40
  go_upto_region 1 with fail
  rw [HBF.out, HW1.out]
  clear HBF HW1
  have b0 := HB.out.c0
  have b1 := HB.out.c1
  have b2 := HB.out.c2
  have b3 := HB.out.c3
  have b4 := HB.out.c4
  have b5 := HB.out.c5
  have b6 := HB.out.c6
  have b7 := HB.out.c7
  have b8 := HB.out.c8
  have lq := HB.out.lt
  go_wp2_with fail
  with_reducible refine Calls.mono HFI.out ?_
  rintro e w2 ⟨rfl, hx⟩
  have hs2 := (HS.out.ext hx).alloc (q.getD stp0).boxv
  obtain ⟨W3, hW3⟩ : ∃ W3, w2.alloc (q.getD stp0).boxv = W3 := ⟨_, rfl⟩
  obtain ⟨b9, hb9⟩ : ∃ b9, w2.heap.size = b9 := ⟨_, rfl⟩
  rw [hW3, hb9] at hs2
  have HW3 := Lib.hid hW3
  have HB9 := Lib.hid hb9
  have HS2 := Lib.hid hs2
  clear hs2 hW3 hb9 hx b0 b1 b2 b3 b4 b5 b6 b7 b8 lq HS HB HFI
  cases q with
  | none =>
    have hr := HR.out
    simp only at hr
    subst hr
    simp only [Option.getD_none, Option.isSome_none] at HS2 HW3 ⊢
    go_wp2
    go_ret
    refine ⟨rfl, n, ?_⟩
    rw [show w2.alloc stp0.boxv = W3 from HW3.out]
    exact HS2.out.r.r
  | some s =>
    simp only [Option.getD_some, Option.isSome_some] at HS2 HW3 ⊢
    obtain ⟨s1, s2, s3, s4⟩ := s
    have hs3 := u8i s3
    have hs4 := u8i s4
    go_upto_region 2 with fail
    rw [HB9.out, show w2.alloc (.cells #[.int .u8 s1.toNat, .int .u8 s2.toNat, .int .u8 s3.toNat, .int .u8 s4.toNat] 36) = W3 from HW3.out]
    clear HB9 HW3
    have e0 := HS2.out.cell (i := 0) rfl
    have e1 := HS2.out.cell (i := 1) rfl
    have e2 := HS2.out.cell (i := 2) rfl
    have e3 := HS2.out.cell (i := 3) rfl
    have le := HS2.out.lt
    by_cases o128 : 128 ≤ s3.toNat
    · have o2 : (128 : Int) ≤ s3.toNat := by omega
      have hr := HR.out
      simp only at hr
      rw [if_pos o128] at hr
      subst hr
      clear o128
      go_wp2
      go_ret
      exact ⟨rfl, n, HS2.out.r.r⟩
    · have o2 : ¬ (128 : Int) ≤ s3.toNat := by omega
      have hr := HR.out
      simp only at hr
      rw [if_neg o128] at hr
      have HR2 := Lib.hid hr
      clear hr HR o128
      go_upto_region 5 with fail
      obtain ⟨W9, hW9⟩ : ∃ W9, W3.drew = W9 := ⟨_, rfl⟩
      have h9 := HS2.out.drew
      rw [hW9] at h9
      have HS9 := Lib.hid h9
      clear e0 e1 e2 e3 le HS2 h9
      have e0 := HS9.out.cell (i := 0) rfl
      have e1 := HS9.out.cell (i := 1) rfl
      have e2 := HS9.out.cell (i := 2) rfl
      have e3 := HS9.out.cell (i := 3) rfl
      have le := HS9.out.lt
      refine wp_region_tail (fun w' => w' = W9) 15 (by kernel_rfl) (by kernel_rfl) hW9 ?_
      clear hW9
      simp only [List.take_succ_cons, List.take_zero, List.drop_succ_cons, List.drop_zero]
      iterate 15
        with_reducible refine wpQuiet_step ?_
        intro K hK
        go_simp
        first
          | (with_reducible refine hK _ ?_
             clear hK K)
          | (rw [if_neg (by intro h; cases h)]
             with_reducible refine hK _ ?_
             clear hK K)
          | (refine Exists.intro _ ⟨fun w9 hw9 => ?_, ?_⟩
             rotate_left 1
             with_reducible refine hK _ ?_
             clear hK K
             rotate_left 1
             · subst hw9; go_simp; try with_reducible rfl)
      refine wpQuiet_nil ?_
      rintro w17 rfl
      go_upto_region 8 with fail
      obtain ⟨kp, hkp⟩ : ∃ kp, stpKeep ⟨s1, s2, s3, s4⟩ = kp := ⟨_, rfl⟩
      obtain ⟨lp, hlp⟩ : ∃ lp, stpLast ⟨s1, s2, s3, s4⟩ = lp := ⟨_, rfl⟩
      obtain ⟨pp, hpp⟩ : ∃ pp, stpPass ⟨s1, s2, s3, s4⟩ = pp := ⟨_, rfl⟩
      have hpl : pp ≤ kp + lp := by rw [← hpp, ← hkp, ← hlp]; exact Nat.min_le_right _ _
      have v13 : (IntKind.i64.wrap (s3.toNat : Int)).tmod 2 = lp := by
        rw [show IntKind.i64.wrap (s3.toNat : Int) = (s3.toNat : Int) from IntWalk.i64_in _ (by omega), ← hlp]
        rfl
      have v12 : (IntKind.i64.wrap ((IntKind.i64.wrap (s3.toNat : Int)).tdiv 2)).tmod 2 = kp := by
        rw [show IntKind.i64.wrap (s3.toNat : Int) = (s3.toNat : Int) from IntWalk.i64_in _ (by omega)]
        rw [show ((s3.toNat : Int)).tdiv 2 = ((s3.toNat / 2 : Nat) : Int) from rfl]
        rw [show IntKind.i64.wrap ((s3.toNat / 2 : Nat) : Int) = ((s3.toNat / 2 : Nat) : Int) from IntWalk.i64_in _ (by omega), ← hkp]
        rfl
      have v14 : (if (s3.toNat : Int) / 2 % 2 + (s3.toNat : Int) % 2 < (s3.toNat : Int) / 4 then (s3.toNat : Int) / 2 % 2 + (s3.toNat : Int) % 2 else (s3.toNat : Int) / 4) = pp := by
        rw [← hpp]
        simp only [stpPass, stpKeep, stpLast]
        split <;> omega
      rw [v12, v13, v14]
      have hk2 : kp < 2 := by rw [← hkp]; exact Nat.mod_lt _ (by decide)
      have hl2 : lp < 2 := by rw [← hlp]; exact Nat.mod_lt _ (by decide)
      have hPL : pairL a c ⟨s1, s2, s3, s4⟩ = (if kp = 1 then [a] else []) ++ (s4.toNat : Int) :: (if lp = 1 then [c] else []) := by rw [← hkp, ← hlp]; rfl
      have hr := HR2.out
      rw [hpp, hPL] at hr
      have hmk := pairL_ok HA.out HC.out ⟨s1, s2, s3, s4⟩
      rw [hPL] at hmk
      have HMK := Lib.hid hmk
      obtain ⟨i0, hi, hz0, hz1, hz2⟩ := info_parts3 info_int3
      have HI := Lib.hid hi
      have HZ0 := Lib.hid hz0
      have HZ1 := Lib.hid hz1
      have HZ2 := Lib.hid hz2
      have HR3 := Lib.hid hr
      clear v12 v13 v14 hkp hlp hpp hPL hr HR2 hi hz0 hz1 hz2 hmk e0 e1 e2 e3 le
      have hs6 := rowI_whole (HS9.out.alloc (.cells #[] 3))
      obtain ⟨W5, hW5⟩ : ∃ W5, w17.alloc (.cells #[] 3) = W5 := ⟨_, rfl⟩
      obtain ⟨b5, hb5⟩ : ∃ b5, w17.heap.size = b5 := ⟨_, rfl⟩
      rw [hW5, hb5] at hs6
      rw [hW5, hb5]
      have HS6 := Lib.hid hs6
      clear hs6 hW5 hb5 HS9
      have hkc : kp = 0 ∨ kp = 1 := by omega
      have hlc : lp = 0 ∨ lp = 1 := by omega
      clear hk2 hl2
      rcases hkc with rfl | rfl
      · rcases hlc with rfl | rfl
        · simp only [Nat.zero_ne_one, if_false, List.nil_append] at HR3 HMK
          go_wp2_with (at_builtin; refine wpList_append_sep rfl _ _ 25 rfl i0 _ 8 Try.underlying25 HI.out HZ0.out HZ1.out HZ2.out rfl rfl HS6.out.allocD ⟨_, 0, none⟩ 1 1 [.int .i64 ((s4.toNat : Int))] rfl rfl (new_cells _ _ _) (by simp [Value.oneCell']) (by simp [maxLen]) (by simp) ?_)
          intro v' w7 h7
          have HS7 := Lib.hid (rowI_snoc (L := []) h7 rfl)
          clear h7 HS6
          go_upto_region 13 with fail
          obtain ⟨L, hL⟩ : ∃ L : List Int, ([(s4.toNat : Int)]) = L := ⟨_, rfl⟩
          have hlen : pp < L.length := by rw [← hL]; simp only [List.length_cons, List.length_nil]; omega
          have hsm : L.length ≤ 3 := by rw [← hL]; simp
          have hs := HS7.out.of_eq (show rowI v' _ * _ = rowI v' ([(s4.toNat : Int)]) * _ from rfl)
          have hr := HR3.out
          have hmk := HMK.out
          rw [hL] at hs hr hmk
          have HSR := Lib.hid hs
          have HR4 := Lib.hid hr
          have HMK4 := Lib.hid hmk
          obtain ⟨g9, cap, hv, hlc2, hcm, lg, hcell⟩ := rowI_val hs (by omega)
          subst hv
          have HCE := Lib.hid hcell
          clear hL hs hr hmk HS7 HR3 HMK hcell
          have hl00 : 0 < L.length := by omega
          have c0 := HCE.out 0 hl00
          have hl0 : (0 : Int) < L.length := by omega
          have hl1 : ((L.length : Int) - 1).toNat = L.length - 1 := by omega
          have hcap0 : L.length ≤ 9223372036854775807 := by clear hcm; omega
          have HP0 := Lib.hid (show L[0]'hl00 = L.getD 0 0 by rw [List.getD_eq_getElem?_getD, List.getElem?_eq_getElem hl00]; rfl)
          rw [HP0.out] at c0
          obtain ⟨z9, hz9⟩ : ∃ z9, L.getD 0 0 = z9 := ⟨_, rfl⟩
          rw [hz9] at c0
          have HZ9 := Lib.hid hz9
          clear hz9
          obtain ⟨m0, hm0⟩ : ∃ m0, L.length - 1 = m0 := ⟨_, rfl⟩
          obtain ⟨n0, hn0⟩ : ∃ n0, L.length = n0 := ⟨_, rfl⟩
          have HM0 := Lib.hid hm0
          have HN0 := Lib.hid hn0
          rw [hn0] at hm0 hlen hsm hlc2 hl0 hl1 hcap0
          clear HP0 hl00
          go_upto_region 14 with fail
          have hs := HSR.out
          rw [HN0.out] at hs
          have HSR := Lib.hid hs
          clear hs
          rw [HN0.out]
          go_cut [15] from 75 to 76 (fun s15 wx => ∃ (o m q : Nat), s15 = .slice (some ⟨g9, o, none⟩) m q ∧ m + 1 = n0 ∧ q + 1 = cap ∧ (0 < m → o = 1) ∧ Sat W (rowI (.slice (some ⟨g9, 0, none⟩) n0 cap) L * (pts b9 (Stp.boxv ⟨s1, s2, s3, s4⟩) * (pts bf (F.pbox ⟨.slice ca F.chars.length cc, .slice sa F.steps.length sc, .slice ka F.kerns.length kc, .slice pa F.pieces.length pc, .slice ra F.params.length rc⟩) * (mapH kE2 vI bm n kn * (A * own W))))) wx)
          case first =>
            by_cases hc1 : cap = 1
            · subst hc1
              go_wp2
              go_meet
              exact ⟨0, m0, 0, rfl, by omega, rfl, fun h => by omega, HSR.out⟩
            · have hc2 : (cap = 1) = False := by simp [hc1]
              go_wp2
              go_meet
              exact ⟨1, m0, cap - 1, rfl, by omega, by omega, fun _ => rfl, HSR.out⟩
          case rest =>
            obtain ⟨o, m, q, rfl, hm1, hq1, ho, hs⟩ := hcut
            have HSS := Lib.hid hs
            obtain ⟨g', cap', hv', -, -, lg, hcell⟩ := rowI_val hs (by omega)
            simp only [Value.slice.injEq, Option.some.injEq, Addr.mk.injEq, and_true] at hv'
            obtain ⟨rfl, -, rfl⟩ := hv'
            clear HCE
            have HCE := Lib.hid hcell
            clear hs HSR c0 hl0 hl1 hm0 hcell
            have HO := Lib.hid ho
            have HM1 := Lib.hid hm1
            have HQ1 := Lib.hid hq1
            clear ho hm1 hq1
            go_wp2_with fail
            go_loopg [14, 15, 16] pp (fun gg s14 s15 s16 wx => ∃ (p k o m q : Nat), gg = p ∧ s14 = .int .i64 p ∧ k + p = pp ∧ (∃ z, s16 = .int .i64 z ∧ L.getD k 0 = z) ∧ s15 = .slice (some ⟨g9, o, none⟩) m q ∧ m + (k + 1) = n0 ∧ q + (k + 1) = cap ∧ (0 < m → o = k + 1) ∧ wx = wc)
            case atStart => exact ⟨pp, 0, o, m, q, rfl, rfl, by omega, ⟨z9, rfl, HZ9.out⟩, rfl, HM1.out, HQ1.out, HO.out, rfl⟩
            case round =>
              obtain ⟨p, k, o, m, q, hg, rfl, hkp, ⟨z, rfl, hz⟩, rfl, hm1, hq1, ho, rfl⟩ := hrel
              subst hg
              have HZ := Lib.hid hz
              have HKP := Lib.hid hkp
              have HM2 := Lib.hid hm1
              have HQ2 := Lib.hid hq1
              have hon : 0 < m → o = k + 1 := ho
              clear hz ho
              cases gk with
              | zero =>
                obtain rfl : k = pp := by omega
                clear hkp hm1 hq1
                have hmk := HMK4.out
                have hdrop : L.drop k = z :: L.drop (k + 1) := by
                  have hkl : k < L.length := by have := HN0.out; omega
                  rw [List.drop_eq_getElem_cons hkl, ← HZ.out, List.getD_eq_getElem?_getD, List.getElem?_eq_getElem hkl]
                  rfl
                have hr := HR4.out
                rw [hdrop] at hr
                simp only [List.headD_cons, List.tail_cons] at hr
                have hmz : MkR z := hmk z (List.mem_of_mem_drop (by rw [hdrop]; exact List.mem_cons_self ..))
                have HMZ := Lib.hid hmz
                have HR5 := Lib.hid hr
                have hm9 : (m : Int) ≤ 3 := by have := HM2.out; omega
                have HON := Lib.hid hon
                clear hmk hdrop hr hmz HR4 hon
                have hs9 := HSS.out
                have HS9 := Lib.hid (hs9.of_eq (show _ = mapH kE2 vI bm n kn * ((rowI (.slice (some ⟨g9, 0, none⟩) n0 cap) L * (pts b9 (Stp.boxv ⟨s1, s2, s3, s4⟩) * (pts bf (F.pbox ⟨.slice ca F.chars.length cc, .slice sa F.steps.length sc, .slice ka F.kerns.length kc, .slice pa F.pieces.length pc, .slice ra F.params.length rc⟩) * A))) * own W) by ac_rfl))
                clear hs9 HSS
                go_wp2_with fail
                go_loopg [16, 88] m (fun gg s16 s88 wx => ∃ (j : Nat) (kn' : KM) (n' : Nat) (z : Int), j ≤ m ∧ gg = m - j ∧ s88 = .int .i64 j ∧ s16 = .int .i64 z ∧ MkR z ∧ KOk kn' ∧ unk kn' < g ∧ pairGo (followM F g) kn' z (L.drop (k + 1 + j)) = r ∧ Sat W (mapH kE2 vI bm n' kn' * ((rowI (.slice (some ⟨g9, 0, none⟩) n0 cap) L * (pts b9 (Stp.boxv ⟨s1, s2, s3, s4⟩) * (pts bf (F.pbox ⟨.slice ca F.chars.length cc, .slice sa F.steps.length sc, .slice ka F.kerns.length kc, .slice pa F.pieces.length pc, .slice ra F.params.length rc⟩) * A))) * own W)) wx)
                case atStart => exact ⟨0, kn, n, z, Nat.zero_le _, rfl, rfl, rfl, HMZ.out, HK.out, HU.out, HR5.out, HS9.out⟩
                case round =>
                  clear HZ HR5 HMZ HS9 HCE lg HK HU
                  obtain ⟨j, kn', n', z, hj, hg, rfl, rfl, hmz, hk', hu', hr, hs⟩ := hrel
                  have HS := Lib.hid hs
                  have HR := Lib.hid hr
                  have HMZ := Lib.hid hmz
                  have HK := Lib.hid hk'
                  have HU := Lib.hid hu'
                  have HG := Lib.hid hg
                  clear hs hr hmz hk' hu' hg
                  by_cases hjm : j < m
                  · have hji : (j : Int) < m := by omega
                    have hom := HON.out (by omega)
                    subst hom
                    have hjl : k + 1 + j < L.length := by have := HM2.out; have := HN0.out; omega
                    have hs1 := HS.out.of_eq (show _ = rowI (.slice (some ⟨g9, 0, none⟩) n0 cap) L * (mapH kE2 vI bm n' kn' * (pts b9 (Stp.boxv ⟨s1, s2, s3, s4⟩) * (pts bf (F.pbox ⟨.slice ca F.chars.length cc, .slice sa F.steps.length sc, .slice ka F.kerns.length kc, .slice pa F.pieces.length pc, .slice ra F.params.length rc⟩) * (A * own W)))) by ac_rfl)
                    obtain ⟨g', cap', hv', -, -, lg, hcell⟩ := rowI_val hs1 (by omega)
                    simp only [Value.slice.injEq, Option.some.injEq, Addr.mk.injEq, and_true] at hv'
                    obtain ⟨rfl, -, rfl⟩ := hv'
                    have c0 := hcell (k + 1 + j) hjl
                    have HB := Lib.hid (BoxP.of (hs1.of_eq (show _ = pts bf (F.pbox ⟨.slice ca F.chars.length cc, .slice sa F.steps.length sc, .slice ka F.kerns.length kc, .slice pa F.pieces.length pc, .slice ra F.params.length rc⟩) * (rowI (.slice (some ⟨g9, 0, none⟩) n0 cap) L * (mapH kE2 vI bm n' kn' * (pts b9 (Stp.boxv ⟨s1, s2, s3, s4⟩) * (A * own W)))) by ac_rfl)))
                    have b0 := HB.out.c0
                    have b1 := HB.out.c1
                    have b2 := HB.out.c2
                    have b3 := HB.out.c3
                    have b4 := HB.out.c4
                    have b5 := HB.out.c5
                    have b6 := HB.out.c6
                    have b7 := HB.out.c7
                    have b8 := HB.out.c8
                    have lq := HB.out.lt
                    have hmy : MkR (L[k + 1 + j]) := HMK4.out _ (List.getElem_mem hjl)
                    have hdr : L.drop (k + 1 + j) = L[k + 1 + j] :: L.drop (k + 1 + (j + 1)) := List.drop_eq_getElem_cons hjl
                    obtain ⟨y, hy⟩ : ∃ y, L[k + 1 + j] = y := ⟨_, rfl⟩
                    rw [hy] at c0 hmy hdr
                    have hr := HR.out
                    rw [hdr, pairGo] at hr
                    have HF := Lib.hid (HIH.out _ n' kn' z y wr HK.out HMZ.out hmy HU.out HS.out)
                    obtain ⟨hok1, hok2, hok3⟩ := followM_ok F g kn' z y HK.out HMZ.out hmy HU.out
                    have HSU := Lib.hid (Nat.lt_of_le_of_lt hok1.unk HU.out)
                    obtain ⟨⟨z2, kn2⟩, hfm⟩ : ∃ p, followM F g kn' z y = p := ⟨_, rfl⟩
                    rw [hfm] at HF hok2 hok3 hr HSU
                    simp only at hok2 hok3 hr HSU
                    have HOK2 := Lib.hid hok2
                    have HOK3 := Lib.hid hok3
                    have HR6 := Lib.hid hr
                    clear hok1 hok2 hok3 hr hfm hy hdr hmy hs1 hcell HB HR HS HK HU hjl
                    go_wp2_with fail
                    with_reducible refine Calls.mono HF.out ?_
                    rintro e w6 ⟨rfl, n6, hs6⟩
                    have HS6 := Lib.hid hs6
                    clear hs6 HF c0 lg b0 b1 b2 b3 b4 b5 b6 b7 b8 lq
                    by_cases z3 : z2 = -3
                    · subst z3
                      have hr := HR6.out
                      rw [if_pos rfl] at hr
                      subst hr
                      go_wp2
                      go_ret
                      exact ⟨rfl, n6, by exact (HS6.out.of_eq (show _ = rowI (.slice (some ⟨g9, 0, none⟩) n0 cap) L * (pts b9 (Stp.boxv ⟨s1, s2, s3, s4⟩) * (pts bf (F.pbox ⟨.slice ca F.chars.length cc, .slice sa F.steps.length sc, .slice ka F.kerns.length kc, .slice pa F.pieces.length pc, .slice ra F.params.length rc⟩) * (mapH kE2 vI bm n6 kn2 * (A * own W)))) by ac_rfl)).r.r.r⟩
                    · have hr := HR6.out
                      rw [if_neg z3] at hr
                      have HR7 := Lib.hid hr
                      clear hr HR6
                      have HZ3 := Lib.hid (HOK3.out.resolve_left z3)
                      go_wp2
                      go_roundg (m - (j + 1))
                      case measure => have := HG.out; omega
                      case rel => exact ⟨j + 1, kn2, n6, z2, by omega, rfl, by go_num, rfl, HZ3.out, HOK2.out, HSU.out, HR7.out, HS6.out⟩
                  · obtain rfl : j = m := by omega
                    have hr := HR.out
                    rw [List.drop_eq_nil_of_le (by have := HM2.out; have := HN0.out; omega), pairGo] at hr
                    subst hr
                    clear hjm
                    go_wp2
                    go_ret
                    exact ⟨rfl, n', by exact (HS.out.of_eq (show _ = rowI (.slice (some ⟨g9, 0, none⟩) n0 cap) L * (pts b9 (Stp.boxv ⟨s1, s2, s3, s4⟩) * (pts bf (F.pbox ⟨.slice ca F.chars.length cc, .slice sa F.steps.length sc, .slice ka F.kerns.length kc, .slice pa F.pieces.length pc, .slice ra F.params.length rc⟩) * (mapH kE2 vI bm n' kn' * (A * own W)))) by ac_rfl)).r.r.r⟩
              | succ p =>
                have hmp : 0 < m := by have := HM2.out; have := HKP.out; omega
                obtain rfl := hon hmp
                have hkn : k + 1 < L.length := by have := HM2.out; have := HN0.out; omega
                have c0 := HCE.out (k + 1) hkn
                have hz2 : L[k + 1] = L.getD (k + 1) 0 := by rw [List.getD_eq_getElem?_getD, List.getElem?_eq_getElem hkn]; rfl
                obtain ⟨z2, hz3⟩ : ∃ z2, L[k + 1] = z2 := ⟨_, rfl⟩
                rw [hz3] at c0 hz2
                have HZ2' := Lib.hid hz2
                have hmi : (0 : Int) < m := by omega
                have hpi : (0 : Int) < ((p + 1 : Nat) : Int) := by omega
                have hmq : m ≤ q := by have := HM2.out; have := HQ2.out; omega
                have hq9 : q ≤ 9223372036854775807 := by have := HQ2.out; simp only [maxLen] at hcm; omega
                have HMQ := Lib.hid hmq
                have hpb : (p : Int) ≤ 9 := by have := HKP.out; omega
                clear hz3 hz2 hkp hm1 hq1 hmp hkn
                by_cases hq1 : q = 1
                · subst hq1
                  obtain rfl : m = 1 := by omega
                  go_wp2
                  go_roundg p
                  case measure => omega
                  case rel => exact ⟨p, k + 1, k + 1, 0, 0, rfl, by first | rfl | go_num, by have := HKP.out; omega, ⟨z2, rfl, HZ2'.out.symm⟩, rfl, by have := HM2.out; omega, by have := HQ2.out; omega, fun h => by have := HMQ.out; omega, rfl⟩
                · have hq2 : (q = 1) = False := by simp [hq1]
                  go_wp2
                  go_roundg p
                  case measure => omega
                  case rel => exact ⟨p, k + 1, k + 1 + 1, m - 1, q - 1, rfl, by first | rfl | go_num, by have := HKP.out; omega, ⟨z2, rfl, HZ2'.out.symm⟩, rfl, by have := HM2.out; omega, by have := HQ2.out; omega, fun h => rfl, rfl⟩
        · simp only [Nat.zero_ne_one, if_false, if_true, List.nil_append] at HR3 HMK
          go_wp2_with (at_builtin; refine wpList_append_sep rfl _ _ 25 rfl i0 _ 8 Try.underlying25 HI.out HZ0.out HZ1.out HZ2.out rfl rfl HS6.out.allocD ⟨_, 0, none⟩ 1 1 [.int .i64 ((s4.toNat : Int))] rfl rfl (new_cells _ _ _) (by simp [Value.oneCell']) (by simp [maxLen]) (by simp) ?_)
          intro v' w7 h7
          have HS7 := Lib.hid (rowI_snoc (L := []) h7 rfl)
          clear h7 HS6
          go_wp2_with (at_builtin; refine wpList_append_sep rfl _ _ 25 rfl i0 _ 8 Try.underlying25 HI.out HZ0.out HZ1.out HZ2.out rfl rfl HS7.out.allocD ⟨_, 0, none⟩ 1 1 [.int .i64 (c)] rfl rfl (new_cells _ _ _) (by simp [Value.oneCell']) (by simp [maxLen]) (by simp) ?_)
          intro v' w8 h7
          have HS8 := Lib.hid (rowI_snoc (L := [] ++ [(s4.toNat : Int)]) h7 rfl)
          clear h7 HS7
          go_upto_region 13 with fail
          obtain ⟨L, hL⟩ : ∃ L : List Int, ([(s4.toNat : Int), c]) = L := ⟨_, rfl⟩
          have hlen : pp < L.length := by rw [← hL]; simp only [List.length_cons, List.length_nil]; omega
          have hsm : L.length ≤ 3 := by rw [← hL]; simp
          have hs := HS8.out.of_eq (show rowI v' _ * _ = rowI v' ([(s4.toNat : Int), c]) * _ from rfl)
          have hr := HR3.out
          have hmk := HMK.out
          rw [hL] at hs hr hmk
          have HSR := Lib.hid hs
          have HR4 := Lib.hid hr
          have HMK4 := Lib.hid hmk
          obtain ⟨g9, cap, hv, hlc2, hcm, lg, hcell⟩ := rowI_val hs (by omega)
          subst hv
          have HCE := Lib.hid hcell
          clear hL hs hr hmk HS8 HR3 HMK hcell
          have hl00 : 0 < L.length := by omega
          have c0 := HCE.out 0 hl00
          have hl0 : (0 : Int) < L.length := by omega
          have hl1 : ((L.length : Int) - 1).toNat = L.length - 1 := by omega
          have hcap0 : L.length ≤ 9223372036854775807 := by clear hcm; omega
          have HP0 := Lib.hid (show L[0]'hl00 = L.getD 0 0 by rw [List.getD_eq_getElem?_getD, List.getElem?_eq_getElem hl00]; rfl)
          rw [HP0.out] at c0
          obtain ⟨z9, hz9⟩ : ∃ z9, L.getD 0 0 = z9 := ⟨_, rfl⟩
          rw [hz9] at c0
          have HZ9 := Lib.hid hz9
          clear hz9
          obtain ⟨m0, hm0⟩ : ∃ m0, L.length - 1 = m0 := ⟨_, rfl⟩
          obtain ⟨n0, hn0⟩ : ∃ n0, L.length = n0 := ⟨_, rfl⟩
          have HM0 := Lib.hid hm0
          have HN0 := Lib.hid hn0
          rw [hn0] at hm0 hlen hsm hlc2 hl0 hl1 hcap0
          clear HP0 hl00
          go_upto_region 14 with fail
          have hs := HSR.out
          rw [HN0.out] at hs
          have HSR := Lib.hid hs
          clear hs
          rw [HN0.out]
          go_cut [15] from 75 to 76 (fun s15 wx => ∃ (o m q : Nat), s15 = .slice (some ⟨g9, o, none⟩) m q ∧ m + 1 = n0 ∧ q + 1 = cap ∧ (0 < m → o = 1) ∧ Sat W (rowI (.slice (some ⟨g9, 0, none⟩) n0 cap) L * (pts b9 (Stp.boxv ⟨s1, s2, s3, s4⟩) * (pts bf (F.pbox ⟨.slice ca F.chars.length cc, .slice sa F.steps.length sc, .slice ka F.kerns.length kc, .slice pa F.pieces.length pc, .slice ra F.params.length rc⟩) * (mapH kE2 vI bm n kn * (A * own W))))) wx)
          case first =>
            by_cases hc1 : cap = 1
            · subst hc1
              go_wp2
              go_meet
              exact ⟨0, m0, 0, rfl, by omega, rfl, fun h => by omega, HSR.out⟩
            · have hc2 : (cap = 1) = False := by simp [hc1]
              go_wp2
              go_meet
              exact ⟨1, m0, cap - 1, rfl, by omega, by omega, fun _ => rfl, HSR.out⟩
          case rest =>
            obtain ⟨o, m, q, rfl, hm1, hq1, ho, hs⟩ := hcut
            have HSS := Lib.hid hs
            obtain ⟨g', cap', hv', -, -, lg, hcell⟩ := rowI_val hs (by omega)
            simp only [Value.slice.injEq, Option.some.injEq, Addr.mk.injEq, and_true] at hv'
            obtain ⟨rfl, -, rfl⟩ := hv'
            clear HCE
            have HCE := Lib.hid hcell
            clear hs HSR c0 hl0 hl1 hm0 hcell
            have HO := Lib.hid ho
            have HM1 := Lib.hid hm1
            have HQ1 := Lib.hid hq1
            clear ho hm1 hq1
            go_wp2_with fail
            go_loopg [14, 15, 16] pp (fun gg s14 s15 s16 wx => ∃ (p k o m q : Nat), gg = p ∧ s14 = .int .i64 p ∧ k + p = pp ∧ (∃ z, s16 = .int .i64 z ∧ L.getD k 0 = z) ∧ s15 = .slice (some ⟨g9, o, none⟩) m q ∧ m + (k + 1) = n0 ∧ q + (k + 1) = cap ∧ (0 < m → o = k + 1) ∧ wx = wc)
            case atStart => exact ⟨pp, 0, o, m, q, rfl, rfl, by omega, ⟨z9, rfl, HZ9.out⟩, rfl, HM1.out, HQ1.out, HO.out, rfl⟩
            case round =>
              obtain ⟨p, k, o, m, q, hg, rfl, hkp, ⟨z, rfl, hz⟩, rfl, hm1, hq1, ho, rfl⟩ := hrel
              subst hg
              have HZ := Lib.hid hz
              have HKP := Lib.hid hkp
              have HM2 := Lib.hid hm1
              have HQ2 := Lib.hid hq1
              have hon : 0 < m → o = k + 1 := ho
              clear hz ho
              cases gk with
              | zero =>
                obtain rfl : k = pp := by omega
                clear hkp hm1 hq1
                have hmk := HMK4.out
                have hdrop : L.drop k = z :: L.drop (k + 1) := by
                  have hkl : k < L.length := by have := HN0.out; omega
                  rw [List.drop_eq_getElem_cons hkl, ← HZ.out, List.getD_eq_getElem?_getD, List.getElem?_eq_getElem hkl]
                  rfl
                have hr := HR4.out
                rw [hdrop] at hr
                simp only [List.headD_cons, List.tail_cons] at hr
                have hmz : MkR z := hmk z (List.mem_of_mem_drop (by rw [hdrop]; exact List.mem_cons_self ..))
                have HMZ := Lib.hid hmz
                have HR5 := Lib.hid hr
                have hm9 : (m : Int) ≤ 3 := by have := HM2.out; omega
                have HON := Lib.hid hon
                clear hmk hdrop hr hmz HR4 hon
                have hs9 := HSS.out
                have HS9 := Lib.hid (hs9.of_eq (show _ = mapH kE2 vI bm n kn * ((rowI (.slice (some ⟨g9, 0, none⟩) n0 cap) L * (pts b9 (Stp.boxv ⟨s1, s2, s3, s4⟩) * (pts bf (F.pbox ⟨.slice ca F.chars.length cc, .slice sa F.steps.length sc, .slice ka F.kerns.length kc, .slice pa F.pieces.length pc, .slice ra F.params.length rc⟩) * A))) * own W) by ac_rfl))
                clear hs9 HSS
                go_wp2_with fail
                go_loopg [16, 88] m (fun gg s16 s88 wx => ∃ (j : Nat) (kn' : KM) (n' : Nat) (z : Int), j ≤ m ∧ gg = m - j ∧ s88 = .int .i64 j ∧ s16 = .int .i64 z ∧ MkR z ∧ KOk kn' ∧ unk kn' < g ∧ pairGo (followM F g) kn' z (L.drop (k + 1 + j)) = r ∧ Sat W (mapH kE2 vI bm n' kn' * ((rowI (.slice (some ⟨g9, 0, none⟩) n0 cap) L * (pts b9 (Stp.boxv ⟨s1, s2, s3, s4⟩) * (pts bf (F.pbox ⟨.slice ca F.chars.length cc, .slice sa F.steps.length sc, .slice ka F.kerns.length kc, .slice pa F.pieces.length pc, .slice ra F.params.length rc⟩) * A))) * own W)) wx)
                case atStart => exact ⟨0, kn, n, z, Nat.zero_le _, rfl, rfl, rfl, HMZ.out, HK.out, HU.out, HR5.out, HS9.out⟩
                case round =>
                  clear HZ HR5 HMZ HS9 HCE lg HK HU
                  obtain ⟨j, kn', n', z, hj, hg, rfl, rfl, hmz, hk', hu', hr, hs⟩ := hrel
                  have HS := Lib.hid hs
                  have HR := Lib.hid hr
                  have HMZ := Lib.hid hmz
                  have HK := Lib.hid hk'
                  have HU := Lib.hid hu'
                  have HG := Lib.hid hg
                  clear hs hr hmz hk' hu' hg
                  by_cases hjm : j < m
                  · have hji : (j : Int) < m := by omega
                    have hom := HON.out (by omega)
                    subst hom
                    have hjl : k + 1 + j < L.length := by have := HM2.out; have := HN0.out; omega
                    have hs1 := HS.out.of_eq (show _ = rowI (.slice (some ⟨g9, 0, none⟩) n0 cap) L * (mapH kE2 vI bm n' kn' * (pts b9 (Stp.boxv ⟨s1, s2, s3, s4⟩) * (pts bf (F.pbox ⟨.slice ca F.chars.length cc, .slice sa F.steps.length sc, .slice ka F.kerns.length kc, .slice pa F.pieces.length pc, .slice ra F.params.length rc⟩) * (A * own W)))) by ac_rfl)
                    obtain ⟨g', cap', hv', -, -, lg, hcell⟩ := rowI_val hs1 (by omega)
                    simp only [Value.slice.injEq, Option.some.injEq, Addr.mk.injEq, and_true] at hv'
                    obtain ⟨rfl, -, rfl⟩ := hv'
                    have c0 := hcell (k + 1 + j) hjl
                    have HB := Lib.hid (BoxP.of (hs1.of_eq (show _ = pts bf (F.pbox ⟨.slice ca F.chars.length cc, .slice sa F.steps.length sc, .slice ka F.kerns.length kc, .slice pa F.pieces.length pc, .slice ra F.params.length rc⟩) * (rowI (.slice (some ⟨g9, 0, none⟩) n0 cap) L * (mapH kE2 vI bm n' kn' * (pts b9 (Stp.boxv ⟨s1, s2, s3, s4⟩) * (A * own W)))) by ac_rfl)))
                    have b0 := HB.out.c0
                    have b1 := HB.out.c1
                    have b2 := HB.out.c2
                    have b3 := HB.out.c3
                    have b4 := HB.out.c4
                    have b5 := HB.out.c5
                    have b6 := HB.out.c6
                    have b7 := HB.out.c7
                    have b8 := HB.out.c8
                    have lq := HB.out.lt
                    have hmy : MkR (L[k + 1 + j]) := HMK4.out _ (List.getElem_mem hjl)
                    have hdr : L.drop (k + 1 + j) = L[k + 1 + j] :: L.drop (k + 1 + (j + 1)) := List.drop_eq_getElem_cons hjl
                    obtain ⟨y, hy⟩ : ∃ y, L[k + 1 + j] = y := ⟨_, rfl⟩
                    rw [hy] at c0 hmy hdr
                    have hr := HR.out
                    rw [hdr, pairGo] at hr
                    have HF := Lib.hid (HIH.out _ n' kn' z y wr HK.out HMZ.out hmy HU.out HS.out)
                    obtain ⟨hok1, hok2, hok3⟩ := followM_ok F g kn' z y HK.out HMZ.out hmy HU.out
                    have HSU := Lib.hid (Nat.lt_of_le_of_lt hok1.unk HU.out)
                    obtain ⟨⟨z2, kn2⟩, hfm⟩ : ∃ p, followM F g kn' z y = p := ⟨_, rfl⟩
                    rw [hfm] at HF hok2 hok3 hr HSU
                    simp only at hok2 hok3 hr HSU
                    have HOK2 := Lib.hid hok2
                    have HOK3 := Lib.hid hok3
                    have HR6 := Lib.hid hr
                    clear hok1 hok2 hok3 hr hfm hy hdr hmy hs1 hcell HB HR HS HK HU hjl
                    go_wp2_with fail
                    with_reducible refine Calls.mono HF.out ?_
                    rintro e w6 ⟨rfl, n6, hs6⟩
                    have HS6 := Lib.hid hs6
                    clear hs6 HF c0 lg b0 b1 b2 b3 b4 b5 b6 b7 b8 lq
                    by_cases z3 : z2 = -3
                    · subst z3
                      have hr := HR6.out
                      rw [if_pos rfl] at hr
                      subst hr
                      go_wp2
                      go_ret
                      exact ⟨rfl, n6, by exact (HS6.out.of_eq (show _ = rowI (.slice (some ⟨g9, 0, none⟩) n0 cap) L * (pts b9 (Stp.boxv ⟨s1, s2, s3, s4⟩) * (pts bf (F.pbox ⟨.slice ca F.chars.length cc, .slice sa F.steps.length sc, .slice ka F.kerns.length kc, .slice pa F.pieces.length pc, .slice ra F.params.length rc⟩) * (mapH kE2 vI bm n6 kn2 * (A * own W)))) by ac_rfl)).r.r.r⟩
                    · have hr := HR6.out
                      rw [if_neg z3] at hr
                      have HR7 := Lib.hid hr
                      clear hr HR6
                      have HZ3 := Lib.hid (HOK3.out.resolve_left z3)
                      go_wp2
                      go_roundg (m - (j + 1))
                      case measure => have := HG.out; omega
                      case rel => exact ⟨j + 1, kn2, n6, z2, by omega, rfl, by go_num, rfl, HZ3.out, HOK2.out, HSU.out, HR7.out, HS6.out⟩
                  · obtain rfl : j = m := by omega
                    have hr := HR.out
                    rw [List.drop_eq_nil_of_le (by have := HM2.out; have := HN0.out; omega), pairGo] at hr
                    subst hr
                    clear hjm
                    go_wp2
                    go_ret
                    exact ⟨rfl, n', by exact (HS.out.of_eq (show _ = rowI (.slice (some ⟨g9, 0, none⟩) n0 cap) L * (pts b9 (Stp.boxv ⟨s1, s2, s3, s4⟩) * (pts bf (F.pbox ⟨.slice ca F.chars.length cc, .slice sa F.steps.length sc, .slice ka F.kerns.length kc, .slice pa F.pieces.length pc, .slice ra F.params.length rc⟩) * (mapH kE2 vI bm n' kn' * (A * own W)))) by ac_rfl)).r.r.r⟩
              | succ p =>
                have hmp : 0 < m := by have := HM2.out; have := HKP.out; omega
                obtain rfl := hon hmp
                have hkn : k + 1 < L.length := by have := HM2.out; have := HN0.out; omega
                have c0 := HCE.out (k + 1) hkn
                have hz2 : L[k + 1] = L.getD (k + 1) 0 := by rw [List.getD_eq_getElem?_getD, List.getElem?_eq_getElem hkn]; rfl
                obtain ⟨z2, hz3⟩ : ∃ z2, L[k + 1] = z2 := ⟨_, rfl⟩
                rw [hz3] at c0 hz2
                have HZ2' := Lib.hid hz2
                have hmi : (0 : Int) < m := by omega
                have hpi : (0 : Int) < ((p + 1 : Nat) : Int) := by omega
                have hmq : m ≤ q := by have := HM2.out; have := HQ2.out; omega
                have hq9 : q ≤ 9223372036854775807 := by have := HQ2.out; simp only [maxLen] at hcm; omega
                have HMQ := Lib.hid hmq
                have hpb : (p : Int) ≤ 9 := by have := HKP.out; omega
                clear hz3 hz2 hkp hm1 hq1 hmp hkn
                by_cases hq1 : q = 1
                · subst hq1
                  obtain rfl : m = 1 := by omega
                  go_wp2
                  go_roundg p
                  case measure => omega
                  case rel => exact ⟨p, k + 1, k + 1, 0, 0, rfl, by first | rfl | go_num, by have := HKP.out; omega, ⟨z2, rfl, HZ2'.out.symm⟩, rfl, by have := HM2.out; omega, by have := HQ2.out; omega, fun h => by have := HMQ.out; omega, rfl⟩
                · have hq2 : (q = 1) = False := by simp [hq1]
                  go_wp2
                  go_roundg p
                  case measure => omega
                  case rel => exact ⟨p, k + 1, k + 1 + 1, m - 1, q - 1, rfl, by first | rfl | go_num, by have := HKP.out; omega, ⟨z2, rfl, HZ2'.out.symm⟩, rfl, by have := HM2.out; omega, by have := HQ2.out; omega, fun h => rfl, rfl⟩
      · rcases hlc with rfl | rfl
        · simp only [Nat.zero_ne_one, if_false, if_true, List.cons_append, List.nil_append] at HR3 HMK
          go_wp2_with (at_builtin; refine wpList_append_sep rfl _ _ 25 rfl i0 _ 8 Try.underlying25 HI.out HZ0.out HZ1.out HZ2.out rfl rfl HS6.out.allocD ⟨_, 0, none⟩ 1 1 [.int .i64 (a)] rfl rfl (new_cells _ _ _) (by simp [Value.oneCell']) (by simp [maxLen]) (by simp) ?_)
          intro v' w7 h7
          have HS7 := Lib.hid (rowI_snoc (L := []) h7 rfl)
          clear h7 HS6
          go_wp2_with (at_builtin; refine wpList_append_sep rfl _ _ 25 rfl i0 _ 8 Try.underlying25 HI.out HZ0.out HZ1.out HZ2.out rfl rfl HS7.out.allocD ⟨_, 0, none⟩ 1 1 [.int .i64 ((s4.toNat : Int))] rfl rfl (new_cells _ _ _) (by simp [Value.oneCell']) (by simp [maxLen]) (by simp) ?_)
          intro v' w8 h7
          have HS8 := Lib.hid (rowI_snoc (L := [] ++ [a]) h7 rfl)
          clear h7 HS7
          go_upto_region 13 with fail
          obtain ⟨L, hL⟩ : ∃ L : List Int, ([a, (s4.toNat : Int)]) = L := ⟨_, rfl⟩
          have hlen : pp < L.length := by rw [← hL]; simp only [List.length_cons, List.length_nil]; omega
          have hsm : L.length ≤ 3 := by rw [← hL]; simp
          have hs := HS8.out.of_eq (show rowI v' _ * _ = rowI v' ([a, (s4.toNat : Int)]) * _ from rfl)
          have hr := HR3.out
          have hmk := HMK.out
          rw [hL] at hs hr hmk
          have HSR := Lib.hid hs
          have HR4 := Lib.hid hr
          have HMK4 := Lib.hid hmk
          obtain ⟨g9, cap, hv, hlc2, hcm, lg, hcell⟩ := rowI_val hs (by omega)
          subst hv
          have HCE := Lib.hid hcell
          clear hL hs hr hmk HS8 HR3 HMK hcell
          have hl00 : 0 < L.length := by omega
          have c0 := HCE.out 0 hl00
          have hl0 : (0 : Int) < L.length := by omega
          have hl1 : ((L.length : Int) - 1).toNat = L.length - 1 := by omega
          have hcap0 : L.length ≤ 9223372036854775807 := by clear hcm; omega
          have HP0 := Lib.hid (show L[0]'hl00 = L.getD 0 0 by rw [List.getD_eq_getElem?_getD, List.getElem?_eq_getElem hl00]; rfl)
          rw [HP0.out] at c0
          obtain ⟨z9, hz9⟩ : ∃ z9, L.getD 0 0 = z9 := ⟨_, rfl⟩
          rw [hz9] at c0
          have HZ9 := Lib.hid hz9
          clear hz9
          obtain ⟨m0, hm0⟩ : ∃ m0, L.length - 1 = m0 := ⟨_, rfl⟩
          obtain ⟨n0, hn0⟩ : ∃ n0, L.length = n0 := ⟨_, rfl⟩
          have HM0 := Lib.hid hm0
          have HN0 := Lib.hid hn0
          rw [hn0] at hm0 hlen hsm hlc2 hl0 hl1 hcap0
          clear HP0 hl00
          go_upto_region 14 with fail
          have hs := HSR.out
          rw [HN0.out] at hs
          have HSR := Lib.hid hs
          clear hs
          rw [HN0.out]
          go_cut [15] from 75 to 76 (fun s15 wx => ∃ (o m q : Nat), s15 = .slice (some ⟨g9, o, none⟩) m q ∧ m + 1 = n0 ∧ q + 1 = cap ∧ (0 < m → o = 1) ∧ Sat W (rowI (.slice (some ⟨g9, 0, none⟩) n0 cap) L * (pts b9 (Stp.boxv ⟨s1, s2, s3, s4⟩) * (pts bf (F.pbox ⟨.slice ca F.chars.length cc, .slice sa F.steps.length sc, .slice ka F.kerns.length kc, .slice pa F.pieces.length pc, .slice ra F.params.length rc⟩) * (mapH kE2 vI bm n kn * (A * own W))))) wx)
          case first =>
            by_cases hc1 : cap = 1
            · subst hc1
              go_wp2
              go_meet
              exact ⟨0, m0, 0, rfl, by omega, rfl, fun h => by omega, HSR.out⟩
            · have hc2 : (cap = 1) = False := by simp [hc1]
              go_wp2
              go_meet
              exact ⟨1, m0, cap - 1, rfl, by omega, by omega, fun _ => rfl, HSR.out⟩
          case rest =>
            obtain ⟨o, m, q, rfl, hm1, hq1, ho, hs⟩ := hcut
            have HSS := Lib.hid hs
            obtain ⟨g', cap', hv', -, -, lg, hcell⟩ := rowI_val hs (by omega)
            simp only [Value.slice.injEq, Option.some.injEq, Addr.mk.injEq, and_true] at hv'
            obtain ⟨rfl, -, rfl⟩ := hv'
            clear HCE
            have HCE := Lib.hid hcell
            clear hs HSR c0 hl0 hl1 hm0 hcell
            have HO := Lib.hid ho
            have HM1 := Lib.hid hm1
            have HQ1 := Lib.hid hq1
            clear ho hm1 hq1
            go_wp2_with fail
            go_loopg [14, 15, 16] pp (fun gg s14 s15 s16 wx => ∃ (p k o m q : Nat), gg = p ∧ s14 = .int .i64 p ∧ k + p = pp ∧ (∃ z, s16 = .int .i64 z ∧ L.getD k 0 = z) ∧ s15 = .slice (some ⟨g9, o, none⟩) m q ∧ m + (k + 1) = n0 ∧ q + (k + 1) = cap ∧ (0 < m → o = k + 1) ∧ wx = wc)
            case atStart => exact ⟨pp, 0, o, m, q, rfl, rfl, by omega, ⟨z9, rfl, HZ9.out⟩, rfl, HM1.out, HQ1.out, HO.out, rfl⟩
            case round =>
              obtain ⟨p, k, o, m, q, hg, rfl, hkp, ⟨z, rfl, hz⟩, rfl, hm1, hq1, ho, rfl⟩ := hrel
              subst hg
              have HZ := Lib.hid hz
              have HKP := Lib.hid hkp
              have HM2 := Lib.hid hm1
              have HQ2 := Lib.hid hq1
              have hon : 0 < m → o = k + 1 := ho
              clear hz ho
              cases gk with
              | zero =>
                obtain rfl : k = pp := by omega
                clear hkp hm1 hq1
                have hmk := HMK4.out
                have hdrop : L.drop k = z :: L.drop (k + 1) := by
                  have hkl : k < L.length := by have := HN0.out; omega
                  rw [List.drop_eq_getElem_cons hkl, ← HZ.out, List.getD_eq_getElem?_getD, List.getElem?_eq_getElem hkl]
                  rfl
                have hr := HR4.out
                rw [hdrop] at hr
                simp only [List.headD_cons, List.tail_cons] at hr
                have hmz : MkR z := hmk z (List.mem_of_mem_drop (by rw [hdrop]; exact List.mem_cons_self ..))
                have HMZ := Lib.hid hmz
                have HR5 := Lib.hid hr
                have hm9 : (m : Int) ≤ 3 := by have := HM2.out; omega
                have HON := Lib.hid hon
                clear hmk hdrop hr hmz HR4 hon
                have hs9 := HSS.out
                have HS9 := Lib.hid (hs9.of_eq (show _ = mapH kE2 vI bm n kn * ((rowI (.slice (some ⟨g9, 0, none⟩) n0 cap) L * (pts b9 (Stp.boxv ⟨s1, s2, s3, s4⟩) * (pts bf (F.pbox ⟨.slice ca F.chars.length cc, .slice sa F.steps.length sc, .slice ka F.kerns.length kc, .slice pa F.pieces.length pc, .slice ra F.params.length rc⟩) * A))) * own W) by ac_rfl))
                clear hs9 HSS
                go_wp2_with fail
                go_loopg [16, 88] m (fun gg s16 s88 wx => ∃ (j : Nat) (kn' : KM) (n' : Nat) (z : Int), j ≤ m ∧ gg = m - j ∧ s88 = .int .i64 j ∧ s16 = .int .i64 z ∧ MkR z ∧ KOk kn' ∧ unk kn' < g ∧ pairGo (followM F g) kn' z (L.drop (k + 1 + j)) = r ∧ Sat W (mapH kE2 vI bm n' kn' * ((rowI (.slice (some ⟨g9, 0, none⟩) n0 cap) L * (pts b9 (Stp.boxv ⟨s1, s2, s3, s4⟩) * (pts bf (F.pbox ⟨.slice ca F.chars.length cc, .slice sa F.steps.length sc, .slice ka F.kerns.length kc, .slice pa F.pieces.length pc, .slice ra F.params.length rc⟩) * A))) * own W)) wx)
                case atStart => exact ⟨0, kn, n, z, Nat.zero_le _, rfl, rfl, rfl, HMZ.out, HK.out, HU.out, HR5.out, HS9.out⟩
                case round =>
                  clear HZ HR5 HMZ HS9 HCE lg HK HU
                  obtain ⟨j, kn', n', z, hj, hg, rfl, rfl, hmz, hk', hu', hr, hs⟩ := hrel
                  have HS := Lib.hid hs
                  have HR := Lib.hid hr
                  have HMZ := Lib.hid hmz
                  have HK := Lib.hid hk'
                  have HU := Lib.hid hu'
                  have HG := Lib.hid hg
                  clear hs hr hmz hk' hu' hg
                  by_cases hjm : j < m
                  · have hji : (j : Int) < m := by omega
                    have hom := HON.out (by omega)
                    subst hom
                    have hjl : k + 1 + j < L.length := by have := HM2.out; have := HN0.out; omega
                    have hs1 := HS.out.of_eq (show _ = rowI (.slice (some ⟨g9, 0, none⟩) n0 cap) L * (mapH kE2 vI bm n' kn' * (pts b9 (Stp.boxv ⟨s1, s2, s3, s4⟩) * (pts bf (F.pbox ⟨.slice ca F.chars.length cc, .slice sa F.steps.length sc, .slice ka F.kerns.length kc, .slice pa F.pieces.length pc, .slice ra F.params.length rc⟩) * (A * own W)))) by ac_rfl)
                    obtain ⟨g', cap', hv', -, -, lg, hcell⟩ := rowI_val hs1 (by omega)
                    simp only [Value.slice.injEq, Option.some.injEq, Addr.mk.injEq, and_true] at hv'
                    obtain ⟨rfl, -, rfl⟩ := hv'
                    have c0 := hcell (k + 1 + j) hjl
                    have HB := Lib.hid (BoxP.of (hs1.of_eq (show _ = pts bf (F.pbox ⟨.slice ca F.chars.length cc, .slice sa F.steps.length sc, .slice ka F.kerns.length kc, .slice pa F.pieces.length pc, .slice ra F.params.length rc⟩) * (rowI (.slice (some ⟨g9, 0, none⟩) n0 cap) L * (mapH kE2 vI bm n' kn' * (pts b9 (Stp.boxv ⟨s1, s2, s3, s4⟩) * (A * own W)))) by ac_rfl)))
                    have b0 := HB.out.c0
                    have b1 := HB.out.c1
                    have b2 := HB.out.c2
                    have b3 := HB.out.c3
                    have b4 := HB.out.c4
                    have b5 := HB.out.c5
                    have b6 := HB.out.c6
                    have b7 := HB.out.c7
                    have b8 := HB.out.c8
                    have lq := HB.out.lt
                    have hmy : MkR (L[k + 1 + j]) := HMK4.out _ (List.getElem_mem hjl)
                    have hdr : L.drop (k + 1 + j) = L[k + 1 + j] :: L.drop (k + 1 + (j + 1)) := List.drop_eq_getElem_cons hjl
                    obtain ⟨y, hy⟩ : ∃ y, L[k + 1 + j] = y := ⟨_, rfl⟩
                    rw [hy] at c0 hmy hdr
                    have hr := HR.out
                    rw [hdr, pairGo] at hr
                    have HF := Lib.hid (HIH.out _ n' kn' z y wr HK.out HMZ.out hmy HU.out HS.out)
                    obtain ⟨hok1, hok2, hok3⟩ := followM_ok F g kn' z y HK.out HMZ.out hmy HU.out
                    have HSU := Lib.hid (Nat.lt_of_le_of_lt hok1.unk HU.out)
                    obtain ⟨⟨z2, kn2⟩, hfm⟩ : ∃ p, followM F g kn' z y = p := ⟨_, rfl⟩
                    rw [hfm] at HF hok2 hok3 hr HSU
                    simp only at hok2 hok3 hr HSU
                    have HOK2 := Lib.hid hok2
                    have HOK3 := Lib.hid hok3
                    have HR6 := Lib.hid hr
                    clear hok1 hok2 hok3 hr hfm hy hdr hmy hs1 hcell HB HR HS HK HU hjl
                    go_wp2_with fail
                    with_reducible refine Calls.mono HF.out ?_
                    rintro e w6 ⟨rfl, n6, hs6⟩
                    have HS6 := Lib.hid hs6
                    clear hs6 HF c0 lg b0 b1 b2 b3 b4 b5 b6 b7 b8 lq
                    by_cases z3 : z2 = -3
                    · subst z3
                      have hr := HR6.out
                      rw [if_pos rfl] at hr
                      subst hr
                      go_wp2
                      go_ret
                      exact ⟨rfl, n6, by exact (HS6.out.of_eq (show _ = rowI (.slice (some ⟨g9, 0, none⟩) n0 cap) L * (pts b9 (Stp.boxv ⟨s1, s2, s3, s4⟩) * (pts bf (F.pbox ⟨.slice ca F.chars.length cc, .slice sa F.steps.length sc, .slice ka F.kerns.length kc, .slice pa F.pieces.length pc, .slice ra F.params.length rc⟩) * (mapH kE2 vI bm n6 kn2 * (A * own W)))) by ac_rfl)).r.r.r⟩
                    · have hr := HR6.out
                      rw [if_neg z3] at hr
                      have HR7 := Lib.hid hr
                      clear hr HR6
                      have HZ3 := Lib.hid (HOK3.out.resolve_left z3)
                      go_wp2
                      go_roundg (m - (j + 1))
                      case measure => have := HG.out; omega
                      case rel => exact ⟨j + 1, kn2, n6, z2, by omega, rfl, by go_num, rfl, HZ3.out, HOK2.out, HSU.out, HR7.out, HS6.out⟩
                  · obtain rfl : j = m := by omega
                    have hr := HR.out
                    rw [List.drop_eq_nil_of_le (by have := HM2.out; have := HN0.out; omega), pairGo] at hr
                    subst hr
                    clear hjm
                    go_wp2
                    go_ret
                    exact ⟨rfl, n', by exact (HS.out.of_eq (show _ = rowI (.slice (some ⟨g9, 0, none⟩) n0 cap) L * (pts b9 (Stp.boxv ⟨s1, s2, s3, s4⟩) * (pts bf (F.pbox ⟨.slice ca F.chars.length cc, .slice sa F.steps.length sc, .slice ka F.kerns.length kc, .slice pa F.pieces.length pc, .slice ra F.params.length rc⟩) * (mapH kE2 vI bm n' kn' * (A * own W)))) by ac_rfl)).r.r.r⟩
              | succ p =>
                have hmp : 0 < m := by have := HM2.out; have := HKP.out; omega
                obtain rfl := hon hmp
                have hkn : k + 1 < L.length := by have := HM2.out; have := HN0.out; omega
                have c0 := HCE.out (k + 1) hkn
                have hz2 : L[k + 1] = L.getD (k + 1) 0 := by rw [List.getD_eq_getElem?_getD, List.getElem?_eq_getElem hkn]; rfl
                obtain ⟨z2, hz3⟩ : ∃ z2, L[k + 1] = z2 := ⟨_, rfl⟩
                rw [hz3] at c0 hz2
                have HZ2' := Lib.hid hz2
                have hmi : (0 : Int) < m := by omega
                have hpi : (0 : Int) < ((p + 1 : Nat) : Int) := by omega
                have hmq : m ≤ q := by have := HM2.out; have := HQ2.out; omega
                have hq9 : q ≤ 9223372036854775807 := by have := HQ2.out; simp only [maxLen] at hcm; omega
                have HMQ := Lib.hid hmq
                have hpb : (p : Int) ≤ 9 := by have := HKP.out; omega
                clear hz3 hz2 hkp hm1 hq1 hmp hkn
                by_cases hq1 : q = 1
                · subst hq1
                  obtain rfl : m = 1 := by omega
                  go_wp2
                  go_roundg p
                  case measure => omega
                  case rel => exact ⟨p, k + 1, k + 1, 0, 0, rfl, by first | rfl | go_num, by have := HKP.out; omega, ⟨z2, rfl, HZ2'.out.symm⟩, rfl, by have := HM2.out; omega, by have := HQ2.out; omega, fun h => by have := HMQ.out; omega, rfl⟩
                · have hq2 : (q = 1) = False := by simp [hq1]
                  go_wp2
                  go_roundg p
                  case measure => omega
                  case rel => exact ⟨p, k + 1, k + 1 + 1, m - 1, q - 1, rfl, by first | rfl | go_num, by have := HKP.out; omega, ⟨z2, rfl, HZ2'.out.symm⟩, rfl, by have := HM2.out; omega, by have := HQ2.out; omega, fun h => rfl, rfl⟩
        · simp only [if_true, List.cons_append, List.nil_append] at HR3 HMK
          go_wp2_with (at_builtin; refine wpList_append_sep rfl _ _ 25 rfl i0 _ 8 Try.underlying25 HI.out HZ0.out HZ1.out HZ2.out rfl rfl HS6.out.allocD ⟨_, 0, none⟩ 1 1 [.int .i64 (a)] rfl rfl (new_cells _ _ _) (by simp [Value.oneCell']) (by simp [maxLen]) (by simp) ?_)
          intro v' w7 h7
          have HS7 := Lib.hid (rowI_snoc (L := []) h7 rfl)
          clear h7 HS6
          go_wp2_with (at_builtin; refine wpList_append_sep rfl _ _ 25 rfl i0 _ 8 Try.underlying25 HI.out HZ0.out HZ1.out HZ2.out rfl rfl HS7.out.allocD ⟨_, 0, none⟩ 1 1 [.int .i64 ((s4.toNat : Int))] rfl rfl (new_cells _ _ _) (by simp [Value.oneCell']) (by simp [maxLen]) (by simp) ?_)
          intro v' w8 h7
          have HS8 := Lib.hid (rowI_snoc (L := [] ++ [a]) h7 rfl)
          clear h7 HS7
          go_wp2_with (at_builtin; refine wpList_append_sep rfl _ _ 25 rfl i0 _ 8 Try.underlying25 HI.out HZ0.out HZ1.out HZ2.out rfl rfl HS8.out.allocD ⟨_, 0, none⟩ 1 1 [.int .i64 (c)] rfl rfl (new_cells _ _ _) (by simp [Value.oneCell']) (by simp [maxLen]) (by simp) ?_)
          intro v' w9 h7
          have HS9 := Lib.hid (rowI_snoc (L := [] ++ [a] ++ [(s4.toNat : Int)]) h7 rfl)
          clear h7 HS8
          go_upto_region 13 with fail
          obtain ⟨L, hL⟩ : ∃ L : List Int, ([a, (s4.toNat : Int), c]) = L := ⟨_, rfl⟩
          have hlen : pp < L.length := by rw [← hL]; simp only [List.length_cons, List.length_nil]; omega
          have hsm : L.length ≤ 3 := by rw [← hL]; simp
          have hs := HS9.out.of_eq (show rowI v' _ * _ = rowI v' ([a, (s4.toNat : Int), c]) * _ from rfl)
          have hr := HR3.out
          have hmk := HMK.out
          rw [hL] at hs hr hmk
          have HSR := Lib.hid hs
          have HR4 := Lib.hid hr
          have HMK4 := Lib.hid hmk
          obtain ⟨g9, cap, hv, hlc2, hcm, lg, hcell⟩ := rowI_val hs (by omega)
          subst hv
          have HCE := Lib.hid hcell
          clear hL hs hr hmk HS9 HR3 HMK hcell
          have hl00 : 0 < L.length := by omega
          have c0 := HCE.out 0 hl00
          have hl0 : (0 : Int) < L.length := by omega
          have hl1 : ((L.length : Int) - 1).toNat = L.length - 1 := by omega
          have hcap0 : L.length ≤ 9223372036854775807 := by clear hcm; omega
          have HP0 := Lib.hid (show L[0]'hl00 = L.getD 0 0 by rw [List.getD_eq_getElem?_getD, List.getElem?_eq_getElem hl00]; rfl)
          rw [HP0.out] at c0
          obtain ⟨z9, hz9⟩ : ∃ z9, L.getD 0 0 = z9 := ⟨_, rfl⟩
          rw [hz9] at c0
          have HZ9 := Lib.hid hz9
          clear hz9
          obtain ⟨m0, hm0⟩ : ∃ m0, L.length - 1 = m0 := ⟨_, rfl⟩
          obtain ⟨n0, hn0⟩ : ∃ n0, L.length = n0 := ⟨_, rfl⟩
          have HM0 := Lib.hid hm0
          have HN0 := Lib.hid hn0
          rw [hn0] at hm0 hlen hsm hlc2 hl0 hl1 hcap0
          clear HP0 hl00
          go_upto_region 14 with fail
          have hs := HSR.out
          rw [HN0.out] at hs
          have HSR := Lib.hid hs
          clear hs
          rw [HN0.out]
          go_cut [15] from 75 to 76 (fun s15 wx => ∃ (o m q : Nat), s15 = .slice (some ⟨g9, o, none⟩) m q ∧ m + 1 = n0 ∧ q + 1 = cap ∧ (0 < m → o = 1) ∧ Sat W (rowI (.slice (some ⟨g9, 0, none⟩) n0 cap) L * (pts b9 (Stp.boxv ⟨s1, s2, s3, s4⟩) * (pts bf (F.pbox ⟨.slice ca F.chars.length cc, .slice sa F.steps.length sc, .slice ka F.kerns.length kc, .slice pa F.pieces.length pc, .slice ra F.params.length rc⟩) * (mapH kE2 vI bm n kn * (A * own W))))) wx)
          case first =>
            by_cases hc1 : cap = 1
            · subst hc1
              go_wp2
              go_meet
              exact ⟨0, m0, 0, rfl, by omega, rfl, fun h => by omega, HSR.out⟩
            · have hc2 : (cap = 1) = False := by simp [hc1]
              go_wp2
              go_meet
              exact ⟨1, m0, cap - 1, rfl, by omega, by omega, fun _ => rfl, HSR.out⟩
          case rest =>
            obtain ⟨o, m, q, rfl, hm1, hq1, ho, hs⟩ := hcut
            have HSS := Lib.hid hs
            obtain ⟨g', cap', hv', -, -, lg, hcell⟩ := rowI_val hs (by omega)
            simp only [Value.slice.injEq, Option.some.injEq, Addr.mk.injEq, and_true] at hv'
            obtain ⟨rfl, -, rfl⟩ := hv'
            clear HCE
            have HCE := Lib.hid hcell
            clear hs HSR c0 hl0 hl1 hm0 hcell
            have HO := Lib.hid ho
            have HM1 := Lib.hid hm1
            have HQ1 := Lib.hid hq1
            clear ho hm1 hq1
            go_wp2_with fail
            go_loopg [14, 15, 16] pp (fun gg s14 s15 s16 wx => ∃ (p k o m q : Nat), gg = p ∧ s14 = .int .i64 p ∧ k + p = pp ∧ (∃ z, s16 = .int .i64 z ∧ L.getD k 0 = z) ∧ s15 = .slice (some ⟨g9, o, none⟩) m q ∧ m + (k + 1) = n0 ∧ q + (k + 1) = cap ∧ (0 < m → o = k + 1) ∧ wx = wc)
            case atStart => exact ⟨pp, 0, o, m, q, rfl, rfl, by omega, ⟨z9, rfl, HZ9.out⟩, rfl, HM1.out, HQ1.out, HO.out, rfl⟩
            case round =>
              obtain ⟨p, k, o, m, q, hg, rfl, hkp, ⟨z, rfl, hz⟩, rfl, hm1, hq1, ho, rfl⟩ := hrel
              subst hg
              have HZ := Lib.hid hz
              have HKP := Lib.hid hkp
              have HM2 := Lib.hid hm1
              have HQ2 := Lib.hid hq1
              have hon : 0 < m → o = k + 1 := ho
              clear hz ho
              cases gk with
              | zero =>
                obtain rfl : k = pp := by omega
                clear hkp hm1 hq1
                have hmk := HMK4.out
                have hdrop : L.drop k = z :: L.drop (k + 1) := by
                  have hkl : k < L.length := by have := HN0.out; omega
                  rw [List.drop_eq_getElem_cons hkl, ← HZ.out, List.getD_eq_getElem?_getD, List.getElem?_eq_getElem hkl]
                  rfl
                have hr := HR4.out
                rw [hdrop] at hr
                simp only [List.headD_cons, List.tail_cons] at hr
                have hmz : MkR z := hmk z (List.mem_of_mem_drop (by rw [hdrop]; exact List.mem_cons_self ..))
                have HMZ := Lib.hid hmz
                have HR5 := Lib.hid hr
                have hm9 : (m : Int) ≤ 3 := by have := HM2.out; omega
                have HON := Lib.hid hon
                clear hmk hdrop hr hmz HR4 hon
                have hs9 := HSS.out
                have HS9 := Lib.hid (hs9.of_eq (show _ = mapH kE2 vI bm n kn * ((rowI (.slice (some ⟨g9, 0, none⟩) n0 cap) L * (pts b9 (Stp.boxv ⟨s1, s2, s3, s4⟩) * (pts bf (F.pbox ⟨.slice ca F.chars.length cc, .slice sa F.steps.length sc, .slice ka F.kerns.length kc, .slice pa F.pieces.length pc, .slice ra F.params.length rc⟩) * A))) * own W) by ac_rfl))
                clear hs9 HSS
                go_wp2_with fail
                go_loopg [16, 88] m (fun gg s16 s88 wx => ∃ (j : Nat) (kn' : KM) (n' : Nat) (z : Int), j ≤ m ∧ gg = m - j ∧ s88 = .int .i64 j ∧ s16 = .int .i64 z ∧ MkR z ∧ KOk kn' ∧ unk kn' < g ∧ pairGo (followM F g) kn' z (L.drop (k + 1 + j)) = r ∧ Sat W (mapH kE2 vI bm n' kn' * ((rowI (.slice (some ⟨g9, 0, none⟩) n0 cap) L * (pts b9 (Stp.boxv ⟨s1, s2, s3, s4⟩) * (pts bf (F.pbox ⟨.slice ca F.chars.length cc, .slice sa F.steps.length sc, .slice ka F.kerns.length kc, .slice pa F.pieces.length pc, .slice ra F.params.length rc⟩) * A))) * own W)) wx)
                case atStart => exact ⟨0, kn, n, z, Nat.zero_le _, rfl, rfl, rfl, HMZ.out, HK.out, HU.out, HR5.out, HS9.out⟩
                case round =>
                  clear HZ HR5 HMZ HS9 HCE lg HK HU
                  obtain ⟨j, kn', n', z, hj, hg, rfl, rfl, hmz, hk', hu', hr, hs⟩ := hrel
                  have HS := Lib.hid hs
                  have HR := Lib.hid hr
                  have HMZ := Lib.hid hmz
                  have HK := Lib.hid hk'
                  have HU := Lib.hid hu'
                  have HG := Lib.hid hg
                  clear hs hr hmz hk' hu' hg
                  by_cases hjm : j < m
                  · have hji : (j : Int) < m := by omega
                    have hom := HON.out (by omega)
                    subst hom
                    have hjl : k + 1 + j < L.length := by have := HM2.out; have := HN0.out; omega
                    have hs1 := HS.out.of_eq (show _ = rowI (.slice (some ⟨g9, 0, none⟩) n0 cap) L * (mapH kE2 vI bm n' kn' * (pts b9 (Stp.boxv ⟨s1, s2, s3, s4⟩) * (pts bf (F.pbox ⟨.slice ca F.chars.length cc, .slice sa F.steps.length sc, .slice ka F.kerns.length kc, .slice pa F.pieces.length pc, .slice ra F.params.length rc⟩) * (A * own W)))) by ac_rfl)
                    obtain ⟨g', cap', hv', -, -, lg, hcell⟩ := rowI_val hs1 (by omega)
                    simp only [Value.slice.injEq, Option.some.injEq, Addr.mk.injEq, and_true] at hv'
                    obtain ⟨rfl, -, rfl⟩ := hv'
                    have c0 := hcell (k + 1 + j) hjl
                    have HB := Lib.hid (BoxP.of (hs1.of_eq (show _ = pts bf (F.pbox ⟨.slice ca F.chars.length cc, .slice sa F.steps.length sc, .slice ka F.kerns.length kc, .slice pa F.pieces.length pc, .slice ra F.params.length rc⟩) * (rowI (.slice (some ⟨g9, 0, none⟩) n0 cap) L * (mapH kE2 vI bm n' kn' * (pts b9 (Stp.boxv ⟨s1, s2, s3, s4⟩) * (A * own W)))) by ac_rfl)))
                    have b0 := HB.out.c0
                    have b1 := HB.out.c1
                    have b2 := HB.out.c2
                    have b3 := HB.out.c3
                    have b4 := HB.out.c4
                    have b5 := HB.out.c5
                    have b6 := HB.out.c6
                    have b7 := HB.out.c7
                    have b8 := HB.out.c8
                    have lq := HB.out.lt
                    have hmy : MkR (L[k + 1 + j]) := HMK4.out _ (List.getElem_mem hjl)
                    have hdr : L.drop (k + 1 + j) = L[k + 1 + j] :: L.drop (k + 1 + (j + 1)) := List.drop_eq_getElem_cons hjl
                    obtain ⟨y, hy⟩ : ∃ y, L[k + 1 + j] = y := ⟨_, rfl⟩
                    rw [hy] at c0 hmy hdr
                    have hr := HR.out
                    rw [hdr, pairGo] at hr
                    have HF := Lib.hid (HIH.out _ n' kn' z y wr HK.out HMZ.out hmy HU.out HS.out)
                    obtain ⟨hok1, hok2, hok3⟩ := followM_ok F g kn' z y HK.out HMZ.out hmy HU.out
                    have HSU := Lib.hid (Nat.lt_of_le_of_lt hok1.unk HU.out)
                    obtain ⟨⟨z2, kn2⟩, hfm⟩ : ∃ p, followM F g kn' z y = p := ⟨_, rfl⟩
                    rw [hfm] at HF hok2 hok3 hr HSU
                    simp only at hok2 hok3 hr HSU
                    have HOK2 := Lib.hid hok2
                    have HOK3 := Lib.hid hok3
                    have HR6 := Lib.hid hr
                    clear hok1 hok2 hok3 hr hfm hy hdr hmy hs1 hcell HB HR HS HK HU hjl
                    go_wp2_with fail
                    with_reducible refine Calls.mono HF.out ?_
                    rintro e w6 ⟨rfl, n6, hs6⟩
                    have HS6 := Lib.hid hs6
                    clear hs6 HF c0 lg b0 b1 b2 b3 b4 b5 b6 b7 b8 lq
                    by_cases z3 : z2 = -3
                    · subst z3
                      have hr := HR6.out
                      rw [if_pos rfl] at hr
                      subst hr
                      go_wp2
                      go_ret
                      exact ⟨rfl, n6, by exact (HS6.out.of_eq (show _ = rowI (.slice (some ⟨g9, 0, none⟩) n0 cap) L * (pts b9 (Stp.boxv ⟨s1, s2, s3, s4⟩) * (pts bf (F.pbox ⟨.slice ca F.chars.length cc, .slice sa F.steps.length sc, .slice ka F.kerns.length kc, .slice pa F.pieces.length pc, .slice ra F.params.length rc⟩) * (mapH kE2 vI bm n6 kn2 * (A * own W)))) by ac_rfl)).r.r.r⟩
                    · have hr := HR6.out
                      rw [if_neg z3] at hr
                      have HR7 := Lib.hid hr
                      clear hr HR6
                      have HZ3 := Lib.hid (HOK3.out.resolve_left z3)
                      go_wp2
                      go_roundg (m - (j + 1))
                      case measure => have := HG.out; omega
                      case rel => exact ⟨j + 1, kn2, n6, z2, by omega, rfl, by go_num, rfl, HZ3.out, HOK2.out, HSU.out, HR7.out, HS6.out⟩
                  · obtain rfl : j = m := by omega
                    have hr := HR.out
                    rw [List.drop_eq_nil_of_le (by have := HM2.out; have := HN0.out; omega), pairGo] at hr
                    subst hr
                    clear hjm
                    go_wp2
                    go_ret
                    exact ⟨rfl, n', by exact (HS.out.of_eq (show _ = rowI (.slice (some ⟨g9, 0, none⟩) n0 cap) L * (pts b9 (Stp.boxv ⟨s1, s2, s3, s4⟩) * (pts bf (F.pbox ⟨.slice ca F.chars.length cc, .slice sa F.steps.length sc, .slice ka F.kerns.length kc, .slice pa F.pieces.length pc, .slice ra F.params.length rc⟩) * (mapH kE2 vI bm n' kn' * (A * own W)))) by ac_rfl)).r.r.r⟩
              | succ p =>
                have hmp : 0 < m := by have := HM2.out; have := HKP.out; omega
                obtain rfl := hon hmp
                have hkn : k + 1 < L.length := by have := HM2.out; have := HN0.out; omega
                have c0 := HCE.out (k + 1) hkn
                have hz2 : L[k + 1] = L.getD (k + 1) 0 := by rw [List.getD_eq_getElem?_getD, List.getElem?_eq_getElem hkn]; rfl
                obtain ⟨z2, hz3⟩ : ∃ z2, L[k + 1] = z2 := ⟨_, rfl⟩
                rw [hz3] at c0 hz2
                have HZ2' := Lib.hid hz2
                have hmi : (0 : Int) < m := by omega
                have hpi : (0 : Int) < ((p + 1 : Nat) : Int) := by omega
                have hmq : m ≤ q := by have := HM2.out; have := HQ2.out; omega
                have hq9 : q ≤ 9223372036854775807 := by have := HQ2.out; simp only [maxLen] at hcm; omega
                have HMQ := Lib.hid hmq
                have hpb : (p : Int) ≤ 9 := by have := HKP.out; omega
                clear hz3 hz2 hkp hm1 hq1 hmp hkn
                by_cases hq1 : q = 1
                · subst hq1
                  obtain rfl : m = 1 := by omega
                  go_wp2
                  go_roundg p
                  case measure => omega
                  case rel => exact ⟨p, k + 1, k + 1, 0, 0, rfl, by first | rfl | go_num, by have := HKP.out; omega, ⟨z2, rfl, HZ2'.out.symm⟩, rfl, by have := HM2.out; omega, by have := HQ2.out; omega, fun h => by have := HMQ.out; omega, rfl⟩
                · have hq2 : (q = 1) = False := by simp [hq1]
                  go_wp2
                  go_roundg p
                  case measure => omega
                  case rel => exact ⟨p, k + 1, k + 1 + 1, m - 1, q - 1, rfl, by first | rfl | go_num, by have := HKP.out; omega, ⟨z2, rfl, HZ2'.out.symm⟩, rfl, by have := HM2.out; omega, by have := HQ2.out; omega, fun h => rfl, rfl⟩
/-- follow, at any depth -/
theorem fol_any (hrd : RdF W x F) (hfk : FOk F) : ∀ g, FolC W x F bm g
  | 0 => fol_zero W x F bm
  | g + 1 => fol_succ hrd (pair_of hrd hfk (fol_any hrd hfk g))
end Go.Proofs.Ytigjfbbgbiajbaa
