/-
  Does some pair's row go on for ever: the walk. Conditions: those that each theorem names.
-/
import Derived.Test.YtigjfbbgbiajbaaLgE
import Derived.Test.YtigjfbbgbiajbaaAppRd
import Derived.WalkMore
namespace Go.Proofs.Ytigjfbbgbiajbaa
open Go.RowKit Go.Sp
variable {w W : World} {x : FV} {F : Fnt} {bm : Nat} {A : HProp}

theorem rowI_app {v : Value} {L M : List Int} {n : Nat} (h : Sat W (row v n 3 1 (L.flatMap intC ++ M.flatMap intC) * A) w) (hn : n = L.length + M.length) : Sat W (rowI v (L ++ M) * A) w := by
  unfold rowI
  rw [List.flatMap_append, List.length_append, ← hn]
  exact h
theorem rowI_app1 {v : Value} {y : Int} {M : List Int} {n : Nat} (h : Sat W (row v n 3 1 (intC y ++ M.flatMap intC) * A) w) (hn : n = 1 + M.length) : Sat W (rowI v (y :: M) * A) w := by
  refine rowI_app (L := [y]) (M := M) (n := n) ?_ (by rw [hn]; rfl)
  rw [show List.flatMap intC [y] = intC y by simp]
  exact h
theorem rowI_one {g : Nat} {y : Int} (h : Sat W (pts g (.cells #[.int .i64 y] 3) * A) w) : Sat W (rowI (.slice (some ⟨g, 0, none⟩) 1 1) [y] * A) w := by
  have := Sat.row_whole (size := 1) 1 h (by simp [maxLen]) (by simp)
  exact this
set_option maxRecDepth 100000 in
set_option maxHeartbeats 8000000 in
theorem loops_any {g : Nat} (hg : 66564 < g) (hrd : RdF w x F) (hfk : FOk F) :
    Calls Try.prog 14 #[F.pval x] w fun e w' => e = .returned (.bool (loopsB F g)) ∧ Ext w w' := by
  have hal := ((Sat.start w).alloc (F.pbox x)).map_new (K := Int × Int) (V := Int) (kE := kE2) (vE := vI)
  obtain ⟨W1, hW1⟩ : ∃ W1, (w.alloc (F.pbox x)).alloc (.map #[] 0) = W1 := ⟨_, rfl⟩
  obtain ⟨bf, hbf⟩ : ∃ bf, w.heap.size = bf := ⟨_, rfl⟩
  rw [hW1, World.size_alloc, hbf] at hal
  have HS := Lib.hid (hal.row_nil (e := 3) (size := 1))
  have HFO := Lib.hid (fun bm => fol_any (bm := bm) hrd hfk g)
  have hmall := allM_mk hfk
  have HMA := Lib.hid hmall
  have HGG := Lib.hid hg
  have HRD := Lib.hid hrd
  have hcl : F.chars.length ≤ 256 := by have := hfk.hc; have := hfk.h0; omega
  have h0 := hfk.h0
  have h1 := hfk.h1
  obtain ⟨ca, cc, sa, sc, ka, kc, pa, pc, ra, rc, rfl, -⟩ := hrd.vals
  obtain ⟨r, hr⟩ : ∃ r, loopsB F g = r := ⟨_, rfl⟩
  have HR := Lib.hid hr
  rw [hr]
  simp only [Fnt.pbox] at hW1
  have HW1 := Lib.hid hW1
  have HBF := Lib.hid hbf
  clear hr hal hW1 hbf hmall hg hrd
  have hmm := @run_makeMap Try.prog
  obtain ⟨i0, hi, hz0, hz1, hz2⟩ := info_parts3 info_int3
  have HI := Lib.hid hi
  have HZ0 := Lib.hid hz0
  have HZ1 := Lib.hid hz1
  have HZ2 := Lib.hid hz2
  clear hi hz0 hz1 hz2
  go_enter Try.func14, Try.ntmps14
  go_wp2
  go_step3
  go_upto_region 3 with fail
  rw [HBF.out, show (w.alloc (.cells #[.int .u32 F.check, .int .i64 F.design, .int .i64 F.first, .slice ca F.chars.length cc, .slice sa F.steps.length sc, .slice ka F.kerns.length kc, .slice pa F.pieces.length pc, .slice ra F.params.length rc, .int .i64 (edgeM F)] 47)).alloc (.map #[] 0) = W1 from HW1.out]
  clear HBF HW1 hmm
  have HB := Lib.hid (BoxP.of (HS.out.of_eq (show _ = pts bf (F.pbox ⟨.slice ca F.chars.length cc, .slice sa F.steps.length sc, .slice ka F.kerns.length kc, .slice pa F.pieces.length pc, .slice ra F.params.length rc⟩) * (rowI (.slice none 0 0) [] * ((mapH kE2 vI (bf + 1) 0 fun x => none) * own w)) by unfold rowI; simp only [List.length_nil, List.flatMap_nil]; ac_rfl)))
  have b0 := HB.out.c0
  have b1 := HB.out.c1
  have b2 := HB.out.c2
  have b3 := HB.out.c3
  have b4 := HB.out.c4
  have b5 := HB.out.c5
  have b6 := HB.out.c6
  have b7 := HB.out.c7
  have b8 := HB.out.c8
  have lq := HB.out.lt
  clear HB
  go_wp2_with fail
  go_loopg [4, 15] F.chars.length (fun gg s4 s15 wx => ∃ k : Nat, k ≤ F.chars.length ∧ gg = F.chars.length - k ∧ s15 = .int .i64 k ∧ Sat w (rowI s4 (allUpto F k) * ((mapH kE2 vI (bf + 1) 0 fun x => none) * (pts bf (F.pbox ⟨.slice ca F.chars.length cc, .slice sa F.steps.length sc, .slice ka F.kerns.length kc, .slice pa F.pieces.length pc, .slice ra F.params.length rc⟩) * own w))) wx)
  case atStart => exact ⟨0, Nat.zero_le _, rfl, rfl, HS.out⟩
  case round =>
    obtain ⟨k, hk, hg, rfl, hs⟩ := hrel
    have HS2 := Lib.hid hs
    have HG := Lib.hid hg
    have hs1 := hs.of_eq (show _ = pts bf (F.pbox ⟨.slice ca F.chars.length cc, .slice sa F.steps.length sc, .slice ka F.kerns.length kc, .slice pa F.pieces.length pc, .slice ra F.params.length rc⟩) * (rowI u4 (allUpto F k) * ((mapH kE2 vI (bf + 1) 0 fun x => none) * own w)) by ac_rfl)
    have HB := Lib.hid (BoxP.of hs1)
    have hE := hs1.r.r.r.toExt
    clear b0 b1 b2 b3 b4 b5 b6 b7 b8 lq
    have b0 := HB.out.c0
    have b1 := HB.out.c1
    have b2 := HB.out.c2
    have b3 := HB.out.c3
    have b4 := HB.out.c4
    have b5 := HB.out.c5
    have b6 := HB.out.c6
    have b7 := HB.out.c7
    have b8 := HB.out.c8
    have lq := HB.out.lt
    clear hs hs1 HS HB hg
    by_cases hkl : k < F.chars.length
    · have hki : (k : Int) < F.chars.length := by omega
      obtain ⟨b, off, rfl, -, -, -, -, c4, -, lb⟩ := (HRD.out.ext hE).chr rfl hkl
      have hsu := allUpto_succ F k
      have hlen := allUpto_len F k
      by_cases ht : 0 ≤ (metM F k).tag
      · rw [if_pos ht] at hsu
        have HSU := Lib.hid hsu
        have HLEN := Lib.hid hlen
        clear hsu hE hlen
        have hsu2 := HS2.out
        unfold rowI at hsu2
        have HS3 := Lib.hid hsu2
        clear hsu2 HS2
        have hfk2 : (F.first + (k : Int)) ≤ 1000 := by omega
        have hfk3 : 0 ≤ (F.first + (k : Int)) := by omega
        go_wp2_with (at_builtin; refine wpList_append_sep rfl _ _ 25 rfl i0 _ 8 Try.underlying25 HI.out HZ0.out HZ1.out HZ2.out rfl rfl HS3.out.allocD ⟨_, 0, none⟩ 1 1 [.int .i64 (F.first + (k : Int))] rfl rfl (new_cells _ _ _) (by simp [Value.oneCell']) (by have := HLEN.out; simp only [maxLen]; omega) (by have := HLEN.out; omega) ?_)
        intro v' w7 h7
        have h8 := rowI_snoc (L := allUpto F k) h7 rfl
        rw [← HSU.out] at h8
        have HS8 := Lib.hid h8
        clear h7 h8 HS3 b0 b1 b2 b3 b4 b5 b6 b7 b8 lq c4 lb
        go_wp2
        go_roundg (F.chars.length - (k + 1))
        case measure => have := HG.out; omega
        case rel => exact ⟨k + 1, by omega, rfl, by go_num, HS8.out⟩
      · rw [if_neg ht, List.append_nil] at hsu
        have HSU := Lib.hid hsu
        clear hsu hE hlen
        go_wp2
        go_roundg (F.chars.length - (k + 1))
        case measure => have := HG.out; omega
        case rel => exact ⟨k + 1, by omega, rfl, by go_num, by rw [HSU.out]; exact HS2.out⟩
    · obtain rfl : k = F.chars.length := by omega
      have HS3 := Lib.hid (show Sat w (rowI u4 (allM F) * ((mapH kE2 vI (bf + 1) 0 fun x => none) * (pts bf (F.pbox ⟨.slice ca F.chars.length cc, .slice sa F.steps.length sc, .slice ka F.kerns.length kc, .slice pa F.pieces.length pc, .slice ra F.params.length rc⟩) * own w))) wr from HS2.out)
      have HAL := Lib.hid (show (allM F).length ≤ 256 from Nat.le_trans (allUpto_len F F.chars.length) hcl)
      clear HS2 hkl hE
      go_wp2
      go_step3
      simp only [Exit.then]
      have ha1 := HS3.out.alloc (.cells #[.int .i64 (-1)] 3)
      have hr1 := rowI_one ha1
      have hrd1 := rowI_rd (ha1.of_eq (show _ = rowI u4 (allM F) * (pts wr.heap.size (.cells #[.int .i64 (-1)] 3) * ((mapH kE2 vI (bf + 1) 0 fun x => none) * (pts bf (F.pbox ⟨.slice ca F.chars.length cc, .slice sa F.steps.length sc, .slice ka F.kerns.length kc, .slice pa F.pieces.length pc, .slice ra F.params.length rc⟩) * own w))) by ac_rfl))
      have HR1 := Lib.hid hr1
      have HRD1 := Lib.hid hrd1
      clear ha1 hr1 hrd1
      go_wp2_with (at_builtin; refine wpList_append_rd rfl _ _ 25 rfl i0 _ 8 Try.underlying25 HI.out HZ0.out HZ1.out HZ2.out rfl (by omega) rfl HR1.out _ (allM F).length _ rfl HRD1.out.1 (flatMap_one (fun x u hu => by simp only [intC, List.mem_singleton] at hu; rw [hu]; rfl) _) (by have := HAL.out; simp only [maxLen, List.length_singleton]; omega) (by have := HAL.out; simp only [List.length_singleton]; omega) ?_)
      intro v' w7 h7
      have h8 := rowI_app1 h7 rfl
      obtain ⟨va, vc, hv', -⟩ := (rowI_rd h8).val
      subst hv'
      have HV := Lib.hid (show (-1 :: allM F).length ≤ 257 by simp only [List.length_cons]; have := HAL.out; omega)
      obtain ⟨nv, hnv⟩ : ∃ nv, (-1 :: allM F).length = nv := ⟨_, rfl⟩
      rw [hnv] at h8 HV
      have HNV := Lib.hid hnv
      have HS8 := Lib.hid (h8.of_eq (show _ = mapH kE2 vI (bf + 1) 0 (fun x => none) * (rowI (.slice va nv vc) (-1 :: allM F) * (rowI u4 (allM F) * (pts bf (F.pbox ⟨.slice ca F.chars.length cc, .slice sa F.steps.length sc, .slice ka F.kerns.length kc, .slice pa F.pieces.length pc, .slice ra F.params.length rc⟩) * own w))) by ac_rfl))
      rw [HNV.out]
      have HRR := Lib.hid (show (loopsOut F g (256 :: allM F) (fun _ => none) (-1 :: allM F)).isNone = r from HR.out)
      have hnv9 : (nv : Int) ≤ 300 := by have := HV.out; omega
      clear h7 h8 HS3 HR1 HRD1 b0 b1 b2 b3 b4 b5 b6 b7 b8 lq hnv HR
      go_wp2_with fail
      go_loopg [39] nv (fun gg s39 wx => ∃ (k n : Nat) (kn : KM), k ≤ nv ∧ gg = nv - k ∧ s39 = .int .i64 k ∧ KOk kn ∧ (loopsOut F g (256 :: allM F) kn ((-1 :: allM F).drop k)).isNone = r ∧ Sat w (mapH kE2 vI (bf + 1) n kn * (rowI (.slice va nv vc) (-1 :: allM F) * (rowI u4 (allM F) * (pts bf (F.pbox ⟨.slice ca F.chars.length cc, .slice sa F.steps.length sc, .slice ka F.kerns.length kc, .slice pa F.pieces.length pc, .slice ra F.params.length rc⟩) * own w)))) wx)
      case atStart => exact ⟨0, 0, fun _ => none, Nat.zero_le _, rfl, rfl, fun k v h => (by cases h), HRR.out, HS8.out⟩
      case round =>
        obtain ⟨k, n, kn, hk, hg, rfl, hko, hlo, hs⟩ := hrel
        have HS := Lib.hid hs
        have HG := Lib.hid hg
        have HKO := Lib.hid hko
        have HLO := Lib.hid hlo
        have hs1 := hs.of_eq (show _ = pts bf (F.pbox ⟨.slice ca F.chars.length cc, .slice sa F.steps.length sc, .slice ka F.kerns.length kc, .slice pa F.pieces.length pc, .slice ra F.params.length rc⟩) * (rowI (.slice va nv vc) (-1 :: allM F) * (mapH kE2 vI (bf + 1) n kn * (rowI u4 (allM F) * own w))) by ac_rfl)
        have HB := Lib.hid (BoxP.of hs1)
        have hE := hs1.r.r.r.r.toExt
        clear HS8 HRR hg hko hlo hs
        have b0 := HB.out.c0
        have b1 := HB.out.c1
        have b2 := HB.out.c2
        have b3 := HB.out.c3
        have b4 := HB.out.c4
        have b5 := HB.out.c5
        have b6 := HB.out.c6
        have b7 := HB.out.c7
        have b8 := HB.out.c8
        have lq := HB.out.lt
        clear HB
        by_cases hkl : k < nv
        · have hki : (k : Int) < nv := by omega
          obtain ⟨g9, cap9, hv, -, -, lg, hcell⟩ := rowI_val hs1.r (by rw [HNV.out]; omega)
          simp only [Value.slice.injEq] at hv
          obtain ⟨rfl, -, rfl⟩ := hv
          have hkl2 : k < (-1 :: allM F).length := by rw [HNV.out]; exact hkl
          have c0 := hcell k hkl2
          have hdr := List.drop_eq_getElem_cons hkl2
          have hmk : MkR ((-1 :: allM F)[k]) := by
            have := List.getElem_mem hkl2
            rcases List.mem_cons.1 this with h | h
            · rw [h]; exact ⟨by omega, by omega⟩
            · exact HMA.out _ h
          obtain ⟨y, hy⟩ : ∃ y, (-1 :: allM F)[k] = y := ⟨_, rfl⟩
          rw [hy] at c0 hdr hmk
          have HBG := Lib.hid (begin_any (HRD.out.ext hE) hfk y hmk)
          have hlo := HLO.out
          rw [hdr, loopsOut] at hlo
          have HMK := Lib.hid hmk
          obtain ⟨bg, hbg⟩ : ∃ bg, beginM F y = bg := ⟨_, rfl⟩
          rw [hbg] at HBG hlo
          have HLO2 := Lib.hid hlo
          clear hs1 hE hcell hdr hy hmk hbg hlo hkl2
          go_wp2_with fail
          with_reducible refine Calls.mono HBG.out ?_
          rintro e w8 ⟨rfl, hx⟩
          have HS9 := Lib.hid (HS.out.ext hx)
          clear HS HBG hx c0 lg b0 b1 b2 b3 b4 b5 b6 b7 b8 lq HLO
          by_cases hb0 : bg < 0
          · have hlo := HLO2.out
            rw [if_pos hb0] at hlo
            have HLO3 := Lib.hid hlo
            clear hlo HLO2
            go_wp2
            go_roundg (nv - (k + 1))
            case measure => have := HG.out; omega
            case rel => exact ⟨k + 1, n, kn, by omega, rfl, by go_num, HKO.out, HLO3.out, HS9.out⟩
          · have hlo := HLO2.out
            rw [if_neg hb0] at hlo
            have HLO3 := Lib.hid hlo
            clear hlo HLO2
            go_upto_region 13 with fail
            have hq0 := HS9.out.of_eq (show _ = rowI u4 (allM F) * (mapH kE2 vI (bf + 1) n kn * (rowI (.slice (some ⟨g9, 0, none⟩) nv vc) (-1 :: allM F) * (pts bf (F.pbox ⟨.slice ca F.chars.length cc, .slice sa F.steps.length sc, .slice ka F.kerns.length kc, .slice pa F.pieces.length pc, .slice ra F.params.length rc⟩) * own w))) by ac_rfl)
            have ha1 := hq0.alloc (.cells #[.int .i64 256] 3)
            have hr1 := rowI_one ha1
            have hrd1 := rowI_rd ha1.r
            have HR1 := Lib.hid hr1
            have HRD1 := Lib.hid hrd1
            clear ha1 hr1 hrd1 hq0
            go_wp2_with (at_builtin; refine wpList_append_rd rfl _ _ 25 rfl i0 _ 8 Try.underlying25 HI.out HZ0.out HZ1.out HZ2.out rfl (by omega) rfl HR1.out _ (allM F).length _ rfl HRD1.out.1 (flatMap_one (fun x u hu => by simp only [intC, List.mem_singleton] at hu; rw [hu]; rfl) _) (by have := HAL.out; simp only [maxLen, List.length_singleton]; omega) (by have := HAL.out; simp only [List.length_singleton]; omega) ?_)
            intro v' w7 h7
            have h8 := rowI_app1 h7 rfl
            obtain ⟨vb, vd, hv', -⟩ := (rowI_rd h8).val
            subst hv'
            obtain ⟨nw, hnw⟩ : ∃ nw, (256 :: allM F).length = nw := ⟨_, rfl⟩
            rw [hnw] at h8
            have HNW := Lib.hid hnw
            have HW := Lib.hid (show (256 :: allM F).length ≤ 257 by simp only [List.length_cons]; have := HAL.out; omega)
            have HS8 := Lib.hid (h8.of_eq (show _ = mapH kE2 vI (bf + 1) n kn * (rowI (.slice vb nw vd) (256 :: allM F) * (rowI (.slice (some ⟨g9, 0, none⟩) nv vc) (-1 :: allM F) * (rowI u4 (allM F) * (pts bf (F.pbox ⟨.slice ca F.chars.length cc, .slice sa F.steps.length sc, .slice ka F.kerns.length kc, .slice pa F.pieces.length pc, .slice ra F.params.length rc⟩) * own w)))) by ac_rfl))
            rw [HNW.out]
            have hnw9 : (nw : Int) ≤ 300 := by have := HW.out; have := HNW.out; omega
            clear h7 h8 HR1 HRD1 hnw HS9
            obtain ⟨q, hq⟩ : ∃ q, loopsIn F g y kn (256 :: allM F) = q := ⟨_, rfl⟩
            have HQ := Lib.hid hq
            have hlo := HLO3.out
            rw [hq] at hlo
            have HLO4 := Lib.hid hlo
            clear hlo HLO3 hq
            go_wp2_with fail
            go_loopg [51] nw (fun gg s51 wx => ∃ (j n' : Nat) (kn' : KM), j ≤ nw ∧ gg = nw - j ∧ s51 = .int .i64 j ∧ KOk kn' ∧ loopsIn F g y kn' ((256 :: allM F).drop j) = q ∧ Sat w (mapH kE2 vI (bf + 1) n' kn' * (rowI (.slice vb nw vd) (256 :: allM F) * (rowI (.slice (some ⟨g9, 0, none⟩) nv vc) (-1 :: allM F) * (rowI u4 (allM F) * (pts bf (F.pbox ⟨.slice ca F.chars.length cc, .slice sa F.steps.length sc, .slice ka F.kerns.length kc, .slice pa F.pieces.length pc, .slice ra F.params.length rc⟩) * own w))))) wx)
            case atStart => exact ⟨0, n, kn, Nat.zero_le _, rfl, rfl, HKO.out, HQ.out, HS8.out⟩
            case round =>
              obtain ⟨j, n', kn', hj, hg, rfl, hko, hli, hs⟩ := hrel
              have HS := Lib.hid hs
              have HG2 := Lib.hid hg
              have HKO2 := Lib.hid hko
              have HLI := Lib.hid hli
              have hs1 := hs.of_eq (show _ = pts bf (F.pbox ⟨.slice ca F.chars.length cc, .slice sa F.steps.length sc, .slice ka F.kerns.length kc, .slice pa F.pieces.length pc, .slice ra F.params.length rc⟩) * (rowI (.slice vb nw vd) (256 :: allM F) * (mapH kE2 vI (bf + 1) n' kn' * (rowI (.slice (some ⟨g9, 0, none⟩) nv vc) (-1 :: allM F) * (rowI u4 (allM F) * own w)))) by ac_rfl)
              have HB := Lib.hid (BoxP.of hs1)
              clear HS8 HQ hg hko hli hs HKO
              have b0 := HB.out.c0
              have b1 := HB.out.c1
              have b2 := HB.out.c2
              have b3 := HB.out.c3
              have b4 := HB.out.c4
              have b5 := HB.out.c5
              have b6 := HB.out.c6
              have b7 := HB.out.c7
              have b8 := HB.out.c8
              have lq := HB.out.lt
              clear HB
              by_cases hjl : j < nw
              · have hji : (j : Int) < nw := by omega
                obtain ⟨g8, cap8, hv, -, -, lg, hcell⟩ := rowI_val hs1.r (by rw [HNW.out]; omega)
                simp only [Value.slice.injEq] at hv
                obtain ⟨rfl, -, rfl⟩ := hv
                have hjl2 : j < (256 :: allM F).length := by rw [HNW.out]; exact hjl
                have c0 := hcell j hjl2
                have hdr := List.drop_eq_getElem_cons hjl2
                have hmz : MkR ((256 :: allM F)[j]) := by
                  have := List.getElem_mem hjl2
                  rcases List.mem_cons.1 this with h | h
                  · rw [h]; exact ⟨by omega, by omega⟩
                  · exact HMA.out _ h
                obtain ⟨z, hz⟩ : ∃ z, (256 :: allM F)[j] = z := ⟨_, rfl⟩
                rw [hz] at c0 hdr hmz
                have hli := HLI.out
                rw [hdr, loopsIn] at hli
                have hu : unk kn' < g := Nat.lt_of_le_of_lt (unk_le kn') HGG.out
                have HF := Lib.hid (HFO.out (bf + 1) (rowI (.slice (some ⟨g8, 0, none⟩) nw vd) (256 :: allM F) * (rowI (.slice (some ⟨g9, 0, none⟩) nv vc) (-1 :: allM F) * (rowI u4 (allM F) * pts bf (F.pbox ⟨.slice ca F.chars.length cc, .slice sa F.steps.length sc, .slice ka F.kerns.length kc, .slice pa F.pieces.length pc, .slice ra F.params.length rc⟩)))) n' kn' y z wr HKO2.out HMK.out hmz hu (HS.out.of_eq (by ac_rfl)))
                have hok := (followM_ok F g kn' y z HKO2.out HMK.out hmz hu).2.1
                obtain ⟨⟨o, kn2⟩, hfm⟩ : ∃ p, followM F g kn' y z = p := ⟨_, rfl⟩
                rw [hfm] at HF hok hli
                simp only at hok hli
                have HOK := Lib.hid hok
                have HLI2 := Lib.hid hli
                clear hs1 hcell hjl2 hdr hmz hz hli hu hok hfm HS HLI HKO2
                go_wp2_with fail
                with_reducible refine Calls.mono HF.out ?_
                rintro e w6 ⟨rfl, n6, hs6⟩
                have HS6 := Lib.hid (hs6.of_eq (show _ = mapH kE2 vI (bf + 1) n6 kn2 * (rowI (.slice (some ⟨g8, 0, none⟩) nw vd) (256 :: allM F) * (rowI (.slice (some ⟨g9, 0, none⟩) nv vc) (-1 :: allM F) * (rowI u4 (allM F) * (pts bf (F.pbox ⟨.slice ca F.chars.length cc, .slice sa F.steps.length sc, .slice ka F.kerns.length kc, .slice pa F.pieces.length pc, .slice ra F.params.length rc⟩) * own w)))) by ac_rfl))
                clear hs6 HF c0 lg b0 b1 b2 b3 b4 b5 b6 b7 b8 lq
                by_cases o3 : o = -3
                · subst o3
                  have hli := HLI2.out
                  rw [if_pos rfl] at hli
                  subst hli
                  have hlo := HLO4.out
                  simp only [Option.isNone_none] at hlo
                  subst hlo
                  go_wp2
                  simp only [Exit.noGoto]
                  go_ret
                  exact ⟨rfl, HS6.out.r.r.r.r.r.toExt⟩
                · have hli := HLI2.out
                  rw [if_neg o3] at hli
                  have HLI3 := Lib.hid hli
                  clear hli HLI2
                  go_wp2
                  go_roundg (nw - (j + 1))
                  case measure => have := HG2.out; omega
                  case rel => exact ⟨j + 1, n6, kn2, by omega, rfl, by go_num, HOK.out, HLI3.out, HS6.out⟩
              · obtain rfl : j = nw := by omega
                have hli := HLI.out
                rw [List.drop_eq_nil_of_le (by rw [HNW.out]; exact Nat.le_refl _), loopsIn] at hli
                subst hli
                have hlo := HLO4.out
                simp only at hlo
                have HLO5 := Lib.hid hlo
                clear hlo HLO4 HLI hjl hs1
                go_wp2
                go_roundg (nv - (k + 1))
                case measure => have := HG.out; omega
                case rel => exact ⟨k + 1, n', kn', by omega, rfl, by go_num, HKO2.out, HLO5.out, (HS.out.of_eq (show _ = rowI (.slice vb j vd) (256 :: allM F) * (mapH kE2 vI (bf + 1) n' kn' * (rowI (.slice (some ⟨g9, 0, none⟩) nv vc) (-1 :: allM F) * (rowI u4 (allM F) * (pts bf (F.pbox ⟨.slice ca F.chars.length cc, .slice sa F.steps.length sc, .slice ka F.kerns.length kc, .slice pa F.pieces.length pc, .slice ra F.params.length rc⟩) * own w)))) by ac_rfl)).r⟩
        · obtain rfl : k = nv := by omega
          have hlo := HLO.out
          rw [List.drop_eq_nil_of_le (by rw [HNV.out]; exact Nat.le_refl _), loopsOut] at hlo
          simp only [Option.isNone_some] at hlo
          subst hlo
          clear hkl hs1 HLO
          go_wp2
          go_ret
          exact ⟨rfl, HS.out.r.r.r.r.toExt⟩
end Go.Proofs.Ytigjfbbgbiajbaa
