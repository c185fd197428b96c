/-
  Run: what becomes of a word of a right font. Conditions: those that each theorem names.
-/
import Derived.Test.YtigjfbbgbiajbaaLgP
namespace Go.Proofs.Ytigjfbbgbiajbaa
open Go.RowKit Go.Sp
variable {w W : World} {x : FV} {F : Fnt} {A : HProp}

def mkW (c : UInt8) : Mk := ⟨c.toNat, 1, false, 0, false⟩
def runM (F : Fnt) (word : List UInt8) : List Mk :=
  match word.map mkW with
  | [] => []
  | m :: l => goM F [] m l
def RunOk (F : Fnt) (word : List UInt8) : Prop :=
  match word.map mkW with
  | [] => True
  | m :: l => GoOk F m l
theorem mkW_ok (c : UInt8) : MkOk (mkW c) ∧ (mkW c).n ≤ 1 := by
  have := u8i c
  refine ⟨⟨rfl, ?_, ?_, ?_⟩, ?_⟩ <;> simp only [mkW] <;> omega

set_option maxRecDepth 100000 in
set_option maxHeartbeats 8000000 in
theorem run_nil {b : Nat} (h : MAt W A b x F [] [] w) : Calls Try.prog 20 #[.pointer (some ⟨b, 0, none⟩)] w fun e w' => e = .returned (.tuple #[]) ∧ w' = w := by
  have c1 : ∃ tv c, w.cell? ⟨b, 1, none⟩ = some (.slice tv 0 c) := by
    obtain ⟨dv, tv, h9⟩ := h
    obtain ⟨a, c, hv, -⟩ := (rowK_rd (h9.of_eq (show _ = rowK tv [] * (pts b (F.mbox x dv tv) * (rowK dv [] * A)) by ac_rfl))).val
    rw [List.length_nil] at hv
    exact ⟨a, c, by rw [h9.cell rfl, ← hv]; rfl⟩
  obtain ⟨ta, tc, c1⟩ := c1
  have lb := h.lt
  have HS := Lib.hid (step_nil h)
  clear h
  go_enter Try.func20, Try.ntmps20
  go_wp2_with fail
  go_loopg [18] 1 (fun gg s18 wx => wx = w)
  case atStart => exact rfl
  case round =>
    subst hrel
    go_wp2_with fail
    with_reducible refine Calls.mono HS.out ?_
    rintro e w4 ⟨rfl, rfl⟩
    go_wp2
    go_end0
    exact ⟨rfl, rfl⟩
theorem run_both {b : Nat} {word : List UInt8} (hrd : RdF W x F) (hok : FOk F) (hlen : word.length ≤ 2000) (hg : RunOk F word) (h : MAt W (A * own W) b x F [] (word.map mkW).reverse w) :
    Calls Try.prog 20 #[.pointer (some ⟨b, 0, none⟩)] w fun e w' => e = .returned (.tuple #[]) ∧ MAt W (A * own W) b x F (runM F word) [] w' := by
  cases word with
  | nil => exact Calls.mono (run_nil h) fun e w' ⟨h1, h2⟩ => ⟨h1, by rw [h2]; exact h⟩
  | cons c word =>
    unfold RunOk at hg
    unfold runM
    simp only [List.map_cons] at hg h ⊢
    refine run_any hrd hok (mkW_ok c).1 (fun y hy => ?_) (mkW_ok c).2 (by rw [List.length_map]; simp only [List.length_cons] at hlen; omega) hg h
    obtain ⟨d, -, rfl⟩ := List.mem_map.1 hy
    exact mkW_ok d
set_option maxRecDepth 100000 in
set_option maxHeartbeats 8000000 in
theorem lrun_any {wv : Value} {word : List UInt8} (h : RdF w x F) (hw : RdL byteC 1 w wv word) (he : lcheckE F = 0) (hth : ∀ c ∈ word, (thereM F c.toNat).isSome = true) (hlen : word.length ≤ 2000) (hgo : RunOk F word)
    (hrc : ∀ m ∈ runM F word, m.c ≠ -1 ∧ m.c ≠ 256) (hrl : (runM F word).length ≤ 2000) :
    Calls Try.prog 10 #[F.val x, wv, .bool false, .bool false] w fun e w' => ∃ u, e = .returned (.tuple #[u, .int .i64 0]) ∧ Sat w (rowP u ((runM F word).map pieceM) * own w) w' := by
  have hok := FOk.of (lcheck_zero he)
  have HS := (Sat.start w).alloc (F.box x)
  obtain ⟨W1, hW1⟩ : ∃ W1, w.alloc (F.box x) = W1 := ⟨_, rfl⟩
  obtain ⟨bf, hbf⟩ : ∃ bf, w.heap.size = bf := ⟨_, rfl⟩
  rw [hW1, hbf] at HS
  have HB := Lib.hid (BoxF.of HS)
  have HC := Lib.hid (lcheck_any (h.ext HS.r.toExt))
  rw [he] at HC
  have HRD := Lib.hid h
  have HWD := Lib.hid hw
  have HTH := Lib.hid hth
  have HGO := Lib.hid hgo
  have HRC := Lib.hid hrc
  have HRL := Lib.hid hrl
  have HLEN := Lib.hid hlen
  replace HS := Lib.hid HS
  obtain ⟨wa, wc, hv, -⟩ := hw.val
  subst hv
  obtain ⟨wn, hwn⟩ : ∃ wn, word.length = wn := ⟨_, rfl⟩
  have HWN := Lib.hid hwn
  rw [hwn]
  have hwi : (wn : Int) ≤ 2000 := by omega
  obtain ⟨i0, hi, hz0, hz1, hz2⟩ := info_parts3 info_mk
  have HI := Lib.hid hi
  have HZ0 := Lib.hid hz0
  have HZ1 := Lib.hid hz1
  have HZ2 := Lib.hid hz2
  obtain ⟨ca, cc, sa, sc, ka, kc, pa, pc, ra, rc, rfl, -⟩ := h.vals
  simp only [Fnt.box] at hW1
  have HW1 := Lib.hid hW1
  have HBF := Lib.hid hbf
  clear h hw he hth hgo hrc hrl hlen hi hz0 hz1 hz2 hW1 hbf hwn
  go_enter Try.func10, Try.ntmps10
  go_upto_region 1 with fail
  rw [HBF.out, HW1.out]
  clear HBF HW1
  have b0 := HB.out.c0
  have b1 := HB.out.c1
  have b2 := HB.out.c2
  have b3 := HB.out.c3
  have b4 := HB.out.c4
  have b5 := HB.out.c5
  have b6 := HB.out.c6
  have b7 := HB.out.c7
  have lq := HB.out.lt
  go_wp2_with fail
  with_reducible refine Calls.mono HC.out ?_
  rintro e w2 ⟨rfl, hx⟩
  have HS2 := Lib.hid ((HS.out.ext hx).row_nil (e := 58) (size := 5))
  clear hx HC HS HB b0 b1 b2 b3 b4 b5 b6 b7 lq
  go_wp2_with fail
  go_loopg [11, 30] wn (fun gg s11 s30 wx => ∃ k : Nat, k ≤ wn ∧ gg = wn - k ∧ s30 = .int .i64 k ∧ Sat w (rowK s11 ((word.take k).map mkW) * (pts bf (F.box ⟨.slice ca F.chars.length cc, .slice sa F.steps.length sc, .slice ka F.kerns.length kc, .slice pa F.pieces.length pc, .slice ra F.params.length rc⟩) * own w)) wx)
  case atStart => exact ⟨0, Nat.zero_le _, rfl, rfl, HS2.out⟩
  case round =>
    obtain ⟨k, hk, hg, rfl, hs⟩ := hrel
    have HG := Lib.hid hg
    have HS3 := Lib.hid hs
    have hE := hs.r.r.toExt
    have HB := Lib.hid (BoxF.of hs.r)
    have b0 := HB.out.c0
    have b1 := HB.out.c1
    have b2 := HB.out.c2
    have b3 := HB.out.c3
    have b4 := HB.out.c4
    have b5 := HB.out.c5
    have b6 := HB.out.c6
    have b7 := HB.out.c7
    have lq := HB.out.lt
    clear HS2 hg HB
    by_cases hkl : k < wn
    · have hki : (k : Int) < wn := by omega
      have hkw : k < word.length := by rw [HWN.out]; exact hkl
      obtain ⟨g, o, rfl, hcc, lb⟩ := (HWD.out.ext hE).at byte_len (by omega) hkw
      have c0 := hcc 0 _ rfl
      rw [Nat.mul_one, Nat.add_zero] at c0
      have hth := HTH.out _ (List.getElem_mem hkw)
      have htk : word.take (k + 1) = word.take k ++ [word[k]] := List.take_succ_eq_append_getElem hkw
      obtain ⟨c, hc⟩ : ∃ c, word[k] = c := ⟨_, rfl⟩
      rw [hc] at c0 hth htk
      have HTK := Lib.hid htk
      have uc := u8i c
      have hlt := lthere_any (HRD.out.ext hE) c.toNat hok.h0 hok.h1
      rw [hth, decide_eq_true (by omega), decide_eq_true (by omega)] at hlt
      have HLT := Lib.hid hlt
      clear hs hE hcc hth htk hc hlt
      have HCC := Lib.hid (show mkW c = ⟨c.toNat, 1, false, 0, false⟩ from rfl)
      go_wp2_with fail
      with_reducible refine Calls.mono HLT.out ?_
      rintro e w3 ⟨rfl, hx⟩
      have hs4 := HS3.out.ext hx
      obtain ⟨PL, hPL⟩ : ∃ PL, (word.take k).map mkW = PL := ⟨_, rfl⟩
      have hpl : PL.length = k := by rw [← hPL, List.length_map, List.length_take]; omega
      rw [hPL] at hs4
      obtain ⟨ua, uc2, hu, -⟩ := (rowK_rd hs4).val
      rw [hpl] at hu
      subst hu
      have HS4 := Lib.hid (show Sat w (row (.slice ua k uc2) k 58 5 (PL.flatMap Mk.cells) * (pts bf (F.box ⟨.slice ca F.chars.length cc, .slice sa F.steps.length sc, .slice ka F.kerns.length kc, .slice pa F.pieces.length pc, .slice ra F.params.length rc⟩) * own w)) w3 by unfold rowK at hs4; rw [hpl] at hs4; exact hs4)
      have HPL := Lib.hid hPL
      have HPN := Lib.hid hpl
      have hk2 : k ≤ 2000 := by omega
      clear hs4 HS3 hPL hpl hx HLT c0 lb b0 b1 b2 b3 b4 b5 b6 b7 lq
      go_wp2_with (at_builtin; refine wpList_append_sep rfl _ _ 56 rfl i0 _ 40 Try.underlying56 HI.out HZ0.out HZ1.out HZ2.out rfl rfl HS4.out.allocD ⟨_, 0, none⟩ 1 1 (Mk.cells ⟨c.toNat, 1, false, 0, false⟩) rfl rfl (new_cells _ _ _) (mk_one _) (by simp only [maxLen]; omega) (by omega) ?_)
      intro v' w7 h7
      have h8 := rowK_snoc (L := PL) (y := ⟨c.toNat, 1, false, 0, false⟩) h7 (by rw [HPN.out])
      have h9 : Sat w (rowK v' ((word.take (k + 1)).map mkW) * (pts bf (F.box ⟨.slice ca F.chars.length cc, .slice sa F.steps.length sc, .slice ka F.kerns.length kc, .slice pa F.pieces.length pc, .slice ra F.params.length rc⟩) * own w)) w7 := by
        rw [HTK.out, List.map_append, List.map_singleton, HCC.out, HPL.out]
        exact h8
      have HS9 := Lib.hid h9
      clear h7 h8 h9 HS4
      go_wp2
      go_roundg (wn - (k + 1))
      case measure => have := HG.out; omega
      case rel => exact ⟨k + 1, by omega, rfl, by go_num, HS9.out⟩
    · obtain rfl : k = wn := by omega
      have HOP := Lib.hid (open_any (HRD.out.ext hE))
      rw [List.take_of_length_le (by rw [HWN.out]; exact Nat.le_refl _)] at hs
      have HS4 := Lib.hid hs
      clear hkl hs hE HS3
      go_wp2_with fail
      with_reducible refine Calls.mono HOP.out ?_
      rintro e w3 ⟨rfl, hx⟩
      have HS5 := Lib.hid (HS4.out.ext hx)
      have HNM := Lib.hid (newMachine_any (F := F) (x := ⟨.slice ca F.chars.length cc, .slice sa F.steps.length sc, .slice ka F.kerns.length kc, .slice pa F.pieces.length pc, .slice ra F.params.length rc⟩) (by rw [List.length_map, HWN.out]; omega) HS5.out)
      clear hx HOP HS4 b0 b1 b2 b3 b4 b5 b6 b7 lq
      go_wp2_with fail
      with_reducible refine Calls.mono HNM.out ?_
      rintro e w4 ⟨b, rfl, hm⟩
      obtain ⟨dv0, tv0, hm0⟩ := hm
      have HM := Lib.hid (show MAt w ((rowK u11 (word.map mkW) * pts bf (F.box ⟨.slice ca F.chars.length cc, .slice sa F.steps.length sc, .slice ka F.kerns.length kc, .slice pa F.pieces.length pc, .slice ra F.params.length rc⟩)) * own w) b ⟨.slice ca F.chars.length cc, .slice sa F.steps.length sc, .slice ka F.kerns.length kc, .slice pa F.pieces.length pc, .slice ra F.params.length rc⟩ F [] (word.map mkW).reverse w4 from ⟨dv0, tv0, hm0.of_eq (by ac_rfl)⟩)
      have HRN := Lib.hid (run_both HRD.out hok (by rw [HWN.out]; omega) HGO.out HM.out)
      clear hm0 HM HNM HS5
      go_wp2_with fail
      with_reducible refine Calls.mono HRN.out ?_
      rintro e w5 ⟨rfl, hm⟩
      obtain ⟨dv, tv, hm⟩ := hm
      have d0 := hm.cell (i := 0) rfl
      have db := hm.lt
      have HT := Lib.hid (told_any HRC.out HRL.out (hm.of_eq (show _ = rowK dv (runM F word) * (pts b (F.mbox ⟨.slice ca F.chars.length cc, .slice sa F.steps.length sc, .slice ka F.kerns.length kc, .slice pa F.pieces.length pc, .slice ra F.params.length rc⟩ dv tv) * (rowK tv [] * ((rowK u11 (word.map mkW) * pts bf (F.box ⟨.slice ca F.chars.length cc, .slice sa F.steps.length sc, .slice ka F.kerns.length kc, .slice pa F.pieces.length pc, .slice ra F.params.length rc⟩)) * own w))) by ac_rfl)))
      clear hm HRN
      go_wp2_with fail
      with_reducible refine Calls.mono HT.out ?_
      rintro e w6 ⟨u, rfl, h6⟩
      have H6 := Lib.hid (h6.of_eq (show _ = (rowK dv (runM F word) * (pts b (F.mbox ⟨.slice ca F.chars.length cc, .slice sa F.steps.length sc, .slice ka F.kerns.length kc, .slice pa F.pieces.length pc, .slice ra F.params.length rc⟩ dv tv) * (rowK tv [] * (rowK u11 (word.map mkW) * pts bf (F.box ⟨.slice ca F.chars.length cc, .slice sa F.steps.length sc, .slice ka F.kerns.length kc, .slice pa F.pieces.length pc, .slice ra F.params.length rc⟩))))) * (rowP u ((runM F word).map pieceM) * own w) by ac_rfl)).r
      clear h6 HT d0 db
      go_wp2
      go_ret2
      exact ⟨u, rfl, H6.out⟩
end Go.Proofs.Ytigjfbbgbiajbaa
