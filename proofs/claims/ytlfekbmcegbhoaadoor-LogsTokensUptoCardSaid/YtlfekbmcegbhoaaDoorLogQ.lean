
/-
  The reference's Macro as text. Conditions: those that each theorem names.
-/
import Derived.Test.YtlfekbmcegbhoaaDoorLogP
namespace Go.Proofs.YtlfekbmcegbhoaaDoor
open Go.RowKit Go.Sp
variable {W w w' : World} {F F' : HProp}


set_option maxRecDepth 1000000 in
set_option maxHeartbeats 8000000 in
theorem macroR_any (C : List Int) (hC : C.length = 256) (P B : List Tok) (vp vb : Value) (long : Bool) (hp : ∀ w', Sat W F w' → RdT w' vp P) (hb : ∀ w', Sat W F w' → RdT w' vb B) (hlP : P.length ≤ 4000000000) (hlB : B.length ≤ 4000000000)
    (hTP : (textB C P).length ≤ 200000000) (hTB : (textB C B).length ≤ 200000000) (hNP : ∀ t ∈ P, t.name.size ≤ 2000000) (hNB : ∀ t ∈ B, t.name.size ≤ 2000000) (h : Sat W F w) :
    Calls Tryd.prog 17 #[.agg #[vp, vb, .bool long], codesV C] w fun e w' => e = .returned (.tuple #[(.string ⟨((macM C P B long).1).toArray⟩), .int .i64 (macM C P B long).2]) ∧ Sat W F w' := by
  have h0 := ((h.alloc (mB vp vb long)).alloc (codesO C 40)).of_eq (show _ = pts (w.heap.size + 1) (codesO C 40) * (pts w.heap.size (mB vp vb long) * F) by simp)
  have hd : (Tryd.prog.info? 40).map (·.size) = some ((C.map (Value.int .i64)).toArray).size := by rw [size_codes]; simp [hC]
  have HD := Lib.hid hd
  have r0 := h0.r.cell (i := 0) rfl
  have r1 := h0.r.cell (i := 1) rfl
  have r2 := h0.r.cell (i := 2) rfl
  have lr := h0.r.lt
  obtain ⟨W0, hW0⟩ : ∃ W0, (w.alloc (mB vp vb long)).alloc (codesO C 40) = W0 := ⟨_, rfl⟩
  rw [hW0] at h0 r0 r1 r2 lr
  have H0 := Lib.hid h0
  have HCK := Lib.hid (checkR_any P B vp vb long W0 (hp W0 h0.r.r) (hb W0 h0.r.r) hlP hlB)
  obtain ⟨pa, pc, rfl⟩ := (hp w h).val
  obtain ⟨ba, bcp, rfl⟩ := (hb w h).val
  obtain ⟨bm, hbm⟩ : ∃ bm, w.heap.size = bm := ⟨_, rfl⟩
  rw [hbm] at H0 r0 r1 r2 lr
  obtain ⟨bc, hbc⟩ : ∃ bc, bm + 1 = bc := ⟨_, rfl⟩
  rw [hbc] at H0
  cases hck : check P B with
  | false =>
    rw [macM_no hck]
    rw [checkE_no hck] at HCK
    clear h0 h hp hb hd hC hTP hTB hNP hNB hck
    go_enter Tryd.func17, Tryd.ntmps17
    go_wp2_with fail
    clear hW0 hbm hbc
    refine Calls.mono HCK.out ?_
    rintro e w1 ⟨rfl, hx⟩
    have H1 := Lib.hid (H0.out.ext hx)
    clear hx
    go_wp2
    go_ret2
    exact ⟨rfl, H1.out.r.r⟩
  | true =>
    rw [checkE_yes hck] at HCK
    have HTP := Lib.hid (fun (w' : World) (h : Sat W (pts bc (codesO C 40) * (pts bm (mB (.slice pa P.length pc) (.slice ba B.length bcp) long) * F)) w') => tokensR_m C hC _ P 4611686018427387904 (by unfold maxLen; omega) (fun w' h => hp w' h.r.r) hTP hNP h)
    have HTB := Lib.hid (fun (w' : World) (h : Sat W (pts bc (codesO C 40) * (pts bm (mB (.slice pa P.length pc) (.slice ba B.length bcp) long) * F)) w') => tokensR_m C hC _ B 4611686018427387904 (by unfold maxLen; omega) (fun w' h => hb w' h.r.r) hTB hNB h)
    have hzp := tokM_len C 4611686018427387904 P
    have hzb := tokM_len C 4611686018427387904 B
    have HM := Lib.hid (@macM_yes C P B)
    have HMB := Lib.hid (show macB C P B = [109, 97, 99, 114, 111, 58] ++ (tokM C 4611686018427387904 P).1 ++ [45, 62] ++ (tokM C 4611686018427387904 B).1 from rfl)
    obtain ⟨⟨lp, ep⟩, hlp⟩ : ∃ r, tokM C 4611686018427387904 P = r := ⟨_, rfl⟩
    obtain ⟨⟨lb, eb⟩, hlb⟩ : ∃ r, tokM C 4611686018427387904 B = r := ⟨_, rfl⟩
    rw [hlp] at HTP hzp HMB
    rw [hlb] at HTB hzb HMB
    simp only at HTP HTB hzp hzb HMB
    clear hlp hlb
    have hza : (⟨lp.toArray⟩ : ByteArray).size = lp.length := by simp [ByteArray.size]
    have hzc : (⟨lb.toArray⟩ : ByteArray).size = lb.length := by simp [ByteArray.size]
    obtain ⟨M1, c1, z1⟩ := join_sz (a := ⟨#[109, 97, 99, 114, 111, 58]⟩) rfl hza
    obtain ⟨M2, c2, z2⟩ := join_sz (b := ⟨#[45, 62]⟩) z1 rfl
    obtain ⟨M3, c3, z3⟩ := join_sz z2 hzc
    obtain ⟨L1, d1, y1⟩ := join_sz (a := ⟨#[92]⟩) (b := ⟨#[108, 111, 110, 103, 32]⟩) rfl rfl
    obtain ⟨L3, d3, y3⟩ := join_sz y1 z3
    have HM3 := Lib.hid (show M3 = ⟨(macB C P B).toArray⟩ by
      rw [← c3, ← c2, ← c1, HMB.out, show (⟨#[109, 97, 99, 114, 111, 58]⟩ : ByteArray) = ⟨([109, 97, 99, 114, 111, 58] : List UInt8).toArray⟩ from rfl, show (⟨#[45, 62]⟩ : ByteArray) = ⟨([45, 62] : List UInt8).toArray⟩ from rfl, cat_mk, cat_mk, cat_mk])
    have HL3 := Lib.hid (show L3 = ⟨(longB ++ macB C P B).toArray⟩ by
      rw [← d3, ← d1, HM3.out, show (⟨#[92]⟩ : ByteArray) = ⟨([92] : List UInt8).toArray⟩ from rfl, show (⟨#[108, 111, 110, 103, 32]⟩ : ByteArray) = ⟨([108, 111, 110, 103, 32] : List UInt8).toArray⟩ from rfl, cat_mk, cat_mk]
      rfl)
    generalize (⟨lp.toArray⟩ : ByteArray) = sp at *
    generalize (⟨lb.toArray⟩ : ByteArray) = sb at *
    have hzp2 : lp.length ≤ 200000005 := by omega
    have hzb2 : lb.length ≤ 200000005 := by omega
    clear hzp hzb
    have HC := Lib.hid hC
    obtain ⟨res, hres⟩ : ∃ res, macM C P B long = res := ⟨_, rfl⟩
    rw [hres]
    have HRES := Lib.hid hres
    have HK := Lib.hid hck
    clear h0 h hp hb hd hC hTP hTB hNP hNB hck hres
    generalize lp.length = np at *
    generalize lb.length = nb at *
    cases long
    all_goals
      go_enter Tryd.func17, Tryd.ntmps17
      go_wp2_with fail
      clear hW0 hbm hbc
      refine Calls.mono HCK.out ?_
      rintro e w1 ⟨rfl, hx⟩
      have H1 := Lib.hid (H0.out.ext hx)
      clear hx r0 r1 r2 lr
      have r0 := H1.out.r.cell (i := 0) rfl
      have r1 := H1.out.r.cell (i := 1) rfl
      have r2 := H1.out.r.cell (i := 2) rfl
      have lr := H1.out.r.lt
      have HBK := Lib.hid H1.out.blk
      go_upto_region 4 with fail
      go_step
      refine wpList_plain rfl (fun K hK => ?_)
      go_simp
      refine hK _ _ ?_
      clear hK K
      refine wpList_plain rfl (fun K hK => ?_)
      go_simp
      refine hK _ _ ?_
      clear hK K
      refine wpList_load_row rfl 40 (.tmp 3) rfl bc rfl 40 _ _ _ HBK.out Tryd.underlying40 rfl HD.out ?_
      go_wp2_with fail
      refine Calls.mono (HTP.out _ H1.out) ?_
      rintro e w2 ⟨rfl, h2⟩
      have H2 := Lib.hid h2
      clear h2 r0 r1 r2 lr HBK
      have r0 := H2.out.r.cell (i := 0) rfl
      have r1 := H2.out.r.cell (i := 1) rfl
      have r2 := H2.out.r.cell (i := 2) rfl
      have lr := H2.out.r.lt
      have HBK := Lib.hid H2.out.blk
      go_upto_region 5 with fail
      go_step
      refine wpList_plain rfl (fun K hK => ?_)
      go_simp
      refine hK _ _ ?_
      clear hK K
      refine wpList_plain rfl (fun K hK => ?_)
      go_simp
      refine hK _ _ ?_
      clear hK K
      refine wpList_load_row rfl 40 (.tmp 3) rfl bc rfl 40 _ _ _ HBK.out Tryd.underlying40 rfl HD.out ?_
      go_wp2_with fail
      refine Calls.mono (HTB.out _ H2.out) ?_
      rintro e w3 ⟨rfl, h3⟩
      have H3 := Lib.hid h3.r.r
      clear r0 r1 r2 lr HBK
      have r2 := h3.r.cell (i := 2) rfl
      have lr := h3.r.lt
      have hcv := conv_int w3 92 92 rfl
      clear h3
      go_wp2
      go_ret2
      first
        | exact ⟨by rw [← HRES.out, (HM.out HK.out).1, ← HM3.out]; rfl, H3.out⟩
        | exact ⟨by rw [← HRES.out, (HM.out HK.out).2, ← HL3.out]; rfl, H3.out.allocD⟩

end Go.Proofs.YtlfekbmcegbhoaaDoor
