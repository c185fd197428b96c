/-
  The law MacrosDefines, walked. Conditions: those that the theorem names.
-/
import Derived.Test.YtlbebcioabfbgaaMacBB
import Derived.Test.YtlbebcioabfbgaaMacX
import Derived.Test.YtlbebcioabfbgaaMacZ
namespace Go.Proofs.Ytlbebcioabfbgaa
open Go.RowKit Go.Sp
variable {W w w' : World} {F : HProp}

abbrev mObj (u v : Value) (l : Bool) (t : TypeId) : Obj := .cells #[u, v, .bool l] t


set_option maxRecDepth 100000 in
set_option maxHeartbeats 8000000 in
theorem defines_law (P B : List Tok) (vp vb : Value) (long : Bool) (w : World) (hp : RdT w vp P) (hb : RdT w vb B) (hnP : P.length ≤ 1048576) (hnB : B.length ≤ 1048576) :
    Calls Try.prog 3 #[vp, vb, .bool long] w fun e w' => e = .returned (.bool true) ∧ Ext w w' := by
  have HP := Lib.hid hp
  have HB := Lib.hid hb
  have NP := Lib.hid (show P.length ≤ 4000000000 by omega)
  have NB := Lib.hid (show B.length ≤ 4000000000 by omega)
  have HT1 := Lib.hid (tokens_any P vp w NP.out hp)
  obtain ⟨d, hd⟩ : ∃ d, define P B long = d := ⟨_, rfl⟩
  have HD := Lib.hid hd
  clear hp hb hnP hnB hd
  go_enter Try.func3, Try.ntmps3
  go_wp2_with fail
  refine Calls.mono HT1.out ?_
  rintro e w1 ⟨up, rfl, h1⟩
  have H1 := Lib.hid h1
  clear h1 HT1
  go_wp2_with fail
  refine Calls.mono (tokens_any B vb w1 NB.out (HB.out.ext H1.out.extR)) ?_
  rintro e w2 ⟨ub, rfl, h2⟩
  have H2 := Lib.hid (Sat.frame H1.out h2)
  clear h2 H1
  have HDF := Lib.hid (define_any P B up ub long w2 (rowT_rd H2.out.r) (rowT_rd H2.out) NP.out NB.out)
  go_wp2_with fail
  refine Calls.mono HDF.out ?_
  rintro e w3 h3
  unfold DefPost at h3
  rw [HD.out] at h3
  obtain ⟨u, v, rfl, h3⟩ := h3
  obtain ⟨ua, uc, rfl, -⟩ := (rowT_rd h3).capd
  obtain ⟨va, vc, rfl, -⟩ := (rowT_rd h3.r).capd
  have H3 := Lib.hid ((Sat.frame (A := rowT (.slice ua d.P.length uc) d.P * rowT (.slice va d.B.length vc) d.B) H2.out (h3.of_eq (by ac_rfl))).alloc (mObj (.slice ua d.P.length uc) (.slice va d.B.length vc) d.long 25))
  clear h3 H2 HDF
  go_upto_region 4 with fail
  generalize w3.alloc (mObj (.slice ua d.P.length uc) (.slice va d.B.length vc) d.long 25) = W4 at *
  generalize w3.heap.size = bm at *
  have HDF := Lib.hid (defineR_any P B vp vb long W4 (HP.out.ext H3.out.r.r.r.extR) (HB.out.ext H3.out.r.r.r.extR) NP.out NB.out)
  go_wp2_with fail
  refine Calls.mono HDF.out ?_
  rintro e w5 h3
  unfold DefPost at h3
  rw [HD.out] at h3
  obtain ⟨u', v', rfl, h3⟩ := h3
  obtain ⟨ua', uc', rfl, -⟩ := (rowT_rd h3).capd
  obtain ⟨va', vc', rfl, -⟩ := (rowT_rd h3.r).capd
  have H4 := Lib.hid ((Sat.frame (A := rowT (.slice ua' d.P.length uc') d.P * rowT (.slice va' d.B.length vc') d.B) H3.out (h3.of_eq (by ac_rfl))).alloc (mObj (.slice ua' d.P.length uc') (.slice va' d.B.length vc') d.long 29))
  clear h3 H3 HDF HD
  go_upto_region 5 with fail
  generalize w5.alloc (mObj (.slice ua' d.P.length uc') (.slice va' d.B.length vc') d.long 29) = W6 at *
  generalize w5.heap.size = br at *
  obtain ⟨dP, dB, dl, de⟩ := d
  simp only at *
  have H5 := Lib.hid (H4.out.of_eq (show _ = pts br (mObj (.slice ua' dP.length uc') (.slice va' dB.length vc') dl 29) * (pts bm (mObj (.slice ua dP.length uc) (.slice va dB.length vc) dl 25) * (rowT (.slice ua dP.length uc) dP * (rowT (.slice va dB.length vc) dB * (rowT (.slice ua' dP.length uc') dP * (rowT (.slice va' dB.length vc') dB * (rowT up P * (rowT ub B * own w))))))) by ac_rfl))
  clear H4
  have a0 := H5.out.cell (i := 0) rfl
  have a1 := H5.out.cell (i := 1) rfl
  have a2 := H5.out.cell (i := 2) rfl
  have al := H5.out.lt
  have b0 := H5.out.r.cell (i := 0) rfl
  have b1 := H5.out.r.cell (i := 1) rfl
  have b2 := H5.out.r.cell (i := 2) rfl
  have bl := H5.out.r.lt
  have HAL := Lib.hid (alike_self dP dB (.slice ua dP.length uc) (.slice va dB.length vc) (.slice ua' dP.length uc') (.slice va' dB.length vc') dl W6 (rowT_rd H5.out.r.r) (rowT_rd H5.out.r.r.r) (rowT_rd H5.out.r.r.r.r) (rowT_rd H5.out.r.r.r.r.r))
  go_wp2_with (first
    | (go_at_call 14; with_reducible refine Calls.mono (num_any _ _) ?_; rintro e w' ⟨rfl, rfl⟩)
    | (go_at_call 15; with_reducible refine Calls.mono HAL.out ?_; rintro e w7 ⟨rfl, hx⟩; have H6 := Lib.hid (H5.out.ext hx); clear hx HAL; have HS1 := Lib.hid (sameT_self up vp w7 (rowT_rd H6.out.r.r.r.r.r.r) (HP.out.ext H6.out.r.r.r.r.r.r.r.r.toExt)))
    | (go_at_call 16; with_reducible refine Calls.mono HS1.out ?_; rintro e w8 ⟨rfl, hx⟩; have H7 := Lib.hid (H6.out.ext hx); clear hx HS1; have HS2 := Lib.hid (sameT_self ub vb w8 (rowT_rd H7.out.r.r.r.r.r.r.r) (HB.out.ext H7.out.r.r.r.r.r.r.r.r.toExt)))
    | (go_at_call 16; with_reducible refine Calls.mono HS2.out ?_; rintro e w9 ⟨rfl, hx⟩; have H8 := Lib.hid (H7.out.ext hx); clear hx HS2; have HSP := Lib.hid (spoil_any P up w9 NP.out (H8.out.of_eq (show _ = rowT up P * (pts br (mObj (.slice ua' dP.length uc') (.slice va' dB.length vc') dl 29) * (pts bm (mObj (.slice ua dP.length uc) (.slice va dB.length vc) dl 25) * (rowT (.slice ua dP.length uc) dP * (rowT (.slice va dB.length vc) dB * (rowT (.slice ua' dP.length uc') dP * (rowT (.slice va' dB.length vc') dB * (rowT ub B * own w)))))))  by ac_rfl))))
    | (go_at_call 17; with_reducible refine Calls.mono HSP.out ?_; rintro e wa ⟨rfl, L1, hL1, hx⟩; have H9 := Lib.hid (hx.of_eq (show _ = rowT ub B * (pts br (mObj (.slice ua' dP.length uc') (.slice va' dB.length vc') dl 29) * (pts bm (mObj (.slice ua dP.length uc) (.slice va dB.length vc) dl 25) * (rowT (.slice ua dP.length uc) dP * (rowT (.slice va dB.length vc) dB * (rowT (.slice ua' dP.length uc') dP * (rowT (.slice va' dB.length vc') dB * (rowT up L1 * own w))))))) by ac_rfl)); clear hx hL1 HSP; have HSQ := Lib.hid (spoil_any B ub wa NB.out H9.out))
    | (go_at_call 17; with_reducible refine Calls.mono HSQ.out ?_; rintro e wb ⟨rfl, L2, hL2, hx⟩; have HA := Lib.hid hx; clear hx hL2 HSQ a0 a1 a2 al b0 b1 b2 bl; have a0 := HA.out.r.cell (i := 0) rfl; have a1 := HA.out.r.cell (i := 1) rfl; have a2 := HA.out.r.cell (i := 2) rfl; have al := HA.out.r.lt; have b0 := HA.out.r.r.cell (i := 0) rfl; have b1 := HA.out.r.r.cell (i := 1) rfl; have b2 := HA.out.r.r.cell (i := 2) rfl; have bl := HA.out.r.r.lt; have HAM := Lib.hid (alike_self dP dB (.slice ua dP.length uc) (.slice va dB.length vc) (.slice ua' dP.length uc') (.slice va' dB.length vc') dl wb (rowT_rd HA.out.r.r.r) (rowT_rd HA.out.r.r.r.r) (rowT_rd HA.out.r.r.r.r.r) (rowT_rd HA.out.r.r.r.r.r.r)))
    | (go_at_call 15; with_reducible refine Calls.mono HAM.out ?_; rintro e wc ⟨rfl, hx⟩; have HB9 := Lib.hid (HA.out.ext hx); clear hx HAM)
    | (go_at_call 18; with_reducible refine Calls.mono (live_any _) ?_; rintro e w' ⟨rfl, hx⟩; have HBZ := Lib.hid (HB9.out.ext hx); clear hx))
  go_ret
  exact ⟨rfl, HBZ.out.r.r.r.r.r.r.r.r.toExt⟩

end Go.Proofs.Ytlbebcioabfbgaa
