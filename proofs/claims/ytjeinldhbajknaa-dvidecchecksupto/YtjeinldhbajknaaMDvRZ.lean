import Derived.Test.YtjeinldhbajknaaMDvRW
import Derived.Test.YtjeinldhbajknaaMDvRX
import Derived.Test.YtjeinldhbajknaaMDvRY
/-
  DvidecChecks, walked. Conditions: those that each theorem names.
-/
namespace Go.Proofs.Ytjeinldhbajknaa
open Go.RowKit Go.Sp Go.Conc
variable {W w w' : World} {A : HProp}

theorem conv_all {v : Value} {l : List UInt8} (h : Rd w v l.length 1 (l.map byteV)) : (convert 22 9 v).run Try.prog w = .ok (.string ⟨l.toArray⟩) w := by
  have h0 := h
  obtain ⟨_, _, a, c, rfl, hat⟩ := h
  cases l with
  | nil =>
    cases a with
    | none => exact run_convert_bytes_nil (P := Try.prog) (w := w) 22 5 Try.underlying22 Try.underlying5 0 c 9 Try.underlying9
    | some x =>
      refine run_convert_bytes_back (P := Try.prog) w 22 9 5 x c [] Try.underlying22 Try.underlying5 Try.underlying9 fun j hj => ?_
      simp at hj
  | cons x l =>
    obtain ⟨g, off, rfl, -⟩ := hat 0 (byteV x) rfl
    exact conv_rd h0
set_option maxRecDepth 100000 in
set_option maxHeartbeats 8000000 in
theorem checks_law {l : List UInt8} {a : Option Addr} {cap : Nat} (hl : l.length ≤ 1048576) (hcap : l.length ≤ cap) (hv : Rd w (.slice a l.length cap) l.length 1 (l.map byteV)) :
    Calls Try.prog 6 #[.slice a l.length cap] w fun e w' => e = .returned (.bool true) ∧ Sat w (own w) w' := by
  obtain ⟨i0, hi, hz0, hz1, hz2⟩ := info_parts3B info_u8B
  have HI := Lib.hid hi
  have HZ0 := Lib.hid hz0
  have HZ1 := Lib.hid hz1
  have HZ2 := Lib.hid hz2
  have HL := Lib.hid hl
  have HV := Lib.hid hv
  have HCAP := Lib.hid (show ∀ a' n c, Value.slice a l.length cap = .slice a' n c → l.length ≤ c from fun a' n c h => by cases h; exact hcap)
  have HST := Lib.hid (Sat.start w)
  have HRD0 := Lib.hid (hv.ext ((Ext.refl w).alloc (o := .cells #[] 5)))
  clear hi hz0 hz1 hz2 hl hv
  go_enter Try.func6, Try.ntmps6
  go_wp2_with (at_builtin; refine wpList_append_rd rfl _ _ 22 rfl i0 _ 1 Try.underlying22 HI.out HZ0.out HZ1.out HZ2.out rfl (by decide) rfl (empty_row HST.out) (.slice a l.length cap) l.length (bytesB l) rfl ?_ ?_ ?_ ?_ ?_)
  · exact HRD0.out
  · exact bytesB_one _
  · have := HL.out; simp [maxLen]; omega
  · have := HL.out; simp; omega
  intro v15 w1 h1
  have h2 : Sat w (rowB v15 l * own w) w1 := rowB_app (acc := []) (l := l) h1 (by simp) rfl
  have HF := Lib.hid (fonts_any (rowB_rd h2))
  have H2 := Lib.hid h2
  clear h1 h2 HST HRD0
  go_wp2_with fail
  with_reducible refine Calls.mono HF.out ?_
  rintro e w2 ⟨av, rfl, h3⟩
  obtain ⟨aa, ac, hav, -⟩ := h3.row_val
  subst hav
  have h4 := Sat.frame H2.out h3
  obtain ⟨x, hx⟩ : ∃ x, errM l = x := ⟨_, rfl⟩
  obtain ⟨ag, hag⟩ : ∃ ag, againM l = ag := ⟨_, rfl⟩
  have hfr := fontsR_any (A := row (.slice aa (againM l).length ac) (againM l).length 56 5 (flatD (againM l)) * (rowB v15 l * own w)) (fun w' h => HV.out.ext h.r.r.toExt) HCAP.out h4
  rw [hx, hag] at hfr
  rw [hag] at h4
  rw [hx, hag]
  have HFR := Lib.hid hfr
  have HX := Lib.hid hx
  have H4 := Lib.hid h4
  clear h3 h4 hfr HF H2 hx hag
  go_wp2_with fail
  with_reducible refine Calls.mono HFR.out ?_
  rintro e w3 ⟨fa, fc, rfl, h5⟩
  have hla := last_any (rowB_rd h5.r.r)
  obtain ⟨p3, p4, p5, p6, p7, hpt⟩ : ∃ p3 p4 p5 p6 p7, tailV (postM l) = .agg #[.int .i64 p3, .int .i64 p4, .int .i64 p5, .int .i64 p6, .int .i64 p7] := ⟨_, _, _, _, _, rfl⟩
  rw [hpt, HX.out] at hla
  have HLA := Lib.hid hla
  have HPT := Lib.hid hpt
  have H5 := Lib.hid h5
  clear hla hpt h5 HFR H4
  go_wp2_with fail
  with_reducible refine Calls.mono HLA.out ?_
  rintro e w4 ⟨rfl, h6⟩
  have h7 := (H5.out.thru h6).alloc (.cells #[.int .i64 p3, .int .i64 p4, .int .i64 p5, .int .i64 p6, .int .i64 p7] 39)
  obtain ⟨b8, hb8⟩ : ∃ b, w4.heap.size = b := ⟨_, rfl⟩
  rw [hb8] at h7
  obtain ⟨W5, hW5⟩ : ∃ W5, w4.alloc (.cells #[.int .i64 p3, .int .i64 p4, .int .i64 p5, .int .i64 p6, .int .i64 p7] 39) = W5 := ⟨_, rfl⟩
  rw [hW5] at h7
  have hlr := lastR_any (fun w' h => HV.out.ext h.r.r.r.r.toExt) HCAP.out h7
  rw [HPT.out, HX.out] at hlr
  have HLR := Lib.hid hlr
  have HW5 := Lib.hid hW5
  clear hlr hW5 h6 h7 HLA H5
  go_upto_region 5 with fail
  rw [HW5.out]
  clear HW5 hb8
  go_wp2_with fail
  with_reducible refine Calls.mono HLR.out ?_
  rintro e w6 ⟨rfl, h8⟩
  have h9 := h8.alloc (.cells (rtC p3 p4 p5 p6 p7) 51)
  obtain ⟨b10, hb10⟩ : ∃ b, w6.heap.size = b := ⟨_, rfl⟩
  rw [hb10] at h9
  obtain ⟨W7, hW7⟩ : ∃ W7, w6.alloc (.cells (rtC p3 p4 p5 p6 p7) 51) = W7 := ⟨_, rfl⟩
  rw [hW7] at h9
  have HW7 := Lib.hid hW7
  have H9 := Lib.hid h9
  have hck := check_any (rowB_rd h9.r.r.r.r)
  rw [HX.out] at hck
  have HCK := Lib.hid hck
  clear hck hW7 h8 h9 HLR
  go_upto_region 6 with fail
  rw [HW7.out]
  clear HW7 hb10
  go_wp2_with fail
  with_reducible refine Calls.mono HCK.out ?_
  rintro e w8 ⟨rfl, h10⟩
  have h11 := H9.out.thru h10
  have hcr := checkR_any (fun w' h => HV.out.ext h.r.r.r.r.r.toExt) HCAP.out h11
  rw [HX.out] at hcr
  have HCR := Lib.hid hcr
  clear hcr h10 h11 HCK H9
  go_wp2_with (first | (go_at_call 10; with_reducible refine Calls.mono (num_any _ _) ?_; rintro e _ ⟨rfl, rfl⟩) | fail)
  with_reducible refine Calls.mono HCR.out ?_
  rintro e w9 ⟨rfl, h12⟩
  have H12 := Lib.hid h12
  have cv1 := conv_all (rowB_rd h12.r.r.r.r)
  have cv2 := conv_all (HV.out.ext h12.r.r.r.r.r.toExt)
  obtain ⟨_, _, va, vc, hv15, -⟩ := rowB_rd h12.r.r.r.r
  subst hv15
  clear HCR h12
  go_wp2_with (first | (go_at_call 10; with_reducible refine Calls.mono (num_any _ _) ?_; rintro e _ ⟨rfl, rfl⟩) | fail)
  clear cv1 cv2
  go_loopg [12] ag.length (fun gg s12 wx => ∃ i : Nat, i ≤ ag.length ∧ gg = ag.length - i ∧ s12 = .int .i64 i ∧ Sat w (pts b10 (.cells (rtC p3 p4 p5 p6 p7) 51) * (pts b8 (.cells #[.int .i64 p3, .int .i64 p4, .int .i64 p5, .int .i64 p6, .int .i64 p7] 39) * (row (.slice fa ag.length fc) ag.length 57 5 (flatD ag) * (row (.slice aa ag.length ac) ag.length 56 5 (flatD ag) * (rowB (.slice va l.length vc) l * own w))))) wx)
  case atStart => exact ⟨0, Nat.zero_le _, rfl, rfl, H12.out⟩
  case round =>
    clear H12
    obtain ⟨i, hi, rfl, rfl, hx⟩ := hrel
    by_cases hlt : i < ag.length
    · obtain ⟨d, hd⟩ : ∃ d, ag[i]? = some d := ⟨_, List.getElem?_eq_getElem hlt⟩
      obtain ⟨W9, hW9⟩ : ∃ W9, wr.drew = W9 := ⟨_, rfl⟩
      have h9 := hx.drew
      rw [hW9] at h9
      obtain ⟨_, _, e, hat⟩ := h9.r.r.row_val
      cases e
      obtain ⟨_, _, e, hbt⟩ := h9.r.r.r.row_val
      cases e
      obtain ⟨g, hga, y0⟩ := hat (i * 5 + 0) _ ((flatD_get ag i 0 d (by decide) hd).trans rfl)
      subst hga
      obtain ⟨g', hga, y1⟩ := hat (i * 5 + 1) _ ((flatD_get ag i 1 d (by decide) hd).trans rfl)
      cases hga
      obtain ⟨g', hga, y2⟩ := hat (i * 5 + 2) _ ((flatD_get ag i 2 d (by decide) hd).trans rfl)
      cases hga
      obtain ⟨g', hga, y3⟩ := hat (i * 5 + 3) _ ((flatD_get ag i 3 d (by decide) hd).trans rfl)
      cases hga
      obtain ⟨g', hga, y4⟩ := hat (i * 5 + 4) _ ((flatD_get ag i 4 d (by decide) hd).trans rfl)
      cases hga
      obtain ⟨k, hga, z0⟩ := hbt (i * 5 + 0) _ ((flatD_get ag i 0 d (by decide) hd).trans rfl)
      subst hga
      obtain ⟨g', hga, z1⟩ := hbt (i * 5 + 1) _ ((flatD_get ag i 1 d (by decide) hd).trans rfl)
      cases hga
      obtain ⟨g', hga, z2⟩ := hbt (i * 5 + 2) _ ((flatD_get ag i 2 d (by decide) hd).trans rfl)
      cases hga
      obtain ⟨g', hga, z3⟩ := hbt (i * 5 + 3) _ ((flatD_get ag i 3 d (by decide) hd).trans rfl)
      cases hga
      obtain ⟨g', hga, z4⟩ := hbt (i * 5 + 4) _ ((flatD_get ag i 4 d (by decide) hd).trans rfl)
      cases hga
      rw [Nat.add_zero] at y0 z0
      obtain ⟨d1, d2, d3, d4, d5⟩ := d
      simp only at y0 y1 y2 y3 y4 z0 z1 z2 z3 z4
      have H9 := Lib.hid h9
      have HLT := Lib.hid hlt
      have HN := Lib.hid (show ag.length ≤ 9223372036854775807 by
        have := h9.r.r.row_len
        have := this.2
        simp [maxLen] at this
        omega)
      have j1 : (i : Int) < (ag.length : Int) := by omega
      have j2 : (0 : Int) ≤ (i : Int) := by omega
      clear hat hbt hd hx hlt h9
      go_upto_region 11 with fail
      refine wp_region_tail (fun w' => w' = W9) 62 (by kernel_rfl) (by kernel_rfl) hW9 ?_
      simp only [List.take_succ_cons, List.take_zero, List.drop_succ_cons, List.drop_zero]
      clear hW9
      iterate 62
        with_reducible refine wpQuiet_val (v := ?_) ?_
        rotate_left 1
        intro K hK
        refine ⟨by kernel_rfl, fun w9 hw9 => ?_, ?_⟩
        · subst hw9; go_simp; try with_reducible rfl
        go_simp
        with_reducible refine hK _ ?_
        clear hK K
      refine wpQuiet_nil ?_
      rintro w17 rfl
      clear y0 y1 y2 y3 y4 z0 z1 z2 z3 z4
      have j3 : wrap64 ((i : Int) + 1) = (i : Int) + 1 := by have := HN.out; have := HLT.out; unfold wrap64; omega
      go_wp2
      go_roundg (ag.length - (i + 1))
      case measure => have := HLT.out; omega
      case rel => exact ⟨i + 1, HLT.out, rfl, by go_num, H9.out⟩
    · have j1 : ¬ ((i : Int) < (ag.length : Int)) := by omega
      have c0 := hx.cell (i := 0) rfl
      have c1 := hx.cell (i := 1) rfl
      have c2 := hx.cell (i := 2) rfl
      have c3 := hx.cell (i := 3) rfl
      have c4 := hx.cell (i := 4) rfl
      have e0 := hx.r.cell (i := 0) rfl
      have e1 := hx.r.cell (i := 1) rfl
      have e2 := hx.r.cell (i := 2) rfl
      have e3 := hx.r.cell (i := 3) rfl
      have e4 := hx.r.cell (i := 4) rfl
      have HLV := Lib.hid (live_any hx.r.r.r.r.r)
      clear hx
      go_wp2_with fail
      with_reducible refine Calls.mono HLV.out ?_
      rintro e w20 ⟨rfl, h20⟩
      have H20 := Lib.hid h20
      clear h20 HLV
      go_wp2
      go_ret
      exact ⟨rfl, H20.out⟩

theorem checks_ext {l : List UInt8} {a : Option Addr} {cap : Nat} (hl : l.length ≤ 1048576) (hcap : l.length ≤ cap) (hv : Rd w (.slice a l.length cap) l.length 1 (l.map byteV)) :
    Calls Try.prog 6 #[.slice a l.length cap] w fun e w' => e = .returned (.bool true) ∧ Ext w w' :=
  (checks_law hl hcap hv).mono fun _ _ h => ⟨h.1, h.2.toExt⟩

end Go.Proofs.Ytjeinldhbajknaa
