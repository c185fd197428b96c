import Derived.Test.YtjeinldhbajknaaMF
import Derived.Deep.CutBlock
/-
  A command out of a feed. Conditions: those that each theorem names.
-/
namespace Go.Proofs.Ytjeinldhbajknaa
open Go.RowKit Go.Sp Go.Conc
variable {W w w' : World} {A : HProp}

set_option maxRecDepth 100000 in
set_option maxHeartbeats 16000000 in
theorem op_161 {b cf cap : Nat} {f : Fd} (hb : f.next.1 = 161) (h : FdAt W A b cf cap f w) :
    Calls Try.prog 30 #[.pointer (some ⟨b, 0, none⟩)] w fun e w' => ∃ va, e = .returned (.agg #[.int .i64 f.cmd.1.code, .int .i64 f.cmd.1.at_, va, .string ⟨f.cmd.1.text.toArray⟩]) ∧ FdAt W (rowI va f.cmd.1.args * A) b cf cap f.cmd.2 w' := by
  have hat : ∃ s r, Sat W (pts b (.cells #[.chan (some cf), .int .i64 f.at_, .bool f.lost] 110) * (pts cf (chanO cap f.l true s r) * A)) w := h.2
  obtain ⟨s, r, hs⟩ := hat
  have c1 := hs.cell (i := 1) rfl
  have lb := hs.lt
  clear hs
  have h2 := (h.allocX (.cells #[.int .i64 0, .int .i64 0, .slice none 0 0, .string ⟨#[]⟩] 33)).allocX (opO 0 f.at_ (.slice none 0 0) ⟨#[]⟩)
  obtain ⟨b2, hb2⟩ : ∃ b2, w.heap.size = b2 := ⟨_, rfl⟩
  have lb2 := lb
  rw [hb2] at lb2
  rw [show (w.alloc (.cells #[.int .i64 0, .int .i64 0, .slice none 0 0, .string ⟨#[]⟩] 33)).heap.size = b2 + 1 by simp [hb2], hb2] at h2
  have H2 := Lib.hid h2
  have HN := Lib.hid (next_any h2)
  clear h h2
  go_enter Try.func30, Try.ntmps30
  go_upto_region 2 with fail
  generalize (w.alloc (.cells #[.int .i64 0, .int .i64 0, .slice none 0 0, .string ⟨#[]⟩] 33)).alloc (opO 0 f.at_ (.slice none 0 0) ⟨#[]⟩) = W2 at *
  clear c1 lb lb2 hb2
  have hlt := f.next_lt
  obtain ⟨c, hc⟩ : ∃ c, f.next.1 = c := ⟨_, rfl⟩
  obtain ⟨f1, hf1⟩ : ∃ f1, f.next.2 = f1 := ⟨_, rfl⟩
  obtain ⟨xs, hxs⟩ : ∃ xs, (f1.args (sizesM c) []).1 = xs := ⟨_, rfl⟩
  obtain ⟨f2, hf2⟩ : ∃ f2, (f1.args (sizesM c) []).2 = f2 := ⟨_, rfl⟩
  obtain ⟨txt, htxt⟩ : ∃ txt, (f2.tail c xs).1 = txt := ⟨_, rfl⟩
  obtain ⟨fr, hfr⟩ : ∃ fr, (f2.tail c xs).2 = fr := ⟨_, rfl⟩
  obtain ⟨q, hq⟩ : ∃ q, f.at_ = q := ⟨_, rfl⟩
  have HCM := Lib.hid (show f.cmd = (⟨c, q, xs, txt⟩, fr) by
    unfold Fd.cmd
    simp only [hc, hf1, hxs, hf2, htxt, hfr, hq])
  rw [hc] at hlt HN hb
  rw [hf1] at HN
  rw [hq] at HN H2
  rw [hq]
  have HXS := Lib.hid hxs
  have HF2 := Lib.hid hf2
  have HTX := Lib.hid htxt
  have HFR := Lib.hid hfr
  clear hc hf1 hxs hf2 htxt hfr hq
  subst hb
  go_wp2_with fail
  refine Calls.mono HN.out ?_
  rintro e w3 ⟨rfl, h3⟩
  have a0 := h3.sat.cell (i := 0) rfl
  have ab := h3.sat.lt
  have af := h3.sat.free (i := 0)
  obtain ⟨Y, h4, back⟩ := h3.focus
  have h5 := (h4.asc.set (i := 0) (v := .int .i64 ((161 : Nat) : Int)))
  have h6 := back _ _ (show Sat W ((pts (b2 + 1) (opO (161 : Nat) q (.slice none 0 0) ⟨#[]⟩) * (pts b2 (.cells #[.int .i64 0, .int .i64 0, .slice none 0 0, .string ⟨#[]⟩] 33) * A)) * Y) _ from Sat.asc' h5)
  have H6 := Lib.hid h6
  clear h3 h4 h5 h6 back H2 HN
  go_upto_region 3 with fail
  generalize w3.setCell ⟨b2 + 1, 0, none⟩ (.int .i64 ((161 : Nat) : Int)) = W4 at *
  clear a0 ab af
  have a0 := H6.out.sat.cell (i := 0) rfl
  have ab := H6.out.sat.lt
  go_upto_block 0 with fail
  have hsz : sizesM 161 = [] := by
    unfold sizesM
    repeat (first | rw [if_pos (by omega)] | rw [if_neg (by omega)])
  have htn : textN 161 xs = none := by unfold textN; repeat (first | rw [if_pos (by omega)] | rw [if_neg (by omega)])
  have hx2 := HXS.out
  have hf2 := HF2.out
  have htx := HTX.out
  have hfr := HFR.out
  rw [hsz] at hx2 hf2
  rw [Fd.tail, htn, if_neg (by omega)] at htx hfr
  simp only at htx hfr
  simp only [Fd.args] at hx2 hf2
  have H5 := Lib.hid (show FdAt W (pts (b2 + 1) (opO (161 : Nat) q (.slice none 0 0) ⟨txt.toArray⟩) * (rowI (.slice none 0 0) xs * (pts b2 (.cells #[.int .i64 0, .int .i64 0, .slice none 0 0, .string ⟨#[]⟩] 33) * A))) b cf cap fr _ from by
    rw [← htx, ← hx2, ← hfr, ← hf2]
    exact H6.out.nilI.of_eq (show _ = pts (b2 + 1) (opO 161 q (.slice none 0 0) ⟨#[]⟩) * (rowI (.slice none 0 0) [] * (pts b2 (.cells #[.int .i64 0, .int .i64 0, .slice none 0 0, .string ⟨#[]⟩] 33) * A)) by ac_rfl))
  clear htn hsz htx hfr hx2 hf2 H6 HXS HF2 HTX HFR
  (try go_upto_region 41 with fail)
  obtain ⟨va, hx⟩ : ∃ va, FdAt W (pts (b2 + 1) (opO (161 : Nat) q va ⟨txt.toArray⟩) * (rowI va xs * (pts b2 (.cells #[.int .i64 0, .int .i64 0, .slice none 0 0, .string ⟨#[]⟩] 33) * A))) b cf cap fr _ := ⟨_, H5.out⟩
  clear H5
  have HE := Lib.hid (hx.of_eq (show _ = pts (b2 + 1) (opO (161 : Nat) q _ ⟨txt.toArray⟩) * (pts b2 (.cells #[.int .i64 0, .int .i64 0, .slice none 0 0, .string ⟨#[]⟩] 33) * (rowI _ xs * A)) by ac_rfl))
  obtain ⟨va1, vc, hva, -⟩ := hx.sat.r.row_val
  subst hva
  obtain ⟨Y, h7, back⟩ := HE.out.focus
  have h8 := h7.asc
  have x0 := h8.cell (i := 0) rfl
  have x1 := h8.cell (i := 1) rfl
  have x2 := h8.cell (i := 2) rfl
  have x3 := h8.cell (i := 3) rfl
  have y0 := h8.r.asc.cell (i := 0) rfl
  have y1 := h8.r.asc.cell (i := 1) rfl
  have y2 := h8.r.asc.cell (i := 2) rfl
  have y3 := h8.r.asc.cell (i := 3) rfl
  have z0 := h8.r.asc.free (i := 0)
  have z1 := h8.r.asc.free (i := 1)
  have z2 := h8.r.asc.free (i := 2)
  have z3 := h8.r.asc.free (i := 3)
  have xb := h8.lt
  have yb := h8.r.asc.lt
  have h9 := (((((h8.of_eq (show _ = pts b2 (.cells #[.int .i64 0, .int .i64 0, .slice none 0 0, .string ⟨#[]⟩] 33) * ((rowI (.slice va1 xs.length vc) xs * A) * Y * pts (b2 + 1) (opO (161 : Nat) q (.slice va1 xs.length vc) ⟨txt.toArray⟩)) by ac_rfl)).set (i := 0) (v := .int .i64 ((161 : Nat) : Int))).set (i := 1) (v := .int .i64 (q : Int))).set (i := 2) (v := .slice va1 xs.length vc)).set (i := 3) (v := .string ⟨txt.toArray⟩))
  have HH := Lib.hid (back _ _ h9.r.l)
  have h10 := h9.cell (i := 0) rfl
  clear h7 back hx HE h8 h10
  have HRES := Lib.hid h9
  clear h9
  go_wp2
  (try simp only [Exit.inBlock, Exit.then])
  refine bodyPost_ret (v := .agg #[.int .i64 ((161 : Nat) : Int), .int .i64 (q : Int), .slice va1 xs.length vc, .string ⟨txt.toArray⟩]) (by unfold results; go_simp) rfl ?_
  rw [HCM.out]
  exact ⟨_, rfl, HH.out⟩
set_option maxRecDepth 100000 in
set_option maxHeartbeats 16000000 in
theorem op_162 {b cf cap : Nat} {f : Fd} (hb : 162 ≤ f.next.1 ∧ f.next.1 ≤ 165) (h : FdAt W A b cf cap f w) :
    Calls Try.prog 30 #[.pointer (some ⟨b, 0, none⟩)] w fun e w' => ∃ va, e = .returned (.agg #[.int .i64 f.cmd.1.code, .int .i64 f.cmd.1.at_, va, .string ⟨f.cmd.1.text.toArray⟩]) ∧ FdAt W (rowI va f.cmd.1.args * A) b cf cap f.cmd.2 w' := by
  have hat : ∃ s r, Sat W (pts b (.cells #[.chan (some cf), .int .i64 f.at_, .bool f.lost] 110) * (pts cf (chanO cap f.l true s r) * A)) w := h.2
  obtain ⟨s, r, hs⟩ := hat
  have c1 := hs.cell (i := 1) rfl
  have lb := hs.lt
  clear hs
  have h2 := (h.allocX (.cells #[.int .i64 0, .int .i64 0, .slice none 0 0, .string ⟨#[]⟩] 33)).allocX (opO 0 f.at_ (.slice none 0 0) ⟨#[]⟩)
  obtain ⟨b2, hb2⟩ : ∃ b2, w.heap.size = b2 := ⟨_, rfl⟩
  have lb2 := lb
  rw [hb2] at lb2
  rw [show (w.alloc (.cells #[.int .i64 0, .int .i64 0, .slice none 0 0, .string ⟨#[]⟩] 33)).heap.size = b2 + 1 by simp [hb2], hb2] at h2
  have H2 := Lib.hid h2
  have HN := Lib.hid (next_any h2)
  clear h h2
  go_enter Try.func30, Try.ntmps30
  go_upto_region 2 with fail
  generalize (w.alloc (.cells #[.int .i64 0, .int .i64 0, .slice none 0 0, .string ⟨#[]⟩] 33)).alloc (opO 0 f.at_ (.slice none 0 0) ⟨#[]⟩) = W2 at *
  clear c1 lb lb2 hb2
  have hlt := f.next_lt
  obtain ⟨c, hc⟩ : ∃ c, f.next.1 = c := ⟨_, rfl⟩
  obtain ⟨f1, hf1⟩ : ∃ f1, f.next.2 = f1 := ⟨_, rfl⟩
  obtain ⟨xs, hxs⟩ : ∃ xs, (f1.args (sizesM c) []).1 = xs := ⟨_, rfl⟩
  obtain ⟨f2, hf2⟩ : ∃ f2, (f1.args (sizesM c) []).2 = f2 := ⟨_, rfl⟩
  obtain ⟨txt, htxt⟩ : ∃ txt, (f2.tail c xs).1 = txt := ⟨_, rfl⟩
  obtain ⟨fr, hfr⟩ : ∃ fr, (f2.tail c xs).2 = fr := ⟨_, rfl⟩
  obtain ⟨q, hq⟩ : ∃ q, f.at_ = q := ⟨_, rfl⟩
  have HCM := Lib.hid (show f.cmd = (⟨c, q, xs, txt⟩, fr) by
    unfold Fd.cmd
    simp only [hc, hf1, hxs, hf2, htxt, hfr, hq])
  rw [hc] at hlt HN hb
  rw [hf1] at HN
  rw [hq] at HN H2
  rw [hq]
  have HXS := Lib.hid hxs
  have HF2 := Lib.hid hf2
  have HTX := Lib.hid htxt
  have HFR := Lib.hid hfr
  clear hc hf1 hxs hf2 htxt hfr hq
  go_wp2_with fail
  refine Calls.mono HN.out ?_
  rintro e w3 ⟨rfl, h3⟩
  have a0 := h3.sat.cell (i := 0) rfl
  have ab := h3.sat.lt
  have af := h3.sat.free (i := 0)
  obtain ⟨Y, h4, back⟩ := h3.focus
  have h5 := (h4.asc.set (i := 0) (v := .int .i64 (c : Int)))
  have h6 := back _ _ (show Sat W ((pts (b2 + 1) (opO c q (.slice none 0 0) ⟨#[]⟩) * (pts b2 (.cells #[.int .i64 0, .int .i64 0, .slice none 0 0, .string ⟨#[]⟩] 33) * A)) * Y) _ from Sat.asc' h5)
  have H6 := Lib.hid h6
  clear h3 h4 h5 h6 back H2 HN
  go_upto_region 3 with fail
  generalize w3.setCell ⟨b2 + 1, 0, none⟩ (.int .i64 (c : Int)) = W4 at *
  clear a0 ab af
  have a0 := H6.out.sat.cell (i := 0) rfl
  have ab := H6.out.sat.lt
  go_upto_block 0 with fail
  have g128 : (128 : Int) ≤ (c : Int) := by omega
  have g133 : (133 : Int) ≤ (c : Int) := by omega
  have g143 : (143 : Int) ≤ (c : Int) := by omega
  have g148 : (148 : Int) ≤ (c : Int) := by omega
  have g153 : (153 : Int) ≤ (c : Int) := by omega
  have g157 : (157 : Int) ≤ (c : Int) := by omega
  have g162 : (162 : Int) ≤ (c : Int) := by omega
  have g167 : ¬ (167 : Int) ≤ (c : Int) := by omega
  have g235 : ¬ (235 : Int) ≤ (c : Int) := by omega
  have g239 : ¬ (239 : Int) ≤ (c : Int) := by omega
  have g243 : ¬ (243 : Int) ≤ (c : Int) := by omega
  have l131 : ¬ (c : Int) ≤ (131 : Int) := by omega
  have l136 : ¬ (c : Int) ≤ (136 : Int) := by omega
  have l146 : ¬ (c : Int) ≤ (146 : Int) := by omega
  have l151 : ¬ (c : Int) ≤ (151 : Int) := by omega
  have l156 : ¬ (c : Int) ≤ (156 : Int) := by omega
  have l160 : ¬ (c : Int) ≤ (160 : Int) := by omega
  have l165 : (c : Int) ≤ (165 : Int) := by omega
  have l170 : (c : Int) ≤ (170 : Int) := by omega
  have l238 : (c : Int) ≤ (238 : Int) := by omega
  have l242 : (c : Int) ≤ (242 : Int) := by omega
  have l246 : (c : Int) ≤ (246 : Int) := by omega
  have e132 : ((c : Int) == 132) = false := by rw [beq_eq_false_iff_ne]; omega
  have e137 : ((c : Int) == 137) = false := by rw [beq_eq_false_iff_ne]; omega
  have e139 : ((c : Int) == 139) = false := by rw [beq_eq_false_iff_ne]; omega
  have e247 : ((c : Int) == 247) = false := by rw [beq_eq_false_iff_ne]; omega
  have e248 : ((c : Int) == 248) = false := by rw [beq_eq_false_iff_ne]; omega
  have e249 : ((c : Int) == 249) = false := by rw [beq_eq_false_iff_ne]; omega
  have t249 : ¬ (249 : Int) < (c : Int) := by omega
  have hsz : sizesM c = [161 - (c : Int)] := by
    unfold sizesM
    repeat (first | rw [if_pos (by omega)] | rw [if_neg (by omega)])
  have htn : textN c xs = none := by unfold textN; repeat (first | rw [if_pos (by omega)] | rw [if_neg (by omega)])
  have hx2 := HXS.out
  have hf2 := HF2.out
  have htx := HTX.out
  have hfr := HFR.out
  rw [hsz] at hx2 hf2
  rw [Fd.tail, htn, if_neg (by omega)] at htx hfr
  simp only at htx hfr
  have HA := args_call [161 - (c : Int)] 1 rfl (by omega) (by simp; try omega) H6.out
  rw [hx2, hf2] at HA
  simp only [intsL, List.map_cons, List.map_nil] at HA
  have HTX2 := Lib.hid htx
  have HFR2 := Lib.hid hfr
  have HAA := Lib.hid HA
  clear HA hx2 hf2 htn hsz htx hfr H6 HXS HF2 HTX HFR
  go_wp2_with fail
  refine Calls.mono HAA.out ?_
  rintro e w5 ⟨rfl, va, h5⟩
  have hx := h5
  rw [HFR2.out] at hx
  have H5 := Lib.hid (show FdAt W (pts (b2 + 1) (opO (c : Nat) q va ⟨txt.toArray⟩) * (rowI va xs * (pts b2 (.cells #[.int .i64 0, .int .i64 0, .slice none 0 0, .string ⟨#[]⟩] 33) * A))) b cf cap fr w5 from by rw [← HTX2.out]; exact hx)
  clear h5 hx HAA
  (try go_upto_region 41 with fail)
  obtain ⟨va, hx⟩ : ∃ va, FdAt W (pts (b2 + 1) (opO (c : Nat) q va ⟨txt.toArray⟩) * (rowI va xs * (pts b2 (.cells #[.int .i64 0, .int .i64 0, .slice none 0 0, .string ⟨#[]⟩] 33) * A))) b cf cap fr _ := ⟨_, H5.out⟩
  clear H5
  have HE := Lib.hid (hx.of_eq (show _ = pts (b2 + 1) (opO (c : Nat) q _ ⟨txt.toArray⟩) * (pts b2 (.cells #[.int .i64 0, .int .i64 0, .slice none 0 0, .string ⟨#[]⟩] 33) * (rowI _ xs * A)) by ac_rfl))
  obtain ⟨va1, vc, hva, -⟩ := hx.sat.r.row_val
  subst hva
  obtain ⟨Y, h7, back⟩ := HE.out.focus
  have h8 := h7.asc
  have x0 := h8.cell (i := 0) rfl
  have x1 := h8.cell (i := 1) rfl
  have x2 := h8.cell (i := 2) rfl
  have x3 := h8.cell (i := 3) rfl
  have y0 := h8.r.asc.cell (i := 0) rfl
  have y1 := h8.r.asc.cell (i := 1) rfl
  have y2 := h8.r.asc.cell (i := 2) rfl
  have y3 := h8.r.asc.cell (i := 3) rfl
  have z0 := h8.r.asc.free (i := 0)
  have z1 := h8.r.asc.free (i := 1)
  have z2 := h8.r.asc.free (i := 2)
  have z3 := h8.r.asc.free (i := 3)
  have xb := h8.lt
  have yb := h8.r.asc.lt
  have h9 := (((((h8.of_eq (show _ = pts b2 (.cells #[.int .i64 0, .int .i64 0, .slice none 0 0, .string ⟨#[]⟩] 33) * ((rowI (.slice va1 xs.length vc) xs * A) * Y * pts (b2 + 1) (opO (c : Nat) q (.slice va1 xs.length vc) ⟨txt.toArray⟩)) by ac_rfl)).set (i := 0) (v := .int .i64 ((c : Nat) : Int))).set (i := 1) (v := .int .i64 (q : Int))).set (i := 2) (v := .slice va1 xs.length vc)).set (i := 3) (v := .string ⟨txt.toArray⟩))
  have HH := Lib.hid (back _ _ h9.r.l)
  have h10 := h9.cell (i := 0) rfl
  clear h7 back hx HE h8 h10
  have HRES := Lib.hid h9
  clear h9
  go_wp2
  (try simp only [Exit.inBlock, Exit.then])
  refine bodyPost_ret (v := .agg #[.int .i64 ((c : Nat) : Int), .int .i64 (q : Int), .slice va1 xs.length vc, .string ⟨txt.toArray⟩]) (by unfold results; go_simp) rfl ?_
  rw [HCM.out]
  exact ⟨_, rfl, HH.out⟩
set_option maxRecDepth 100000 in
set_option maxHeartbeats 16000000 in
theorem op_166 {b cf cap : Nat} {f : Fd} (hb : f.next.1 = 166) (h : FdAt W A b cf cap f w) :
    Calls Try.prog 30 #[.pointer (some ⟨b, 0, none⟩)] w fun e w' => ∃ va, e = .returned (.agg #[.int .i64 f.cmd.1.code, .int .i64 f.cmd.1.at_, va, .string ⟨f.cmd.1.text.toArray⟩]) ∧ FdAt W (rowI va f.cmd.1.args * A) b cf cap f.cmd.2 w' := by
  have hat : ∃ s r, Sat W (pts b (.cells #[.chan (some cf), .int .i64 f.at_, .bool f.lost] 110) * (pts cf (chanO cap f.l true s r) * A)) w := h.2
  obtain ⟨s, r, hs⟩ := hat
  have c1 := hs.cell (i := 1) rfl
  have lb := hs.lt
  clear hs
  have h2 := (h.allocX (.cells #[.int .i64 0, .int .i64 0, .slice none 0 0, .string ⟨#[]⟩] 33)).allocX (opO 0 f.at_ (.slice none 0 0) ⟨#[]⟩)
  obtain ⟨b2, hb2⟩ : ∃ b2, w.heap.size = b2 := ⟨_, rfl⟩
  have lb2 := lb
  rw [hb2] at lb2
  rw [show (w.alloc (.cells #[.int .i64 0, .int .i64 0, .slice none 0 0, .string ⟨#[]⟩] 33)).heap.size = b2 + 1 by simp [hb2], hb2] at h2
  have H2 := Lib.hid h2
  have HN := Lib.hid (next_any h2)
  clear h h2
  go_enter Try.func30, Try.ntmps30
  go_upto_region 2 with fail
  generalize (w.alloc (.cells #[.int .i64 0, .int .i64 0, .slice none 0 0, .string ⟨#[]⟩] 33)).alloc (opO 0 f.at_ (.slice none 0 0) ⟨#[]⟩) = W2 at *
  clear c1 lb lb2 hb2
  have hlt := f.next_lt
  obtain ⟨c, hc⟩ : ∃ c, f.next.1 = c := ⟨_, rfl⟩
  obtain ⟨f1, hf1⟩ : ∃ f1, f.next.2 = f1 := ⟨_, rfl⟩
  obtain ⟨xs, hxs⟩ : ∃ xs, (f1.args (sizesM c) []).1 = xs := ⟨_, rfl⟩
  obtain ⟨f2, hf2⟩ : ∃ f2, (f1.args (sizesM c) []).2 = f2 := ⟨_, rfl⟩
  obtain ⟨txt, htxt⟩ : ∃ txt, (f2.tail c xs).1 = txt := ⟨_, rfl⟩
  obtain ⟨fr, hfr⟩ : ∃ fr, (f2.tail c xs).2 = fr := ⟨_, rfl⟩
  obtain ⟨q, hq⟩ : ∃ q, f.at_ = q := ⟨_, rfl⟩
  have HCM := Lib.hid (show f.cmd = (⟨c, q, xs, txt⟩, fr) by
    unfold Fd.cmd
    simp only [hc, hf1, hxs, hf2, htxt, hfr, hq])
  rw [hc] at hlt HN hb
  rw [hf1] at HN
  rw [hq] at HN H2
  rw [hq]
  have HXS := Lib.hid hxs
  have HF2 := Lib.hid hf2
  have HTX := Lib.hid htxt
  have HFR := Lib.hid hfr
  clear hc hf1 hxs hf2 htxt hfr hq
  subst hb
  go_wp2_with fail
  refine Calls.mono HN.out ?_
  rintro e w3 ⟨rfl, h3⟩
  have a0 := h3.sat.cell (i := 0) rfl
  have ab := h3.sat.lt
  have af := h3.sat.free (i := 0)
  obtain ⟨Y, h4, back⟩ := h3.focus
  have h5 := (h4.asc.set (i := 0) (v := .int .i64 ((166 : Nat) : Int)))
  have h6 := back _ _ (show Sat W ((pts (b2 + 1) (opO (166 : Nat) q (.slice none 0 0) ⟨#[]⟩) * (pts b2 (.cells #[.int .i64 0, .int .i64 0, .slice none 0 0, .string ⟨#[]⟩] 33) * A)) * Y) _ from Sat.asc' h5)
  have H6 := Lib.hid h6
  clear h3 h4 h5 h6 back H2 HN
  go_upto_region 3 with fail
  generalize w3.setCell ⟨b2 + 1, 0, none⟩ (.int .i64 ((166 : Nat) : Int)) = W4 at *
  clear a0 ab af
  have a0 := H6.out.sat.cell (i := 0) rfl
  have ab := H6.out.sat.lt
  go_upto_block 0 with fail
  have hsz : sizesM 166 = [] := by
    unfold sizesM
    repeat (first | rw [if_pos (by omega)] | rw [if_neg (by omega)])
  have htn : textN 166 xs = none := by unfold textN; repeat (first | rw [if_pos (by omega)] | rw [if_neg (by omega)])
  have hx2 := HXS.out
  have hf2 := HF2.out
  have htx := HTX.out
  have hfr := HFR.out
  rw [hsz] at hx2 hf2
  rw [Fd.tail, htn, if_neg (by omega)] at htx hfr
  simp only at htx hfr
  simp only [Fd.args] at hx2 hf2
  have H5 := Lib.hid (show FdAt W (pts (b2 + 1) (opO (166 : Nat) q (.slice none 0 0) ⟨txt.toArray⟩) * (rowI (.slice none 0 0) xs * (pts b2 (.cells #[.int .i64 0, .int .i64 0, .slice none 0 0, .string ⟨#[]⟩] 33) * A))) b cf cap fr _ from by
    rw [← htx, ← hx2, ← hfr, ← hf2]
    exact H6.out.nilI.of_eq (show _ = pts (b2 + 1) (opO 166 q (.slice none 0 0) ⟨#[]⟩) * (rowI (.slice none 0 0) [] * (pts b2 (.cells #[.int .i64 0, .int .i64 0, .slice none 0 0, .string ⟨#[]⟩] 33) * A)) by ac_rfl))
  clear htn hsz htx hfr hx2 hf2 H6 HXS HF2 HTX HFR
  (try go_upto_region 41 with fail)
  obtain ⟨va, hx⟩ : ∃ va, FdAt W (pts (b2 + 1) (opO (166 : Nat) q va ⟨txt.toArray⟩) * (rowI va xs * (pts b2 (.cells #[.int .i64 0, .int .i64 0, .slice none 0 0, .string ⟨#[]⟩] 33) * A))) b cf cap fr _ := ⟨_, H5.out⟩
  clear H5
  have HE := Lib.hid (hx.of_eq (show _ = pts (b2 + 1) (opO (166 : Nat) q _ ⟨txt.toArray⟩) * (pts b2 (.cells #[.int .i64 0, .int .i64 0, .slice none 0 0, .string ⟨#[]⟩] 33) * (rowI _ xs * A)) by ac_rfl))
  obtain ⟨va1, vc, hva, -⟩ := hx.sat.r.row_val
  subst hva
  obtain ⟨Y, h7, back⟩ := HE.out.focus
  have h8 := h7.asc
  have x0 := h8.cell (i := 0) rfl
  have x1 := h8.cell (i := 1) rfl
  have x2 := h8.cell (i := 2) rfl
  have x3 := h8.cell (i := 3) rfl
  have y0 := h8.r.asc.cell (i := 0) rfl
  have y1 := h8.r.asc.cell (i := 1) rfl
  have y2 := h8.r.asc.cell (i := 2) rfl
  have y3 := h8.r.asc.cell (i := 3) rfl
  have z0 := h8.r.asc.free (i := 0)
  have z1 := h8.r.asc.free (i := 1)
  have z2 := h8.r.asc.free (i := 2)
  have z3 := h8.r.asc.free (i := 3)
  have xb := h8.lt
  have yb := h8.r.asc.lt
  have h9 := (((((h8.of_eq (show _ = pts b2 (.cells #[.int .i64 0, .int .i64 0, .slice none 0 0, .string ⟨#[]⟩] 33) * ((rowI (.slice va1 xs.length vc) xs * A) * Y * pts (b2 + 1) (opO (166 : Nat) q (.slice va1 xs.length vc) ⟨txt.toArray⟩)) by ac_rfl)).set (i := 0) (v := .int .i64 ((166 : Nat) : Int))).set (i := 1) (v := .int .i64 (q : Int))).set (i := 2) (v := .slice va1 xs.length vc)).set (i := 3) (v := .string ⟨txt.toArray⟩))
  have HH := Lib.hid (back _ _ h9.r.l)
  have h10 := h9.cell (i := 0) rfl
  clear h7 back hx HE h8 h10
  have HRES := Lib.hid h9
  clear h9
  go_wp2
  (try simp only [Exit.inBlock, Exit.then])
  refine bodyPost_ret (v := .agg #[.int .i64 ((166 : Nat) : Int), .int .i64 (q : Int), .slice va1 xs.length vc, .string ⟨txt.toArray⟩]) (by unfold results; go_simp) rfl ?_
  rw [HCM.out]
  exact ⟨_, rfl, HH.out⟩
set_option maxRecDepth 100000 in
set_option maxHeartbeats 16000000 in
theorem op_167 {b cf cap : Nat} {f : Fd} (hb : 167 ≤ f.next.1 ∧ f.next.1 ≤ 170) (h : FdAt W A b cf cap f w) :
    Calls Try.prog 30 #[.pointer (some ⟨b, 0, none⟩)] w fun e w' => ∃ va, e = .returned (.agg #[.int .i64 f.cmd.1.code, .int .i64 f.cmd.1.at_, va, .string ⟨f.cmd.1.text.toArray⟩]) ∧ FdAt W (rowI va f.cmd.1.args * A) b cf cap f.cmd.2 w' := by
  have hat : ∃ s r, Sat W (pts b (.cells #[.chan (some cf), .int .i64 f.at_, .bool f.lost] 110) * (pts cf (chanO cap f.l true s r) * A)) w := h.2
  obtain ⟨s, r, hs⟩ := hat
  have c1 := hs.cell (i := 1) rfl
  have lb := hs.lt
  clear hs
  have h2 := (h.allocX (.cells #[.int .i64 0, .int .i64 0, .slice none 0 0, .string ⟨#[]⟩] 33)).allocX (opO 0 f.at_ (.slice none 0 0) ⟨#[]⟩)
  obtain ⟨b2, hb2⟩ : ∃ b2, w.heap.size = b2 := ⟨_, rfl⟩
  have lb2 := lb
  rw [hb2] at lb2
  rw [show (w.alloc (.cells #[.int .i64 0, .int .i64 0, .slice none 0 0, .string ⟨#[]⟩] 33)).heap.size = b2 + 1 by simp [hb2], hb2] at h2
  have H2 := Lib.hid h2
  have HN := Lib.hid (next_any h2)
  clear h h2
  go_enter Try.func30, Try.ntmps30
  go_upto_region 2 with fail
  generalize (w.alloc (.cells #[.int .i64 0, .int .i64 0, .slice none 0 0, .string ⟨#[]⟩] 33)).alloc (opO 0 f.at_ (.slice none 0 0) ⟨#[]⟩) = W2 at *
  clear c1 lb lb2 hb2
  have hlt := f.next_lt
  obtain ⟨c, hc⟩ : ∃ c, f.next.1 = c := ⟨_, rfl⟩
  obtain ⟨f1, hf1⟩ : ∃ f1, f.next.2 = f1 := ⟨_, rfl⟩
  obtain ⟨xs, hxs⟩ : ∃ xs, (f1.args (sizesM c) []).1 = xs := ⟨_, rfl⟩
  obtain ⟨f2, hf2⟩ : ∃ f2, (f1.args (sizesM c) []).2 = f2 := ⟨_, rfl⟩
  obtain ⟨txt, htxt⟩ : ∃ txt, (f2.tail c xs).1 = txt := ⟨_, rfl⟩
  obtain ⟨fr, hfr⟩ : ∃ fr, (f2.tail c xs).2 = fr := ⟨_, rfl⟩
  obtain ⟨q, hq⟩ : ∃ q, f.at_ = q := ⟨_, rfl⟩
  have HCM := Lib.hid (show f.cmd = (⟨c, q, xs, txt⟩, fr) by
    unfold Fd.cmd
    simp only [hc, hf1, hxs, hf2, htxt, hfr, hq])
  rw [hc] at hlt HN hb
  rw [hf1] at HN
  rw [hq] at HN H2
  rw [hq]
  have HXS := Lib.hid hxs
  have HF2 := Lib.hid hf2
  have HTX := Lib.hid htxt
  have HFR := Lib.hid hfr
  clear hc hf1 hxs hf2 htxt hfr hq
  go_wp2_with fail
  refine Calls.mono HN.out ?_
  rintro e w3 ⟨rfl, h3⟩
  have a0 := h3.sat.cell (i := 0) rfl
  have ab := h3.sat.lt
  have af := h3.sat.free (i := 0)
  obtain ⟨Y, h4, back⟩ := h3.focus
  have h5 := (h4.asc.set (i := 0) (v := .int .i64 (c : Int)))
  have h6 := back _ _ (show Sat W ((pts (b2 + 1) (opO c q (.slice none 0 0) ⟨#[]⟩) * (pts b2 (.cells #[.int .i64 0, .int .i64 0, .slice none 0 0, .string ⟨#[]⟩] 33) * A)) * Y) _ from Sat.asc' h5)
  have H6 := Lib.hid h6
  clear h3 h4 h5 h6 back H2 HN
  go_upto_region 3 with fail
  generalize w3.setCell ⟨b2 + 1, 0, none⟩ (.int .i64 (c : Int)) = W4 at *
  clear a0 ab af
  have a0 := H6.out.sat.cell (i := 0) rfl
  have ab := H6.out.sat.lt
  go_upto_block 0 with fail
  have g128 : (128 : Int) ≤ (c : Int) := by omega
  have g133 : (133 : Int) ≤ (c : Int) := by omega
  have g143 : (143 : Int) ≤ (c : Int) := by omega
  have g148 : (148 : Int) ≤ (c : Int) := by omega
  have g153 : (153 : Int) ≤ (c : Int) := by omega
  have g157 : (157 : Int) ≤ (c : Int) := by omega
  have g162 : (162 : Int) ≤ (c : Int) := by omega
  have g167 : (167 : Int) ≤ (c : Int) := by omega
  have g235 : ¬ (235 : Int) ≤ (c : Int) := by omega
  have g239 : ¬ (239 : Int) ≤ (c : Int) := by omega
  have g243 : ¬ (243 : Int) ≤ (c : Int) := by omega
  have l131 : ¬ (c : Int) ≤ (131 : Int) := by omega
  have l136 : ¬ (c : Int) ≤ (136 : Int) := by omega
  have l146 : ¬ (c : Int) ≤ (146 : Int) := by omega
  have l151 : ¬ (c : Int) ≤ (151 : Int) := by omega
  have l156 : ¬ (c : Int) ≤ (156 : Int) := by omega
  have l160 : ¬ (c : Int) ≤ (160 : Int) := by omega
  have l165 : ¬ (c : Int) ≤ (165 : Int) := by omega
  have l170 : (c : Int) ≤ (170 : Int) := by omega
  have l238 : (c : Int) ≤ (238 : Int) := by omega
  have l242 : (c : Int) ≤ (242 : Int) := by omega
  have l246 : (c : Int) ≤ (246 : Int) := by omega
  have e132 : ((c : Int) == 132) = false := by rw [beq_eq_false_iff_ne]; omega
  have e137 : ((c : Int) == 137) = false := by rw [beq_eq_false_iff_ne]; omega
  have e139 : ((c : Int) == 139) = false := by rw [beq_eq_false_iff_ne]; omega
  have e247 : ((c : Int) == 247) = false := by rw [beq_eq_false_iff_ne]; omega
  have e248 : ((c : Int) == 248) = false := by rw [beq_eq_false_iff_ne]; omega
  have e249 : ((c : Int) == 249) = false := by rw [beq_eq_false_iff_ne]; omega
  have t249 : ¬ (249 : Int) < (c : Int) := by omega
  have hsz : sizesM c = [166 - (c : Int)] := by
    unfold sizesM
    repeat (first | rw [if_pos (by omega)] | rw [if_neg (by omega)])
  have htn : textN c xs = none := by unfold textN; repeat (first | rw [if_pos (by omega)] | rw [if_neg (by omega)])
  have hx2 := HXS.out
  have hf2 := HF2.out
  have htx := HTX.out
  have hfr := HFR.out
  rw [hsz] at hx2 hf2
  rw [Fd.tail, htn, if_neg (by omega)] at htx hfr
  simp only at htx hfr
  have HA := args_call [166 - (c : Int)] 1 rfl (by omega) (by simp; try omega) H6.out
  rw [hx2, hf2] at HA
  simp only [intsL, List.map_cons, List.map_nil] at HA
  have HTX2 := Lib.hid htx
  have HFR2 := Lib.hid hfr
  have HAA := Lib.hid HA
  clear HA hx2 hf2 htn hsz htx hfr H6 HXS HF2 HTX HFR
  go_wp2_with fail
  refine Calls.mono HAA.out ?_
  rintro e w5 ⟨rfl, va, h5⟩
  have hx := h5
  rw [HFR2.out] at hx
  have H5 := Lib.hid (show FdAt W (pts (b2 + 1) (opO (c : Nat) q va ⟨txt.toArray⟩) * (rowI va xs * (pts b2 (.cells #[.int .i64 0, .int .i64 0, .slice none 0 0, .string ⟨#[]⟩] 33) * A))) b cf cap fr w5 from by rw [← HTX2.out]; exact hx)
  clear h5 hx HAA
  (try go_upto_region 41 with fail)
  obtain ⟨va, hx⟩ : ∃ va, FdAt W (pts (b2 + 1) (opO (c : Nat) q va ⟨txt.toArray⟩) * (rowI va xs * (pts b2 (.cells #[.int .i64 0, .int .i64 0, .slice none 0 0, .string ⟨#[]⟩] 33) * A))) b cf cap fr _ := ⟨_, H5.out⟩
  clear H5
  have HE := Lib.hid (hx.of_eq (show _ = pts (b2 + 1) (opO (c : Nat) q _ ⟨txt.toArray⟩) * (pts b2 (.cells #[.int .i64 0, .int .i64 0, .slice none 0 0, .string ⟨#[]⟩] 33) * (rowI _ xs * A)) by ac_rfl))
  obtain ⟨va1, vc, hva, -⟩ := hx.sat.r.row_val
  subst hva
  obtain ⟨Y, h7, back⟩ := HE.out.focus
  have h8 := h7.asc
  have x0 := h8.cell (i := 0) rfl
  have x1 := h8.cell (i := 1) rfl
  have x2 := h8.cell (i := 2) rfl
  have x3 := h8.cell (i := 3) rfl
  have y0 := h8.r.asc.cell (i := 0) rfl
  have y1 := h8.r.asc.cell (i := 1) rfl
  have y2 := h8.r.asc.cell (i := 2) rfl
  have y3 := h8.r.asc.cell (i := 3) rfl
  have z0 := h8.r.asc.free (i := 0)
  have z1 := h8.r.asc.free (i := 1)
  have z2 := h8.r.asc.free (i := 2)
  have z3 := h8.r.asc.free (i := 3)
  have xb := h8.lt
  have yb := h8.r.asc.lt
  have h9 := (((((h8.of_eq (show _ = pts b2 (.cells #[.int .i64 0, .int .i64 0, .slice none 0 0, .string ⟨#[]⟩] 33) * ((rowI (.slice va1 xs.length vc) xs * A) * Y * pts (b2 + 1) (opO (c : Nat) q (.slice va1 xs.length vc) ⟨txt.toArray⟩)) by ac_rfl)).set (i := 0) (v := .int .i64 ((c : Nat) : Int))).set (i := 1) (v := .int .i64 (q : Int))).set (i := 2) (v := .slice va1 xs.length vc)).set (i := 3) (v := .string ⟨txt.toArray⟩))
  have HH := Lib.hid (back _ _ h9.r.l)
  have h10 := h9.cell (i := 0) rfl
  clear h7 back hx HE h8 h10
  have HRES := Lib.hid h9
  clear h9
  go_wp2
  (try simp only [Exit.inBlock, Exit.then])
  refine bodyPost_ret (v := .agg #[.int .i64 ((c : Nat) : Int), .int .i64 (q : Int), .slice va1 xs.length vc, .string ⟨txt.toArray⟩]) (by unfold results; go_simp) rfl ?_
  rw [HCM.out]
  exact ⟨_, rfl, HH.out⟩
set_option maxRecDepth 100000 in
set_option maxHeartbeats 16000000 in
theorem op_171 {b cf cap : Nat} {f : Fd} (hb : 171 ≤ f.next.1 ∧ f.next.1 ≤ 234) (h : FdAt W A b cf cap f w) :
    Calls Try.prog 30 #[.pointer (some ⟨b, 0, none⟩)] w fun e w' => ∃ va, e = .returned (.agg #[.int .i64 f.cmd.1.code, .int .i64 f.cmd.1.at_, va, .string ⟨f.cmd.1.text.toArray⟩]) ∧ FdAt W (rowI va f.cmd.1.args * A) b cf cap f.cmd.2 w' := by
  have hat : ∃ s r, Sat W (pts b (.cells #[.chan (some cf), .int .i64 f.at_, .bool f.lost] 110) * (pts cf (chanO cap f.l true s r) * A)) w := h.2
  obtain ⟨s, r, hs⟩ := hat
  have c1 := hs.cell (i := 1) rfl
  have lb := hs.lt
  clear hs
  have h2 := (h.allocX (.cells #[.int .i64 0, .int .i64 0, .slice none 0 0, .string ⟨#[]⟩] 33)).allocX (opO 0 f.at_ (.slice none 0 0) ⟨#[]⟩)
  obtain ⟨b2, hb2⟩ : ∃ b2, w.heap.size = b2 := ⟨_, rfl⟩
  have lb2 := lb
  rw [hb2] at lb2
  rw [show (w.alloc (.cells #[.int .i64 0, .int .i64 0, .slice none 0 0, .string ⟨#[]⟩] 33)).heap.size = b2 + 1 by simp [hb2], hb2] at h2
  have H2 := Lib.hid h2
  have HN := Lib.hid (next_any h2)
  clear h h2
  go_enter Try.func30, Try.ntmps30
  go_upto_region 2 with fail
  generalize (w.alloc (.cells #[.int .i64 0, .int .i64 0, .slice none 0 0, .string ⟨#[]⟩] 33)).alloc (opO 0 f.at_ (.slice none 0 0) ⟨#[]⟩) = W2 at *
  clear c1 lb lb2 hb2
  have hlt := f.next_lt
  obtain ⟨c, hc⟩ : ∃ c, f.next.1 = c := ⟨_, rfl⟩
  obtain ⟨f1, hf1⟩ : ∃ f1, f.next.2 = f1 := ⟨_, rfl⟩
  obtain ⟨xs, hxs⟩ : ∃ xs, (f1.args (sizesM c) []).1 = xs := ⟨_, rfl⟩
  obtain ⟨f2, hf2⟩ : ∃ f2, (f1.args (sizesM c) []).2 = f2 := ⟨_, rfl⟩
  obtain ⟨txt, htxt⟩ : ∃ txt, (f2.tail c xs).1 = txt := ⟨_, rfl⟩
  obtain ⟨fr, hfr⟩ : ∃ fr, (f2.tail c xs).2 = fr := ⟨_, rfl⟩
  obtain ⟨q, hq⟩ : ∃ q, f.at_ = q := ⟨_, rfl⟩
  have HCM := Lib.hid (show f.cmd = (⟨c, q, xs, txt⟩, fr) by
    unfold Fd.cmd
    simp only [hc, hf1, hxs, hf2, htxt, hfr, hq])
  rw [hc] at hlt HN hb
  rw [hf1] at HN
  rw [hq] at HN H2
  rw [hq]
  have HXS := Lib.hid hxs
  have HF2 := Lib.hid hf2
  have HTX := Lib.hid htxt
  have HFR := Lib.hid hfr
  clear hc hf1 hxs hf2 htxt hfr hq
  go_wp2_with fail
  refine Calls.mono HN.out ?_
  rintro e w3 ⟨rfl, h3⟩
  have a0 := h3.sat.cell (i := 0) rfl
  have ab := h3.sat.lt
  have af := h3.sat.free (i := 0)
  obtain ⟨Y, h4, back⟩ := h3.focus
  have h5 := (h4.asc.set (i := 0) (v := .int .i64 (c : Int)))
  have h6 := back _ _ (show Sat W ((pts (b2 + 1) (opO c q (.slice none 0 0) ⟨#[]⟩) * (pts b2 (.cells #[.int .i64 0, .int .i64 0, .slice none 0 0, .string ⟨#[]⟩] 33) * A)) * Y) _ from Sat.asc' h5)
  have H6 := Lib.hid h6
  clear h3 h4 h5 h6 back H2 HN
  go_upto_region 3 with fail
  generalize w3.setCell ⟨b2 + 1, 0, none⟩ (.int .i64 (c : Int)) = W4 at *
  clear a0 ab af
  have a0 := H6.out.sat.cell (i := 0) rfl
  have ab := H6.out.sat.lt
  go_upto_block 0 with fail
  have g128 : (128 : Int) ≤ (c : Int) := by omega
  have g133 : (133 : Int) ≤ (c : Int) := by omega
  have g143 : (143 : Int) ≤ (c : Int) := by omega
  have g148 : (148 : Int) ≤ (c : Int) := by omega
  have g153 : (153 : Int) ≤ (c : Int) := by omega
  have g157 : (157 : Int) ≤ (c : Int) := by omega
  have g162 : (162 : Int) ≤ (c : Int) := by omega
  have g167 : (167 : Int) ≤ (c : Int) := by omega
  have g235 : ¬ (235 : Int) ≤ (c : Int) := by omega
  have g239 : ¬ (239 : Int) ≤ (c : Int) := by omega
  have g243 : ¬ (243 : Int) ≤ (c : Int) := by omega
  have l131 : ¬ (c : Int) ≤ (131 : Int) := by omega
  have l136 : ¬ (c : Int) ≤ (136 : Int) := by omega
  have l146 : ¬ (c : Int) ≤ (146 : Int) := by omega
  have l151 : ¬ (c : Int) ≤ (151 : Int) := by omega
  have l156 : ¬ (c : Int) ≤ (156 : Int) := by omega
  have l160 : ¬ (c : Int) ≤ (160 : Int) := by omega
  have l165 : ¬ (c : Int) ≤ (165 : Int) := by omega
  have l170 : ¬ (c : Int) ≤ (170 : Int) := by omega
  have l238 : (c : Int) ≤ (238 : Int) := by omega
  have l242 : (c : Int) ≤ (242 : Int) := by omega
  have l246 : (c : Int) ≤ (246 : Int) := by omega
  have e132 : ((c : Int) == 132) = false := by rw [beq_eq_false_iff_ne]; omega
  have e137 : ((c : Int) == 137) = false := by rw [beq_eq_false_iff_ne]; omega
  have e139 : ((c : Int) == 139) = false := by rw [beq_eq_false_iff_ne]; omega
  have e247 : ((c : Int) == 247) = false := by rw [beq_eq_false_iff_ne]; omega
  have e248 : ((c : Int) == 248) = false := by rw [beq_eq_false_iff_ne]; omega
  have e249 : ((c : Int) == 249) = false := by rw [beq_eq_false_iff_ne]; omega
  have t249 : ¬ (249 : Int) < (c : Int) := by omega
  have hsz : sizesM c = [] := by
    unfold sizesM
    repeat (first | rw [if_pos (by omega)] | rw [if_neg (by omega)])
  have htn : textN c xs = none := by unfold textN; repeat (first | rw [if_pos (by omega)] | rw [if_neg (by omega)])
  have hx2 := HXS.out
  have hf2 := HF2.out
  have htx := HTX.out
  have hfr := HFR.out
  rw [hsz] at hx2 hf2
  rw [Fd.tail, htn, if_neg (by omega)] at htx hfr
  simp only at htx hfr
  simp only [Fd.args] at hx2 hf2
  have H5 := Lib.hid (show FdAt W (pts (b2 + 1) (opO (c : Nat) q (.slice none 0 0) ⟨txt.toArray⟩) * (rowI (.slice none 0 0) xs * (pts b2 (.cells #[.int .i64 0, .int .i64 0, .slice none 0 0, .string ⟨#[]⟩] 33) * A))) b cf cap fr _ from by
    rw [← htx, ← hx2, ← hfr, ← hf2]
    exact H6.out.nilI.of_eq (show _ = pts (b2 + 1) (opO c q (.slice none 0 0) ⟨#[]⟩) * (rowI (.slice none 0 0) [] * (pts b2 (.cells #[.int .i64 0, .int .i64 0, .slice none 0 0, .string ⟨#[]⟩] 33) * A)) by ac_rfl))
  clear htn hsz htx hfr hx2 hf2 H6 HXS HF2 HTX HFR
  (try go_upto_region 41 with fail)
  obtain ⟨va, hx⟩ : ∃ va, FdAt W (pts (b2 + 1) (opO (c : Nat) q va ⟨txt.toArray⟩) * (rowI va xs * (pts b2 (.cells #[.int .i64 0, .int .i64 0, .slice none 0 0, .string ⟨#[]⟩] 33) * A))) b cf cap fr _ := ⟨_, H5.out⟩
  clear H5
  have HE := Lib.hid (hx.of_eq (show _ = pts (b2 + 1) (opO (c : Nat) q _ ⟨txt.toArray⟩) * (pts b2 (.cells #[.int .i64 0, .int .i64 0, .slice none 0 0, .string ⟨#[]⟩] 33) * (rowI _ xs * A)) by ac_rfl))
  obtain ⟨va1, vc, hva, -⟩ := hx.sat.r.row_val
  subst hva
  obtain ⟨Y, h7, back⟩ := HE.out.focus
  have h8 := h7.asc
  have x0 := h8.cell (i := 0) rfl
  have x1 := h8.cell (i := 1) rfl
  have x2 := h8.cell (i := 2) rfl
  have x3 := h8.cell (i := 3) rfl
  have y0 := h8.r.asc.cell (i := 0) rfl
  have y1 := h8.r.asc.cell (i := 1) rfl
  have y2 := h8.r.asc.cell (i := 2) rfl
  have y3 := h8.r.asc.cell (i := 3) rfl
  have z0 := h8.r.asc.free (i := 0)
  have z1 := h8.r.asc.free (i := 1)
  have z2 := h8.r.asc.free (i := 2)
  have z3 := h8.r.asc.free (i := 3)
  have xb := h8.lt
  have yb := h8.r.asc.lt
  have h9 := (((((h8.of_eq (show _ = pts b2 (.cells #[.int .i64 0, .int .i64 0, .slice none 0 0, .string ⟨#[]⟩] 33) * ((rowI (.slice va1 xs.length vc) xs * A) * Y * pts (b2 + 1) (opO (c : Nat) q (.slice va1 xs.length vc) ⟨txt.toArray⟩)) by ac_rfl)).set (i := 0) (v := .int .i64 ((c : Nat) : Int))).set (i := 1) (v := .int .i64 (q : Int))).set (i := 2) (v := .slice va1 xs.length vc)).set (i := 3) (v := .string ⟨txt.toArray⟩))
  have HH := Lib.hid (back _ _ h9.r.l)
  have h10 := h9.cell (i := 0) rfl
  clear h7 back hx HE h8 h10
  have HRES := Lib.hid h9
  clear h9
  go_wp2
  (try simp only [Exit.inBlock, Exit.then])
  refine bodyPost_ret (v := .agg #[.int .i64 ((c : Nat) : Int), .int .i64 (q : Int), .slice va1 xs.length vc, .string ⟨txt.toArray⟩]) (by unfold results; go_simp) rfl ?_
  rw [HCM.out]
  exact ⟨_, rfl, HH.out⟩
set_option maxRecDepth 100000 in
set_option maxHeartbeats 16000000 in
theorem op_235 {b cf cap : Nat} {f : Fd} (hb : 235 ≤ f.next.1 ∧ f.next.1 ≤ 238) (h : FdAt W A b cf cap f w) :
    Calls Try.prog 30 #[.pointer (some ⟨b, 0, none⟩)] w fun e w' => ∃ va, e = .returned (.agg #[.int .i64 f.cmd.1.code, .int .i64 f.cmd.1.at_, va, .string ⟨f.cmd.1.text.toArray⟩]) ∧ FdAt W (rowI va f.cmd.1.args * A) b cf cap f.cmd.2 w' := by
  have hat : ∃ s r, Sat W (pts b (.cells #[.chan (some cf), .int .i64 f.at_, .bool f.lost] 110) * (pts cf (chanO cap f.l true s r) * A)) w := h.2
  obtain ⟨s, r, hs⟩ := hat
  have c1 := hs.cell (i := 1) rfl
  have lb := hs.lt
  clear hs
  have h2 := (h.allocX (.cells #[.int .i64 0, .int .i64 0, .slice none 0 0, .string ⟨#[]⟩] 33)).allocX (opO 0 f.at_ (.slice none 0 0) ⟨#[]⟩)
  obtain ⟨b2, hb2⟩ : ∃ b2, w.heap.size = b2 := ⟨_, rfl⟩
  have lb2 := lb
  rw [hb2] at lb2
  rw [show (w.alloc (.cells #[.int .i64 0, .int .i64 0, .slice none 0 0, .string ⟨#[]⟩] 33)).heap.size = b2 + 1 by simp [hb2], hb2] at h2
  have H2 := Lib.hid h2
  have HN := Lib.hid (next_any h2)
  clear h h2
  go_enter Try.func30, Try.ntmps30
  go_upto_region 2 with fail
  generalize (w.alloc (.cells #[.int .i64 0, .int .i64 0, .slice none 0 0, .string ⟨#[]⟩] 33)).alloc (opO 0 f.at_ (.slice none 0 0) ⟨#[]⟩) = W2 at *
  clear c1 lb lb2 hb2
  have hlt := f.next_lt
  obtain ⟨c, hc⟩ : ∃ c, f.next.1 = c := ⟨_, rfl⟩
  obtain ⟨f1, hf1⟩ : ∃ f1, f.next.2 = f1 := ⟨_, rfl⟩
  obtain ⟨xs, hxs⟩ : ∃ xs, (f1.args (sizesM c) []).1 = xs := ⟨_, rfl⟩
  obtain ⟨f2, hf2⟩ : ∃ f2, (f1.args (sizesM c) []).2 = f2 := ⟨_, rfl⟩
  obtain ⟨txt, htxt⟩ : ∃ txt, (f2.tail c xs).1 = txt := ⟨_, rfl⟩
  obtain ⟨fr, hfr⟩ : ∃ fr, (f2.tail c xs).2 = fr := ⟨_, rfl⟩
  obtain ⟨q, hq⟩ : ∃ q, f.at_ = q := ⟨_, rfl⟩
  have HCM := Lib.hid (show f.cmd = (⟨c, q, xs, txt⟩, fr) by
    unfold Fd.cmd
    simp only [hc, hf1, hxs, hf2, htxt, hfr, hq])
  rw [hc] at hlt HN hb
  rw [hf1] at HN
  rw [hq] at HN H2
  rw [hq]
  have HXS := Lib.hid hxs
  have HF2 := Lib.hid hf2
  have HTX := Lib.hid htxt
  have HFR := Lib.hid hfr
  clear hc hf1 hxs hf2 htxt hfr hq
  go_wp2_with fail
  refine Calls.mono HN.out ?_
  rintro e w3 ⟨rfl, h3⟩
  have a0 := h3.sat.cell (i := 0) rfl
  have ab := h3.sat.lt
  have af := h3.sat.free (i := 0)
  obtain ⟨Y, h4, back⟩ := h3.focus
  have h5 := (h4.asc.set (i := 0) (v := .int .i64 (c : Int)))
  have h6 := back _ _ (show Sat W ((pts (b2 + 1) (opO c q (.slice none 0 0) ⟨#[]⟩) * (pts b2 (.cells #[.int .i64 0, .int .i64 0, .slice none 0 0, .string ⟨#[]⟩] 33) * A)) * Y) _ from Sat.asc' h5)
  have H6 := Lib.hid h6
  clear h3 h4 h5 h6 back H2 HN
  go_upto_region 3 with fail
  generalize w3.setCell ⟨b2 + 1, 0, none⟩ (.int .i64 (c : Int)) = W4 at *
  clear a0 ab af
  have a0 := H6.out.sat.cell (i := 0) rfl
  have ab := H6.out.sat.lt
  go_upto_block 0 with fail
  have g128 : (128 : Int) ≤ (c : Int) := by omega
  have g133 : (133 : Int) ≤ (c : Int) := by omega
  have g143 : (143 : Int) ≤ (c : Int) := by omega
  have g148 : (148 : Int) ≤ (c : Int) := by omega
  have g153 : (153 : Int) ≤ (c : Int) := by omega
  have g157 : (157 : Int) ≤ (c : Int) := by omega
  have g162 : (162 : Int) ≤ (c : Int) := by omega
  have g167 : (167 : Int) ≤ (c : Int) := by omega
  have g235 : (235 : Int) ≤ (c : Int) := by omega
  have g239 : ¬ (239 : Int) ≤ (c : Int) := by omega
  have g243 : ¬ (243 : Int) ≤ (c : Int) := by omega
  have l131 : ¬ (c : Int) ≤ (131 : Int) := by omega
  have l136 : ¬ (c : Int) ≤ (136 : Int) := by omega
  have l146 : ¬ (c : Int) ≤ (146 : Int) := by omega
  have l151 : ¬ (c : Int) ≤ (151 : Int) := by omega
  have l156 : ¬ (c : Int) ≤ (156 : Int) := by omega
  have l160 : ¬ (c : Int) ≤ (160 : Int) := by omega
  have l165 : ¬ (c : Int) ≤ (165 : Int) := by omega
  have l170 : ¬ (c : Int) ≤ (170 : Int) := by omega
  have l238 : (c : Int) ≤ (238 : Int) := by omega
  have l242 : (c : Int) ≤ (242 : Int) := by omega
  have l246 : (c : Int) ≤ (246 : Int) := by omega
  have e132 : ((c : Int) == 132) = false := by rw [beq_eq_false_iff_ne]; omega
  have e137 : ((c : Int) == 137) = false := by rw [beq_eq_false_iff_ne]; omega
  have e139 : ((c : Int) == 139) = false := by rw [beq_eq_false_iff_ne]; omega
  have e247 : ((c : Int) == 247) = false := by rw [beq_eq_false_iff_ne]; omega
  have e248 : ((c : Int) == 248) = false := by rw [beq_eq_false_iff_ne]; omega
  have e249 : ((c : Int) == 249) = false := by rw [beq_eq_false_iff_ne]; omega
  have t249 : ¬ (249 : Int) < (c : Int) := by omega
  have hsz : sizesM c = [(c : Int) - 234] := by
    unfold sizesM
    repeat (first | rw [if_pos (by omega)] | rw [if_neg (by omega)])
  have htn : textN c xs = none := by unfold textN; repeat (first | rw [if_pos (by omega)] | rw [if_neg (by omega)])
  have hx2 := HXS.out
  have hf2 := HF2.out
  have htx := HTX.out
  have hfr := HFR.out
  rw [hsz] at hx2 hf2
  rw [Fd.tail, htn, if_neg (by omega)] at htx hfr
  simp only at htx hfr
  have HA := args_call [(c : Int) - 234] 1 rfl (by omega) (by simp; try omega) H6.out
  rw [hx2, hf2] at HA
  simp only [intsL, List.map_cons, List.map_nil] at HA
  have HTX2 := Lib.hid htx
  have HFR2 := Lib.hid hfr
  have HAA := Lib.hid HA
  clear HA hx2 hf2 htn hsz htx hfr H6 HXS HF2 HTX HFR
  go_wp2_with fail
  refine Calls.mono HAA.out ?_
  rintro e w5 ⟨rfl, va, h5⟩
  have hx := h5
  rw [HFR2.out] at hx
  have H5 := Lib.hid (show FdAt W (pts (b2 + 1) (opO (c : Nat) q va ⟨txt.toArray⟩) * (rowI va xs * (pts b2 (.cells #[.int .i64 0, .int .i64 0, .slice none 0 0, .string ⟨#[]⟩] 33) * A))) b cf cap fr w5 from by rw [← HTX2.out]; exact hx)
  clear h5 hx HAA
  (try go_upto_region 41 with fail)
  obtain ⟨va, hx⟩ : ∃ va, FdAt W (pts (b2 + 1) (opO (c : Nat) q va ⟨txt.toArray⟩) * (rowI va xs * (pts b2 (.cells #[.int .i64 0, .int .i64 0, .slice none 0 0, .string ⟨#[]⟩] 33) * A))) b cf cap fr _ := ⟨_, H5.out⟩
  clear H5
  have HE := Lib.hid (hx.of_eq (show _ = pts (b2 + 1) (opO (c : Nat) q _ ⟨txt.toArray⟩) * (pts b2 (.cells #[.int .i64 0, .int .i64 0, .slice none 0 0, .string ⟨#[]⟩] 33) * (rowI _ xs * A)) by ac_rfl))
  obtain ⟨va1, vc, hva, -⟩ := hx.sat.r.row_val
  subst hva
  obtain ⟨Y, h7, back⟩ := HE.out.focus
  have h8 := h7.asc
  have x0 := h8.cell (i := 0) rfl
  have x1 := h8.cell (i := 1) rfl
  have x2 := h8.cell (i := 2) rfl
  have x3 := h8.cell (i := 3) rfl
  have y0 := h8.r.asc.cell (i := 0) rfl
  have y1 := h8.r.asc.cell (i := 1) rfl
  have y2 := h8.r.asc.cell (i := 2) rfl
  have y3 := h8.r.asc.cell (i := 3) rfl
  have z0 := h8.r.asc.free (i := 0)
  have z1 := h8.r.asc.free (i := 1)
  have z2 := h8.r.asc.free (i := 2)
  have z3 := h8.r.asc.free (i := 3)
  have xb := h8.lt
  have yb := h8.r.asc.lt
  have h9 := (((((h8.of_eq (show _ = pts b2 (.cells #[.int .i64 0, .int .i64 0, .slice none 0 0, .string ⟨#[]⟩] 33) * ((rowI (.slice va1 xs.length vc) xs * A) * Y * pts (b2 + 1) (opO (c : Nat) q (.slice va1 xs.length vc) ⟨txt.toArray⟩)) by ac_rfl)).set (i := 0) (v := .int .i64 ((c : Nat) : Int))).set (i := 1) (v := .int .i64 (q : Int))).set (i := 2) (v := .slice va1 xs.length vc)).set (i := 3) (v := .string ⟨txt.toArray⟩))
  have HH := Lib.hid (back _ _ h9.r.l)
  have h10 := h9.cell (i := 0) rfl
  clear h7 back hx HE h8 h10
  have HRES := Lib.hid h9
  clear h9
  go_wp2
  (try simp only [Exit.inBlock, Exit.then])
  refine bodyPost_ret (v := .agg #[.int .i64 ((c : Nat) : Int), .int .i64 (q : Int), .slice va1 xs.length vc, .string ⟨txt.toArray⟩]) (by unfold results; go_simp) rfl ?_
  rw [HCM.out]
  exact ⟨_, rfl, HH.out⟩

end Go.Proofs.Ytjeinldhbajknaa

/-
  A command out of a feed. Conditions: those that each theorem names.
-/
namespace Go.Proofs.Ytjeinldhbajknaa
open Go.RowKit Go.Sp Go.Conc
variable {W w w' : World} {A : HProp}

set_option maxRecDepth 100000 in
set_option maxHeartbeats 16000000 in
theorem op_239 {b cf cap : Nat} {f : Fd} (hb : 239 ≤ f.next.1 ∧ f.next.1 ≤ 242) (h : FdAt W A b cf cap f w) :
    Calls Try.prog 30 #[.pointer (some ⟨b, 0, none⟩)] w fun e w' => ∃ va, e = .returned (.agg #[.int .i64 f.cmd.1.code, .int .i64 f.cmd.1.at_, va, .string ⟨f.cmd.1.text.toArray⟩]) ∧ FdAt W (rowI va f.cmd.1.args * A) b cf cap f.cmd.2 w' := by
  have hat : ∃ s r, Sat W (pts b (.cells #[.chan (some cf), .int .i64 f.at_, .bool f.lost] 110) * (pts cf (chanO cap f.l true s r) * A)) w := h.2
  obtain ⟨s, r, hs⟩ := hat
  have c1 := hs.cell (i := 1) rfl
  have lb := hs.lt
  clear hs
  have h2 := (h.allocX (.cells #[.int .i64 0, .int .i64 0, .slice none 0 0, .string ⟨#[]⟩] 33)).allocX (opO 0 f.at_ (.slice none 0 0) ⟨#[]⟩)
  obtain ⟨b2, hb2⟩ : ∃ b2, w.heap.size = b2 := ⟨_, rfl⟩
  have lb2 := lb
  rw [hb2] at lb2
  rw [show (w.alloc (.cells #[.int .i64 0, .int .i64 0, .slice none 0 0, .string ⟨#[]⟩] 33)).heap.size = b2 + 1 by simp [hb2], hb2] at h2
  have H2 := Lib.hid h2
  have HN := Lib.hid (next_any h2)
  clear h h2
  go_enter Try.func30, Try.ntmps30
  go_upto_region 2 with fail
  generalize (w.alloc (.cells #[.int .i64 0, .int .i64 0, .slice none 0 0, .string ⟨#[]⟩] 33)).alloc (opO 0 f.at_ (.slice none 0 0) ⟨#[]⟩) = W2 at *
  clear c1 lb lb2 hb2
  have hlt := f.next_lt
  obtain ⟨c, hc⟩ : ∃ c, f.next.1 = c := ⟨_, rfl⟩
  obtain ⟨f1, hf1⟩ : ∃ f1, f.next.2 = f1 := ⟨_, rfl⟩
  obtain ⟨xs, hxs⟩ : ∃ xs, (f1.args (sizesM c) []).1 = xs := ⟨_, rfl⟩
  obtain ⟨f2, hf2⟩ : ∃ f2, (f1.args (sizesM c) []).2 = f2 := ⟨_, rfl⟩
  obtain ⟨txt, htxt⟩ : ∃ txt, (f2.tail c xs).1 = txt := ⟨_, rfl⟩
  obtain ⟨fr, hfr⟩ : ∃ fr, (f2.tail c xs).2 = fr := ⟨_, rfl⟩
  obtain ⟨q, hq⟩ : ∃ q, f.at_ = q := ⟨_, rfl⟩
  have HCM := Lib.hid (show f.cmd = (⟨c, q, xs, txt⟩, fr) by
    unfold Fd.cmd
    simp only [hc, hf1, hxs, hf2, htxt, hfr, hq])
  rw [hc] at hlt HN hb
  rw [hf1] at HN
  rw [hq] at HN H2
  rw [hq]
  have HXS := Lib.hid hxs
  have HF2 := Lib.hid hf2
  have HTX := Lib.hid htxt
  have HFR := Lib.hid hfr
  clear hc hf1 hxs hf2 htxt hfr hq
  go_wp2_with fail
  refine Calls.mono HN.out ?_
  rintro e w3 ⟨rfl, h3⟩
  have a0 := h3.sat.cell (i := 0) rfl
  have ab := h3.sat.lt
  have af := h3.sat.free (i := 0)
  obtain ⟨Y, h4, back⟩ := h3.focus
  have h5 := (h4.asc.set (i := 0) (v := .int .i64 (c : Int)))
  have h6 := back _ _ (show Sat W ((pts (b2 + 1) (opO c q (.slice none 0 0) ⟨#[]⟩) * (pts b2 (.cells #[.int .i64 0, .int .i64 0, .slice none 0 0, .string ⟨#[]⟩] 33) * A)) * Y) _ from Sat.asc' h5)
  have H6 := Lib.hid h6
  clear h3 h4 h5 h6 back H2 HN
  go_upto_region 3 with fail
  generalize w3.setCell ⟨b2 + 1, 0, none⟩ (.int .i64 (c : Int)) = W4 at *
  clear a0 ab af
  have a0 := H6.out.sat.cell (i := 0) rfl
  have ab := H6.out.sat.lt
  go_upto_block 0 with fail
  have g128 : (128 : Int) ≤ (c : Int) := by omega
  have g133 : (133 : Int) ≤ (c : Int) := by omega
  have g143 : (143 : Int) ≤ (c : Int) := by omega
  have g148 : (148 : Int) ≤ (c : Int) := by omega
  have g153 : (153 : Int) ≤ (c : Int) := by omega
  have g157 : (157 : Int) ≤ (c : Int) := by omega
  have g162 : (162 : Int) ≤ (c : Int) := by omega
  have g167 : (167 : Int) ≤ (c : Int) := by omega
  have g235 : (235 : Int) ≤ (c : Int) := by omega
  have g239 : (239 : Int) ≤ (c : Int) := by omega
  have g243 : ¬ (243 : Int) ≤ (c : Int) := by omega
  have l131 : ¬ (c : Int) ≤ (131 : Int) := by omega
  have l136 : ¬ (c : Int) ≤ (136 : Int) := by omega
  have l146 : ¬ (c : Int) ≤ (146 : Int) := by omega
  have l151 : ¬ (c : Int) ≤ (151 : Int) := by omega
  have l156 : ¬ (c : Int) ≤ (156 : Int) := by omega
  have l160 : ¬ (c : Int) ≤ (160 : Int) := by omega
  have l165 : ¬ (c : Int) ≤ (165 : Int) := by omega
  have l170 : ¬ (c : Int) ≤ (170 : Int) := by omega
  have l238 : ¬ (c : Int) ≤ (238 : Int) := by omega
  have l242 : (c : Int) ≤ (242 : Int) := by omega
  have l246 : (c : Int) ≤ (246 : Int) := by omega
  have e132 : ((c : Int) == 132) = false := by rw [beq_eq_false_iff_ne]; omega
  have e137 : ((c : Int) == 137) = false := by rw [beq_eq_false_iff_ne]; omega
  have e139 : ((c : Int) == 139) = false := by rw [beq_eq_false_iff_ne]; omega
  have e247 : ((c : Int) == 247) = false := by rw [beq_eq_false_iff_ne]; omega
  have e248 : ((c : Int) == 248) = false := by rw [beq_eq_false_iff_ne]; omega
  have e249 : ((c : Int) == 249) = false := by rw [beq_eq_false_iff_ne]; omega
  have t249 : ¬ (249 : Int) < (c : Int) := by omega
  have hsz : sizesM c = [(c : Int) - 238] := by
    unfold sizesM
    repeat (first | rw [if_pos (by omega)] | rw [if_neg (by omega)])
  have htn : textN c xs = some (xs.getD 0 0) := by unfold textN; repeat (first | rw [if_pos (by omega)] | rw [if_neg (by omega)])
  have hx2 := HXS.out
  have hf2 := HF2.out
  have htx := HTX.out
  have hfr := HFR.out
  rw [hsz] at hx2 hf2
  rw [Fd.tail, htn] at htx hfr
  simp only at htx hfr
  have hxl : xs.length = 1 := by rw [← hx2, args_len]; rfl
  have HA := args_call [(c : Int) - 238] 1 rfl (by omega) (by simp; try omega) H6.out
  rw [hx2, hf2] at HA
  simp only [intsL, List.map_cons, List.map_nil] at HA
  have HAA := Lib.hid HA
  clear HA hx2 hf2 htn hsz H6 HXS HF2 HTX HFR
  go_wp2_with fail
  refine Calls.mono HAA.out ?_
  rintro e w5 ⟨rfl, va, h5⟩
  have HT := Lib.hid (text_any (xs.getD 0 0) h5)
  rw [htx, hfr] at HT
  obtain ⟨va1, vc, hva, hcell⟩ := h5.sat.r.row_val
  subst hva
  obtain ⟨ga, hga, v0⟩ := hcell 0 (.int .i64 (xs.getD 0 0)) (by simp [List.getD, hxl])
  subst hga
  have k2 := h5.sat.cell (i := 2) rfl
  have kb := h5.sat.lt
  rw [hxl] at k2
  have gb := World.block_lt_of_cell? w5 _ v0
  generalize xs.getD 0 0 = x0 at *
  have HXL := Lib.hid hxl
  clear h5 HAA hcell htx hfr hxl
  go_wp2_with fail
  refine Calls.mono HT.out ?_
  rintro e w6 ⟨rfl, h6⟩
  have k3 := h6.sat.cell (i := 3) rfl
  have kb := h6.sat.lt
  have kf := h6.sat.free (i := 3)
  obtain ⟨Y, h7, back⟩ := h6.focus
  have h8 := h7.asc.set (i := 3) (v := .string ⟨txt.toArray⟩)
  have HH := Lib.hid (back _ _ (Sat.asc' h8))
  clear h6 h7 h8 back k2 v0 gb
  go_upto_region 41 with fail
  clear k3 kb kf
  have H5 := HH
  (try go_upto_region 41 with fail)
  obtain ⟨va, hx⟩ : ∃ va, FdAt W (pts (b2 + 1) (opO (c : Nat) q va ⟨txt.toArray⟩) * (rowI va xs * (pts b2 (.cells #[.int .i64 0, .int .i64 0, .slice none 0 0, .string ⟨#[]⟩] 33) * A))) b cf cap fr _ := ⟨_, H5.out⟩
  clear H5
  have HE := Lib.hid (hx.of_eq (show _ = pts (b2 + 1) (opO (c : Nat) q _ ⟨txt.toArray⟩) * (pts b2 (.cells #[.int .i64 0, .int .i64 0, .slice none 0 0, .string ⟨#[]⟩] 33) * (rowI _ xs * A)) by ac_rfl))
  obtain ⟨va1, vc, hva, -⟩ := hx.sat.r.row_val
  subst hva
  obtain ⟨Y, h7, back⟩ := HE.out.focus
  have h8 := h7.asc
  have x0 := h8.cell (i := 0) rfl
  have x1 := h8.cell (i := 1) rfl
  have x2 := h8.cell (i := 2) rfl
  have x3 := h8.cell (i := 3) rfl
  have y0 := h8.r.asc.cell (i := 0) rfl
  have y1 := h8.r.asc.cell (i := 1) rfl
  have y2 := h8.r.asc.cell (i := 2) rfl
  have y3 := h8.r.asc.cell (i := 3) rfl
  have z0 := h8.r.asc.free (i := 0)
  have z1 := h8.r.asc.free (i := 1)
  have z2 := h8.r.asc.free (i := 2)
  have z3 := h8.r.asc.free (i := 3)
  have xb := h8.lt
  have yb := h8.r.asc.lt
  have h9 := (((((h8.of_eq (show _ = pts b2 (.cells #[.int .i64 0, .int .i64 0, .slice none 0 0, .string ⟨#[]⟩] 33) * ((rowI (.slice va1 xs.length vc) xs * A) * Y * pts (b2 + 1) (opO (c : Nat) q (.slice va1 xs.length vc) ⟨txt.toArray⟩)) by ac_rfl)).set (i := 0) (v := .int .i64 ((c : Nat) : Int))).set (i := 1) (v := .int .i64 (q : Int))).set (i := 2) (v := .slice va1 xs.length vc)).set (i := 3) (v := .string ⟨txt.toArray⟩))
  have HH := Lib.hid (back _ _ h9.r.l)
  have h10 := h9.cell (i := 0) rfl
  clear h7 back hx HE h8 h10
  have HRES := Lib.hid h9
  clear h9
  go_wp2
  (try simp only [Exit.inBlock, Exit.then])
  refine bodyPost_ret (v := .agg #[.int .i64 ((c : Nat) : Int), .int .i64 (q : Int), .slice va1 xs.length vc, .string ⟨txt.toArray⟩]) (by unfold results; go_simp) rfl ?_
  rw [HCM.out]
  exact ⟨_, rfl, HH.out⟩
set_option maxRecDepth 100000 in
set_option maxHeartbeats 16000000 in
theorem op_243 {b cf cap : Nat} {f : Fd} (hb : 243 ≤ f.next.1 ∧ f.next.1 ≤ 246) (h : FdAt W A b cf cap f w) :
    Calls Try.prog 30 #[.pointer (some ⟨b, 0, none⟩)] w fun e w' => ∃ va, e = .returned (.agg #[.int .i64 f.cmd.1.code, .int .i64 f.cmd.1.at_, va, .string ⟨f.cmd.1.text.toArray⟩]) ∧ FdAt W (rowI va f.cmd.1.args * A) b cf cap f.cmd.2 w' := by
  have hat : ∃ s r, Sat W (pts b (.cells #[.chan (some cf), .int .i64 f.at_, .bool f.lost] 110) * (pts cf (chanO cap f.l true s r) * A)) w := h.2
  obtain ⟨s, r, hs⟩ := hat
  have c1 := hs.cell (i := 1) rfl
  have lb := hs.lt
  clear hs
  have h2 := (h.allocX (.cells #[.int .i64 0, .int .i64 0, .slice none 0 0, .string ⟨#[]⟩] 33)).allocX (opO 0 f.at_ (.slice none 0 0) ⟨#[]⟩)
  obtain ⟨b2, hb2⟩ : ∃ b2, w.heap.size = b2 := ⟨_, rfl⟩
  have lb2 := lb
  rw [hb2] at lb2
  rw [show (w.alloc (.cells #[.int .i64 0, .int .i64 0, .slice none 0 0, .string ⟨#[]⟩] 33)).heap.size = b2 + 1 by simp [hb2], hb2] at h2
  have H2 := Lib.hid h2
  have HN := Lib.hid (next_any h2)
  clear h h2
  go_enter Try.func30, Try.ntmps30
  go_upto_region 2 with fail
  generalize (w.alloc (.cells #[.int .i64 0, .int .i64 0, .slice none 0 0, .string ⟨#[]⟩] 33)).alloc (opO 0 f.at_ (.slice none 0 0) ⟨#[]⟩) = W2 at *
  clear c1 lb lb2 hb2
  have hlt := f.next_lt
  obtain ⟨c, hc⟩ : ∃ c, f.next.1 = c := ⟨_, rfl⟩
  obtain ⟨f1, hf1⟩ : ∃ f1, f.next.2 = f1 := ⟨_, rfl⟩
  obtain ⟨xs, hxs⟩ : ∃ xs, (f1.args (sizesM c) []).1 = xs := ⟨_, rfl⟩
  obtain ⟨f2, hf2⟩ : ∃ f2, (f1.args (sizesM c) []).2 = f2 := ⟨_, rfl⟩
  obtain ⟨txt, htxt⟩ : ∃ txt, (f2.tail c xs).1 = txt := ⟨_, rfl⟩
  obtain ⟨fr, hfr⟩ : ∃ fr, (f2.tail c xs).2 = fr := ⟨_, rfl⟩
  obtain ⟨q, hq⟩ : ∃ q, f.at_ = q := ⟨_, rfl⟩
  have HCM := Lib.hid (show f.cmd = (⟨c, q, xs, txt⟩, fr) by
    unfold Fd.cmd
    simp only [hc, hf1, hxs, hf2, htxt, hfr, hq])
  rw [hc] at hlt HN hb
  rw [hf1] at HN
  rw [hq] at HN H2
  rw [hq]
  have HXS := Lib.hid hxs
  have HF2 := Lib.hid hf2
  have HTX := Lib.hid htxt
  have HFR := Lib.hid hfr
  clear hc hf1 hxs hf2 htxt hfr hq
  go_wp2_with fail
  refine Calls.mono HN.out ?_
  rintro e w3 ⟨rfl, h3⟩
  have a0 := h3.sat.cell (i := 0) rfl
  have ab := h3.sat.lt
  have af := h3.sat.free (i := 0)
  obtain ⟨Y, h4, back⟩ := h3.focus
  have h5 := (h4.asc.set (i := 0) (v := .int .i64 (c : Int)))
  have h6 := back _ _ (show Sat W ((pts (b2 + 1) (opO c q (.slice none 0 0) ⟨#[]⟩) * (pts b2 (.cells #[.int .i64 0, .int .i64 0, .slice none 0 0, .string ⟨#[]⟩] 33) * A)) * Y) _ from Sat.asc' h5)
  have H6 := Lib.hid h6
  clear h3 h4 h5 h6 back H2 HN
  go_upto_region 3 with fail
  generalize w3.setCell ⟨b2 + 1, 0, none⟩ (.int .i64 (c : Int)) = W4 at *
  clear a0 ab af
  have a0 := H6.out.sat.cell (i := 0) rfl
  have ab := H6.out.sat.lt
  go_upto_block 0 with fail
  have g128 : (128 : Int) ≤ (c : Int) := by omega
  have g133 : (133 : Int) ≤ (c : Int) := by omega
  have g143 : (143 : Int) ≤ (c : Int) := by omega
  have g148 : (148 : Int) ≤ (c : Int) := by omega
  have g153 : (153 : Int) ≤ (c : Int) := by omega
  have g157 : (157 : Int) ≤ (c : Int) := by omega
  have g162 : (162 : Int) ≤ (c : Int) := by omega
  have g167 : (167 : Int) ≤ (c : Int) := by omega
  have g235 : (235 : Int) ≤ (c : Int) := by omega
  have g239 : (239 : Int) ≤ (c : Int) := by omega
  have g243 : (243 : Int) ≤ (c : Int) := by omega
  have l131 : ¬ (c : Int) ≤ (131 : Int) := by omega
  have l136 : ¬ (c : Int) ≤ (136 : Int) := by omega
  have l146 : ¬ (c : Int) ≤ (146 : Int) := by omega
  have l151 : ¬ (c : Int) ≤ (151 : Int) := by omega
  have l156 : ¬ (c : Int) ≤ (156 : Int) := by omega
  have l160 : ¬ (c : Int) ≤ (160 : Int) := by omega
  have l165 : ¬ (c : Int) ≤ (165 : Int) := by omega
  have l170 : ¬ (c : Int) ≤ (170 : Int) := by omega
  have l238 : ¬ (c : Int) ≤ (238 : Int) := by omega
  have l242 : ¬ (c : Int) ≤ (242 : Int) := by omega
  have l246 : (c : Int) ≤ (246 : Int) := by omega
  have e132 : ((c : Int) == 132) = false := by rw [beq_eq_false_iff_ne]; omega
  have e137 : ((c : Int) == 137) = false := by rw [beq_eq_false_iff_ne]; omega
  have e139 : ((c : Int) == 139) = false := by rw [beq_eq_false_iff_ne]; omega
  have e247 : ((c : Int) == 247) = false := by rw [beq_eq_false_iff_ne]; omega
  have e248 : ((c : Int) == 248) = false := by rw [beq_eq_false_iff_ne]; omega
  have e249 : ((c : Int) == 249) = false := by rw [beq_eq_false_iff_ne]; omega
  have t249 : ¬ (249 : Int) < (c : Int) := by omega
  have hsz : sizesM c = [(c : Int) - 242, 4, 4, 4, 1, 1] := by
    unfold sizesM
    repeat (first | rw [if_pos (by omega)] | rw [if_neg (by omega)])
  have htn : textN c xs = some (xs.getD 4 0 + xs.getD 5 0) := by unfold textN; repeat (first | rw [if_pos (by omega)] | rw [if_neg (by omega)])
  have hx2 := HXS.out
  have hf2 := HF2.out
  have htx := HTX.out
  have hfr := HFR.out
  rw [hsz] at hx2 hf2
  rw [Fd.tail, htn] at htx hfr
  simp only at htx hfr
  have hxl : xs.length = 6 := by rw [← hx2, args_len]; rfl
  obtain ⟨hy4, hy5⟩ := args_ends f1 ((c : Int) - 242)
  rw [hx2] at hy4 hy5
  have HA := args_call [(c : Int) - 242, 4, 4, 4, 1, 1] 6 rfl (by omega) (by simp; try omega) H6.out
  rw [hx2, hf2] at HA
  simp only [intsL, List.map_cons, List.map_nil] at HA
  have HAA := Lib.hid HA
  clear HA hx2 hf2 htn hsz H6 HXS HF2 HTX HFR
  go_wp2_with fail
  refine Calls.mono HAA.out ?_
  rintro e w5 ⟨rfl, va, h5⟩
  have HT := Lib.hid (text_any (xs.getD 4 0 + xs.getD 5 0) h5.drewD)
  rw [htx, hfr] at HT
  obtain ⟨va1, vc, hva, hcell⟩ := h5.sat.r.row_val
  subst hva
  obtain ⟨ga, hga, v4⟩ := hcell 4 (.int .i64 (xs.getD 4 0)) (by simp [List.getD, hxl])
  subst hga
  obtain ⟨ga', hga, v5⟩ := hcell 5 (.int .i64 (xs.getD 5 0)) (by simp [List.getD, hxl])
  simp only [Option.some.injEq, Addr.mk.injEq, and_true] at hga
  subst hga
  obtain ⟨x4, hx4⟩ : ∃ x, xs.getD 4 0 = x := ⟨_, rfl⟩
  obtain ⟨x5, hx5⟩ : ∃ x, xs.getD 5 0 = x := ⟨_, rfl⟩
  rw [hxl] at h5
  obtain ⟨C, hC⟩ : ∃ C : World → Prop, C = fun w' => ∃ X, Sat W (pts (b2 + 1) (opO c q (.slice (some ⟨ga, 0, none⟩) 6 vc) ⟨#[]⟩) * (rowI (.slice (some ⟨ga, 0, none⟩) 6 vc) xs * X)) w' := ⟨_, rfl⟩
  have HC := Lib.hid (show ∀ w', C w' → w'.cell? ⟨b2 + 1, 2, none⟩ = some (.slice (some ⟨ga, 0, none⟩) 6 vc) ∧ w'.cell? ⟨ga, 4, none⟩ = some (.int .i64 x4) ∧ w'.cell? ⟨ga, 5, none⟩ = some (.int .i64 x5) from fun w' h => by
    rw [hC] at h
    obtain ⟨X, h⟩ := h
    have h2 := h.r
    unfold rowI at h2
    rw [hxl] at h2
    exact ⟨h.cell rfl, h2.row_cell (by rw [← hx4]; simp [List.getD, hxl]), h2.row_cell (by rw [← hx5]; simp [List.getD, hxl])⟩)
  have HC2 := Lib.hid (show ∀ X w', Sat W (pts (b2 + 1) (opO c q (.slice (some ⟨ga, 0, none⟩) 6 vc) ⟨#[]⟩) * (rowI (.slice (some ⟨ga, 0, none⟩) 6 vc) xs * X)) w' → C w' from fun X w' h => by rw [hC]; exact ⟨X, h⟩)
  rw [hx4] at hy4 HT
  rw [hx5] at hy5 HT
  have HXL := Lib.hid hxl
  have H5 := Lib.hid h5.drewD
  have hwr : IntKind.i64.wrap (x4 + x5) = x4 + x5 := IntWalk.i64_in _ (by omega)
  clear h5 HAA hcell htx hfr hxl hC hx4 hx5 v4 v5
  go_upto_region 31 with fail
  refine wp_region_E C (by kernel_rfl) ?_
  generalize w5.drew = W6 at *
  refine wpE_take (i := 0) (q := 10) (v := ?_) rfl (by kernel_rfl) (by kernel_rfl) (by kernel_rfl) (by kernel_rfl) (by kernel_rfl) (fun _ _ _ h => h) (by rfl) ?_ ?_
  rotate_left 1
  · intro w hw; go_simp; try with_reducible rfl
  refine wpE_take (i := 1) (q := 2) (v := ?_) rfl (by kernel_rfl) (by kernel_rfl) (by kernel_rfl) (by kernel_rfl) (by kernel_rfl) (fun _ _ _ h => h) (by rfl) ?_ ?_
  rotate_left 1
  · intro w hw; go_simp; try with_reducible rfl
  refine wpE_take (i := 2) (q := 3) (v := ?_) rfl (by kernel_rfl) (by kernel_rfl) (by kernel_rfl) (by kernel_rfl) (by kernel_rfl) (fun _ _ _ h => h) (by rfl) ?_ ?_
  rotate_left 1
  · intro w hw; (obtain ⟨q1, q2, q3⟩ := HC.out _ hw; go_simp; try with_reducible rfl)
  refine wpE_take (i := 3) (q := 4) (v := ?_) rfl (by kernel_rfl) (by kernel_rfl) (by kernel_rfl) (by kernel_rfl) (by kernel_rfl) (fun _ _ _ h => h) (by rfl) ?_ ?_
  rotate_left 1
  · intro w hw; go_simp; try with_reducible rfl
  refine wpE_take (i := 4) (q := 9) (v := ?_) rfl (by kernel_rfl) (by kernel_rfl) (by kernel_rfl) (by kernel_rfl) (by kernel_rfl) (fun _ _ _ h => h) (by rfl) ?_ ?_
  rotate_left 1
  · intro w hw; (obtain ⟨q1, q2, q3⟩ := HC.out _ hw; go_simp; try with_reducible rfl)
  refine wpE_take (i := 5) (q := 6) (v := ?_) rfl (by kernel_rfl) (by kernel_rfl) (by kernel_rfl) (by kernel_rfl) (by kernel_rfl) (fun _ _ _ h => h) (by rfl) ?_ ?_
  rotate_left 1
  · intro w hw; go_simp; try with_reducible rfl
  refine wpE_take (i := 6) (q := 7) (v := ?_) rfl (by kernel_rfl) (by kernel_rfl) (by kernel_rfl) (by kernel_rfl) (by kernel_rfl) (fun _ _ _ h => h) (by rfl) ?_ ?_
  rotate_left 1
  · intro w hw; (obtain ⟨q1, q2, q3⟩ := HC.out _ hw; go_simp; try with_reducible rfl)
  refine wpE_take (i := 7) (q := 8) (v := ?_) rfl (by kernel_rfl) (by kernel_rfl) (by kernel_rfl) (by kernel_rfl) (by kernel_rfl) (fun _ _ _ h => h) (by rfl) ?_ ?_
  rotate_left 1
  · intro w hw; go_simp; try with_reducible rfl
  refine wpE_take (i := 8) (q := 9) (v := ?_) rfl (by kernel_rfl) (by kernel_rfl) (by kernel_rfl) (by kernel_rfl) (by kernel_rfl) (fun _ _ _ h => h) (by rfl) ?_ ?_
  rotate_left 1
  · intro w hw; (obtain ⟨q1, q2, q3⟩ := HC.out _ hw; go_simp; try with_reducible rfl)
  refine wpE_take (i := 9) (q := 10) (v := ?_) rfl (by kernel_rfl) (by kernel_rfl) (by kernel_rfl) (by kernel_rfl) (by kernel_rfl) (fun _ _ _ h => h) (by rfl) ?_ ?_
  rotate_left 1
  · intro w hw; go_simp; try with_reducible rfl
  refine wpE_one (i := 10) rfl (by kernel_rfl) (HC2.out _ _ H5.out.sat) (fun K hK => ?_)
  go_simp
  refine Calls.mono HT.out ?_
  rintro e w6 ⟨rfl, h6⟩
  have H6 := Lib.hid h6
  clear h6 HT H5
  go_simp
  refine hK _ _ ?_
  clear hK K
  refine wpE_take (i := 11) (q := 12) (v := ?_) rfl (by kernel_rfl) (by kernel_rfl) (by kernel_rfl) (by kernel_rfl) (by kernel_rfl) (fun _ _ _ h => h) (by rfl) ?_ ?_
  rotate_left 1
  · intro w hw; go_simp; try with_reducible rfl
  have k3 := H6.out.sat.cell (i := 3) rfl
  have kb := H6.out.sat.lt
  have kf := H6.out.sat.free (i := 3)
  obtain ⟨Y, h7, back⟩ := H6.out.focus
  have h8 := h7.asc.set (i := 3) (v := .string ⟨txt.toArray⟩)
  have HH := Lib.hid (back _ _ (Sat.asc' h8))
  rw [HXL.out] at HH
  have hc6 := H6.out
  rw [HXL.out] at hc6
  refine wpE_one (i := 12) rfl (by kernel_rfl) (HC2.out _ _ hc6.sat) (fun K hK => ?_)
  go_simp
  refine hK _ _ ?_
  clear hK K
  refine wpE_done (by kernel_rfl) (by kernel_rfl) ?_
  clear h7 h8 back hc6 H6
  have H5 := HH
  (try go_upto_region 41 with fail)
  obtain ⟨va, hx⟩ : ∃ va, FdAt W (pts (b2 + 1) (opO (c : Nat) q va ⟨txt.toArray⟩) * (rowI va xs * (pts b2 (.cells #[.int .i64 0, .int .i64 0, .slice none 0 0, .string ⟨#[]⟩] 33) * A))) b cf cap fr _ := ⟨_, H5.out⟩
  clear H5
  have HE := Lib.hid (hx.of_eq (show _ = pts (b2 + 1) (opO (c : Nat) q _ ⟨txt.toArray⟩) * (pts b2 (.cells #[.int .i64 0, .int .i64 0, .slice none 0 0, .string ⟨#[]⟩] 33) * (rowI _ xs * A)) by ac_rfl))
  obtain ⟨va1, vc, hva, -⟩ := hx.sat.r.row_val
  subst hva
  obtain ⟨Y, h7, back⟩ := HE.out.focus
  have h8 := h7.asc
  have x0 := h8.cell (i := 0) rfl
  have x1 := h8.cell (i := 1) rfl
  have x2 := h8.cell (i := 2) rfl
  have x3 := h8.cell (i := 3) rfl
  have y0 := h8.r.asc.cell (i := 0) rfl
  have y1 := h8.r.asc.cell (i := 1) rfl
  have y2 := h8.r.asc.cell (i := 2) rfl
  have y3 := h8.r.asc.cell (i := 3) rfl
  have z0 := h8.r.asc.free (i := 0)
  have z1 := h8.r.asc.free (i := 1)
  have z2 := h8.r.asc.free (i := 2)
  have z3 := h8.r.asc.free (i := 3)
  have xb := h8.lt
  have yb := h8.r.asc.lt
  have h9 := (((((h8.of_eq (show _ = pts b2 (.cells #[.int .i64 0, .int .i64 0, .slice none 0 0, .string ⟨#[]⟩] 33) * ((rowI (.slice va1 xs.length vc) xs * A) * Y * pts (b2 + 1) (opO (c : Nat) q (.slice va1 xs.length vc) ⟨txt.toArray⟩)) by ac_rfl)).set (i := 0) (v := .int .i64 ((c : Nat) : Int))).set (i := 1) (v := .int .i64 (q : Int))).set (i := 2) (v := .slice va1 xs.length vc)).set (i := 3) (v := .string ⟨txt.toArray⟩))
  have HH := Lib.hid (back _ _ h9.r.l)
  have h10 := h9.cell (i := 0) rfl
  clear h7 back hx HE h8 h10
  have HRES := Lib.hid h9
  clear h9
  go_wp2
  (try simp only [Exit.inBlock, Exit.then])
  refine bodyPost_ret (v := .agg #[.int .i64 ((c : Nat) : Int), .int .i64 (q : Int), .slice va1 xs.length vc, .string ⟨txt.toArray⟩]) (by unfold results; go_simp) rfl ?_
  rw [HCM.out]
  exact ⟨_, rfl, HH.out⟩
set_option maxRecDepth 100000 in
set_option maxHeartbeats 16000000 in
theorem op_247 {b cf cap : Nat} {f : Fd} (hb : f.next.1 = 247) (h : FdAt W A b cf cap f w) :
    Calls Try.prog 30 #[.pointer (some ⟨b, 0, none⟩)] w fun e w' => ∃ va, e = .returned (.agg #[.int .i64 f.cmd.1.code, .int .i64 f.cmd.1.at_, va, .string ⟨f.cmd.1.text.toArray⟩]) ∧ FdAt W (rowI va f.cmd.1.args * A) b cf cap f.cmd.2 w' := by
  have hat : ∃ s r, Sat W (pts b (.cells #[.chan (some cf), .int .i64 f.at_, .bool f.lost] 110) * (pts cf (chanO cap f.l true s r) * A)) w := h.2
  obtain ⟨s, r, hs⟩ := hat
  have c1 := hs.cell (i := 1) rfl
  have lb := hs.lt
  clear hs
  have h2 := (h.allocX (.cells #[.int .i64 0, .int .i64 0, .slice none 0 0, .string ⟨#[]⟩] 33)).allocX (opO 0 f.at_ (.slice none 0 0) ⟨#[]⟩)
  obtain ⟨b2, hb2⟩ : ∃ b2, w.heap.size = b2 := ⟨_, rfl⟩
  have lb2 := lb
  rw [hb2] at lb2
  rw [show (w.alloc (.cells #[.int .i64 0, .int .i64 0, .slice none 0 0, .string ⟨#[]⟩] 33)).heap.size = b2 + 1 by simp [hb2], hb2] at h2
  have H2 := Lib.hid h2
  have HN := Lib.hid (next_any h2)
  clear h h2
  go_enter Try.func30, Try.ntmps30
  go_upto_region 2 with fail
  generalize (w.alloc (.cells #[.int .i64 0, .int .i64 0, .slice none 0 0, .string ⟨#[]⟩] 33)).alloc (opO 0 f.at_ (.slice none 0 0) ⟨#[]⟩) = W2 at *
  clear c1 lb lb2 hb2
  have hlt := f.next_lt
  obtain ⟨c, hc⟩ : ∃ c, f.next.1 = c := ⟨_, rfl⟩
  obtain ⟨f1, hf1⟩ : ∃ f1, f.next.2 = f1 := ⟨_, rfl⟩
  obtain ⟨xs, hxs⟩ : ∃ xs, (f1.args (sizesM c) []).1 = xs := ⟨_, rfl⟩
  obtain ⟨f2, hf2⟩ : ∃ f2, (f1.args (sizesM c) []).2 = f2 := ⟨_, rfl⟩
  obtain ⟨txt, htxt⟩ : ∃ txt, (f2.tail c xs).1 = txt := ⟨_, rfl⟩
  obtain ⟨fr, hfr⟩ : ∃ fr, (f2.tail c xs).2 = fr := ⟨_, rfl⟩
  obtain ⟨q, hq⟩ : ∃ q, f.at_ = q := ⟨_, rfl⟩
  have HCM := Lib.hid (show f.cmd = (⟨c, q, xs, txt⟩, fr) by
    unfold Fd.cmd
    simp only [hc, hf1, hxs, hf2, htxt, hfr, hq])
  rw [hc] at hlt HN hb
  rw [hf1] at HN
  rw [hq] at HN H2
  rw [hq]
  have HXS := Lib.hid hxs
  have HF2 := Lib.hid hf2
  have HTX := Lib.hid htxt
  have HFR := Lib.hid hfr
  clear hc hf1 hxs hf2 htxt hfr hq
  subst hb
  go_wp2_with fail
  refine Calls.mono HN.out ?_
  rintro e w3 ⟨rfl, h3⟩
  have a0 := h3.sat.cell (i := 0) rfl
  have ab := h3.sat.lt
  have af := h3.sat.free (i := 0)
  obtain ⟨Y, h4, back⟩ := h3.focus
  have h5 := (h4.asc.set (i := 0) (v := .int .i64 ((247 : Nat) : Int)))
  have h6 := back _ _ (show Sat W ((pts (b2 + 1) (opO (247 : Nat) q (.slice none 0 0) ⟨#[]⟩) * (pts b2 (.cells #[.int .i64 0, .int .i64 0, .slice none 0 0, .string ⟨#[]⟩] 33) * A)) * Y) _ from Sat.asc' h5)
  have H6 := Lib.hid h6
  clear h3 h4 h5 h6 back H2 HN
  go_upto_region 3 with fail
  generalize w3.setCell ⟨b2 + 1, 0, none⟩ (.int .i64 ((247 : Nat) : Int)) = W4 at *
  clear a0 ab af
  have a0 := H6.out.sat.cell (i := 0) rfl
  have ab := H6.out.sat.lt
  go_upto_block 0 with fail
  have hsz : sizesM 247 = [1, 4, 4, 4, 1] := by
    unfold sizesM
    repeat (first | rw [if_pos (by omega)] | rw [if_neg (by omega)])
  have htn : textN 247 xs = some (xs.getD 4 0) := by unfold textN; repeat (first | rw [if_pos (by omega)] | rw [if_neg (by omega)])
  have hx2 := HXS.out
  have hf2 := HF2.out
  have htx := HTX.out
  have hfr := HFR.out
  rw [hsz] at hx2 hf2
  rw [Fd.tail, htn] at htx hfr
  simp only at htx hfr
  have hxl : xs.length = 5 := by rw [← hx2, args_len]; rfl
  have HA := args_call [1, 4, 4, 4, 1] 5 rfl (by omega) (by simp; try omega) H6.out
  rw [hx2, hf2] at HA
  simp only [intsL, List.map_cons, List.map_nil] at HA
  have HAA := Lib.hid HA
  clear HA hx2 hf2 htn hsz H6 HXS HF2 HTX HFR
  go_wp2_with fail
  refine Calls.mono HAA.out ?_
  rintro e w5 ⟨rfl, va, h5⟩
  have HT := Lib.hid (text_any (xs.getD 4 0) h5)
  rw [htx, hfr] at HT
  obtain ⟨va1, vc, hva, hcell⟩ := h5.sat.r.row_val
  subst hva
  obtain ⟨ga, hga, v0⟩ := hcell 4 (.int .i64 (xs.getD 4 0)) (by simp [List.getD, hxl])
  subst hga
  have k2 := h5.sat.cell (i := 2) rfl
  have kb := h5.sat.lt
  rw [hxl] at k2
  have gb := World.block_lt_of_cell? w5 _ v0
  generalize xs.getD 4 0 = x0 at *
  have HXL := Lib.hid hxl
  clear h5 HAA hcell htx hfr hxl
  go_wp2_with fail
  refine Calls.mono HT.out ?_
  rintro e w6 ⟨rfl, h6⟩
  have k3 := h6.sat.cell (i := 3) rfl
  have kb := h6.sat.lt
  have kf := h6.sat.free (i := 3)
  obtain ⟨Y, h7, back⟩ := h6.focus
  have h8 := h7.asc.set (i := 3) (v := .string ⟨txt.toArray⟩)
  have HH := Lib.hid (back _ _ (Sat.asc' h8))
  clear h6 h7 h8 back k2 v0 gb
  go_upto_region 41 with fail
  clear k3 kb kf
  have H5 := HH
  (try go_upto_region 41 with fail)
  obtain ⟨va, hx⟩ : ∃ va, FdAt W (pts (b2 + 1) (opO (247 : Nat) q va ⟨txt.toArray⟩) * (rowI va xs * (pts b2 (.cells #[.int .i64 0, .int .i64 0, .slice none 0 0, .string ⟨#[]⟩] 33) * A))) b cf cap fr _ := ⟨_, H5.out⟩
  clear H5
  have HE := Lib.hid (hx.of_eq (show _ = pts (b2 + 1) (opO (247 : Nat) q _ ⟨txt.toArray⟩) * (pts b2 (.cells #[.int .i64 0, .int .i64 0, .slice none 0 0, .string ⟨#[]⟩] 33) * (rowI _ xs * A)) by ac_rfl))
  obtain ⟨va1, vc, hva, -⟩ := hx.sat.r.row_val
  subst hva
  obtain ⟨Y, h7, back⟩ := HE.out.focus
  have h8 := h7.asc
  have x0 := h8.cell (i := 0) rfl
  have x1 := h8.cell (i := 1) rfl
  have x2 := h8.cell (i := 2) rfl
  have x3 := h8.cell (i := 3) rfl
  have y0 := h8.r.asc.cell (i := 0) rfl
  have y1 := h8.r.asc.cell (i := 1) rfl
  have y2 := h8.r.asc.cell (i := 2) rfl
  have y3 := h8.r.asc.cell (i := 3) rfl
  have z0 := h8.r.asc.free (i := 0)
  have z1 := h8.r.asc.free (i := 1)
  have z2 := h8.r.asc.free (i := 2)
  have z3 := h8.r.asc.free (i := 3)
  have xb := h8.lt
  have yb := h8.r.asc.lt
  have h9 := (((((h8.of_eq (show _ = pts b2 (.cells #[.int .i64 0, .int .i64 0, .slice none 0 0, .string ⟨#[]⟩] 33) * ((rowI (.slice va1 xs.length vc) xs * A) * Y * pts (b2 + 1) (opO (247 : Nat) q (.slice va1 xs.length vc) ⟨txt.toArray⟩)) by ac_rfl)).set (i := 0) (v := .int .i64 ((247 : Nat) : Int))).set (i := 1) (v := .int .i64 (q : Int))).set (i := 2) (v := .slice va1 xs.length vc)).set (i := 3) (v := .string ⟨txt.toArray⟩))
  have HH := Lib.hid (back _ _ h9.r.l)
  have h10 := h9.cell (i := 0) rfl
  clear h7 back hx HE h8 h10
  have HRES := Lib.hid h9
  clear h9
  go_wp2
  (try simp only [Exit.inBlock, Exit.then])
  refine bodyPost_ret (v := .agg #[.int .i64 ((247 : Nat) : Int), .int .i64 (q : Int), .slice va1 xs.length vc, .string ⟨txt.toArray⟩]) (by unfold results; go_simp) rfl ?_
  rw [HCM.out]
  exact ⟨_, rfl, HH.out⟩
set_option maxRecDepth 100000 in
set_option maxHeartbeats 16000000 in
theorem op_248 {b cf cap : Nat} {f : Fd} (hb : f.next.1 = 248) (h : FdAt W A b cf cap f w) :
    Calls Try.prog 30 #[.pointer (some ⟨b, 0, none⟩)] w fun e w' => ∃ va, e = .returned (.agg #[.int .i64 f.cmd.1.code, .int .i64 f.cmd.1.at_, va, .string ⟨f.cmd.1.text.toArray⟩]) ∧ FdAt W (rowI va f.cmd.1.args * A) b cf cap f.cmd.2 w' := by
  have hat : ∃ s r, Sat W (pts b (.cells #[.chan (some cf), .int .i64 f.at_, .bool f.lost] 110) * (pts cf (chanO cap f.l true s r) * A)) w := h.2
  obtain ⟨s, r, hs⟩ := hat
  have c1 := hs.cell (i := 1) rfl
  have lb := hs.lt
  clear hs
  have h2 := (h.allocX (.cells #[.int .i64 0, .int .i64 0, .slice none 0 0, .string ⟨#[]⟩] 33)).allocX (opO 0 f.at_ (.slice none 0 0) ⟨#[]⟩)
  obtain ⟨b2, hb2⟩ : ∃ b2, w.heap.size = b2 := ⟨_, rfl⟩
  have lb2 := lb
  rw [hb2] at lb2
  rw [show (w.alloc (.cells #[.int .i64 0, .int .i64 0, .slice none 0 0, .string ⟨#[]⟩] 33)).heap.size = b2 + 1 by simp [hb2], hb2] at h2
  have H2 := Lib.hid h2
  have HN := Lib.hid (next_any h2)
  clear h h2
  go_enter Try.func30, Try.ntmps30
  go_upto_region 2 with fail
  generalize (w.alloc (.cells #[.int .i64 0, .int .i64 0, .slice none 0 0, .string ⟨#[]⟩] 33)).alloc (opO 0 f.at_ (.slice none 0 0) ⟨#[]⟩) = W2 at *
  clear c1 lb lb2 hb2
  have hlt := f.next_lt
  obtain ⟨c, hc⟩ : ∃ c, f.next.1 = c := ⟨_, rfl⟩
  obtain ⟨f1, hf1⟩ : ∃ f1, f.next.2 = f1 := ⟨_, rfl⟩
  obtain ⟨xs, hxs⟩ : ∃ xs, (f1.args (sizesM c) []).1 = xs := ⟨_, rfl⟩
  obtain ⟨f2, hf2⟩ : ∃ f2, (f1.args (sizesM c) []).2 = f2 := ⟨_, rfl⟩
  obtain ⟨txt, htxt⟩ : ∃ txt, (f2.tail c xs).1 = txt := ⟨_, rfl⟩
  obtain ⟨fr, hfr⟩ : ∃ fr, (f2.tail c xs).2 = fr := ⟨_, rfl⟩
  obtain ⟨q, hq⟩ : ∃ q, f.at_ = q := ⟨_, rfl⟩
  have HCM := Lib.hid (show f.cmd = (⟨c, q, xs, txt⟩, fr) by
    unfold Fd.cmd
    simp only [hc, hf1, hxs, hf2, htxt, hfr, hq])
  rw [hc] at hlt HN hb
  rw [hf1] at HN
  rw [hq] at HN H2
  rw [hq]
  have HXS := Lib.hid hxs
  have HF2 := Lib.hid hf2
  have HTX := Lib.hid htxt
  have HFR := Lib.hid hfr
  clear hc hf1 hxs hf2 htxt hfr hq
  subst hb
  go_wp2_with fail
  refine Calls.mono HN.out ?_
  rintro e w3 ⟨rfl, h3⟩
  have a0 := h3.sat.cell (i := 0) rfl
  have ab := h3.sat.lt
  have af := h3.sat.free (i := 0)
  obtain ⟨Y, h4, back⟩ := h3.focus
  have h5 := (h4.asc.set (i := 0) (v := .int .i64 ((248 : Nat) : Int)))
  have h6 := back _ _ (show Sat W ((pts (b2 + 1) (opO (248 : Nat) q (.slice none 0 0) ⟨#[]⟩) * (pts b2 (.cells #[.int .i64 0, .int .i64 0, .slice none 0 0, .string ⟨#[]⟩] 33) * A)) * Y) _ from Sat.asc' h5)
  have H6 := Lib.hid h6
  clear h3 h4 h5 h6 back H2 HN
  go_upto_region 3 with fail
  generalize w3.setCell ⟨b2 + 1, 0, none⟩ (.int .i64 ((248 : Nat) : Int)) = W4 at *
  clear a0 ab af
  have a0 := H6.out.sat.cell (i := 0) rfl
  have ab := H6.out.sat.lt
  go_upto_block 0 with fail
  have hsz : sizesM 248 = [4, 4, 4, 4, 4, 4, 2, 2] := by
    unfold sizesM
    repeat (first | rw [if_pos (by omega)] | rw [if_neg (by omega)])
  have htn : textN 248 xs = none := by unfold textN; repeat (first | rw [if_pos (by omega)] | rw [if_neg (by omega)])
  have hx2 := HXS.out
  have hf2 := HF2.out
  have htx := HTX.out
  have hfr := HFR.out
  rw [hsz] at hx2 hf2
  rw [Fd.tail, htn, if_neg (by omega)] at htx hfr
  simp only at htx hfr
  have HA := args_call [4, 4, 4, 4, 4, 4, 2, 2] 8 rfl (by omega) (by simp; try omega) H6.out
  rw [hx2, hf2] at HA
  simp only [intsL, List.map_cons, List.map_nil] at HA
  have HTX2 := Lib.hid htx
  have HFR2 := Lib.hid hfr
  have HAA := Lib.hid HA
  clear HA hx2 hf2 htn hsz htx hfr H6 HXS HF2 HTX HFR
  go_wp2_with fail
  refine Calls.mono HAA.out ?_
  rintro e w5 ⟨rfl, va, h5⟩
  have hx := h5
  rw [HFR2.out] at hx
  have H5 := Lib.hid (show FdAt W (pts (b2 + 1) (opO (248 : Nat) q va ⟨txt.toArray⟩) * (rowI va xs * (pts b2 (.cells #[.int .i64 0, .int .i64 0, .slice none 0 0, .string ⟨#[]⟩] 33) * A))) b cf cap fr w5 from by rw [← HTX2.out]; exact hx)
  clear h5 hx HAA
  (try go_upto_region 41 with fail)
  obtain ⟨va, hx⟩ : ∃ va, FdAt W (pts (b2 + 1) (opO (248 : Nat) q va ⟨txt.toArray⟩) * (rowI va xs * (pts b2 (.cells #[.int .i64 0, .int .i64 0, .slice none 0 0, .string ⟨#[]⟩] 33) * A))) b cf cap fr _ := ⟨_, H5.out⟩
  clear H5
  have HE := Lib.hid (hx.of_eq (show _ = pts (b2 + 1) (opO (248 : Nat) q _ ⟨txt.toArray⟩) * (pts b2 (.cells #[.int .i64 0, .int .i64 0, .slice none 0 0, .string ⟨#[]⟩] 33) * (rowI _ xs * A)) by ac_rfl))
  obtain ⟨va1, vc, hva, -⟩ := hx.sat.r.row_val
  subst hva
  obtain ⟨Y, h7, back⟩ := HE.out.focus
  have h8 := h7.asc
  have x0 := h8.cell (i := 0) rfl
  have x1 := h8.cell (i := 1) rfl
  have x2 := h8.cell (i := 2) rfl
  have x3 := h8.cell (i := 3) rfl
  have y0 := h8.r.asc.cell (i := 0) rfl
  have y1 := h8.r.asc.cell (i := 1) rfl
  have y2 := h8.r.asc.cell (i := 2) rfl
  have y3 := h8.r.asc.cell (i := 3) rfl
  have z0 := h8.r.asc.free (i := 0)
  have z1 := h8.r.asc.free (i := 1)
  have z2 := h8.r.asc.free (i := 2)
  have z3 := h8.r.asc.free (i := 3)
  have xb := h8.lt
  have yb := h8.r.asc.lt
  have h9 := (((((h8.of_eq (show _ = pts b2 (.cells #[.int .i64 0, .int .i64 0, .slice none 0 0, .string ⟨#[]⟩] 33) * ((rowI (.slice va1 xs.length vc) xs * A) * Y * pts (b2 + 1) (opO (248 : Nat) q (.slice va1 xs.length vc) ⟨txt.toArray⟩)) by ac_rfl)).set (i := 0) (v := .int .i64 ((248 : Nat) : Int))).set (i := 1) (v := .int .i64 (q : Int))).set (i := 2) (v := .slice va1 xs.length vc)).set (i := 3) (v := .string ⟨txt.toArray⟩))
  have HH := Lib.hid (back _ _ h9.r.l)
  have h10 := h9.cell (i := 0) rfl
  clear h7 back hx HE h8 h10
  have HRES := Lib.hid h9
  clear h9
  go_wp2
  (try simp only [Exit.inBlock, Exit.then])
  refine bodyPost_ret (v := .agg #[.int .i64 ((248 : Nat) : Int), .int .i64 (q : Int), .slice va1 xs.length vc, .string ⟨txt.toArray⟩]) (by unfold results; go_simp) rfl ?_
  rw [HCM.out]
  exact ⟨_, rfl, HH.out⟩
set_option maxRecDepth 100000 in
set_option maxHeartbeats 16000000 in
theorem op_249 {b cf cap : Nat} {f : Fd} (hb : f.next.1 = 249) (h : FdAt W A b cf cap f w) :
    Calls Try.prog 30 #[.pointer (some ⟨b, 0, none⟩)] w fun e w' => ∃ va, e = .returned (.agg #[.int .i64 f.cmd.1.code, .int .i64 f.cmd.1.at_, va, .string ⟨f.cmd.1.text.toArray⟩]) ∧ FdAt W (rowI va f.cmd.1.args * A) b cf cap f.cmd.2 w' := by
  have hat : ∃ s r, Sat W (pts b (.cells #[.chan (some cf), .int .i64 f.at_, .bool f.lost] 110) * (pts cf (chanO cap f.l true s r) * A)) w := h.2
  obtain ⟨s, r, hs⟩ := hat
  have c1 := hs.cell (i := 1) rfl
  have lb := hs.lt
  clear hs
  have h2 := (h.allocX (.cells #[.int .i64 0, .int .i64 0, .slice none 0 0, .string ⟨#[]⟩] 33)).allocX (opO 0 f.at_ (.slice none 0 0) ⟨#[]⟩)
  obtain ⟨b2, hb2⟩ : ∃ b2, w.heap.size = b2 := ⟨_, rfl⟩
  have lb2 := lb
  rw [hb2] at lb2
  rw [show (w.alloc (.cells #[.int .i64 0, .int .i64 0, .slice none 0 0, .string ⟨#[]⟩] 33)).heap.size = b2 + 1 by simp [hb2], hb2] at h2
  have H2 := Lib.hid h2
  have HN := Lib.hid (next_any h2)
  clear h h2
  go_enter Try.func30, Try.ntmps30
  go_upto_region 2 with fail
  generalize (w.alloc (.cells #[.int .i64 0, .int .i64 0, .slice none 0 0, .string ⟨#[]⟩] 33)).alloc (opO 0 f.at_ (.slice none 0 0) ⟨#[]⟩) = W2 at *
  clear c1 lb lb2 hb2
  have hlt := f.next_lt
  obtain ⟨c, hc⟩ : ∃ c, f.next.1 = c := ⟨_, rfl⟩
  obtain ⟨f1, hf1⟩ : ∃ f1, f.next.2 = f1 := ⟨_, rfl⟩
  obtain ⟨xs, hxs⟩ : ∃ xs, (f1.args (sizesM c) []).1 = xs := ⟨_, rfl⟩
  obtain ⟨f2, hf2⟩ : ∃ f2, (f1.args (sizesM c) []).2 = f2 := ⟨_, rfl⟩
  obtain ⟨txt, htxt⟩ : ∃ txt, (f2.tail c xs).1 = txt := ⟨_, rfl⟩
  obtain ⟨fr, hfr⟩ : ∃ fr, (f2.tail c xs).2 = fr := ⟨_, rfl⟩
  obtain ⟨q, hq⟩ : ∃ q, f.at_ = q := ⟨_, rfl⟩
  have HCM := Lib.hid (show f.cmd = (⟨c, q, xs, txt⟩, fr) by
    unfold Fd.cmd
    simp only [hc, hf1, hxs, hf2, htxt, hfr, hq])
  rw [hc] at hlt HN hb
  rw [hf1] at HN
  rw [hq] at HN H2
  rw [hq]
  have HXS := Lib.hid hxs
  have HF2 := Lib.hid hf2
  have HTX := Lib.hid htxt
  have HFR := Lib.hid hfr
  clear hc hf1 hxs hf2 htxt hfr hq
  subst hb
  go_wp2_with fail
  refine Calls.mono HN.out ?_
  rintro e w3 ⟨rfl, h3⟩
  have a0 := h3.sat.cell (i := 0) rfl
  have ab := h3.sat.lt
  have af := h3.sat.free (i := 0)
  obtain ⟨Y, h4, back⟩ := h3.focus
  have h5 := (h4.asc.set (i := 0) (v := .int .i64 ((249 : Nat) : Int)))
  have h6 := back _ _ (show Sat W ((pts (b2 + 1) (opO (249 : Nat) q (.slice none 0 0) ⟨#[]⟩) * (pts b2 (.cells #[.int .i64 0, .int .i64 0, .slice none 0 0, .string ⟨#[]⟩] 33) * A)) * Y) _ from Sat.asc' h5)
  have H6 := Lib.hid h6
  clear h3 h4 h5 h6 back H2 HN
  go_upto_region 3 with fail
  generalize w3.setCell ⟨b2 + 1, 0, none⟩ (.int .i64 ((249 : Nat) : Int)) = W4 at *
  clear a0 ab af
  have a0 := H6.out.sat.cell (i := 0) rfl
  have ab := H6.out.sat.lt
  go_upto_block 0 with fail
  have hsz : sizesM 249 = [4, 1] := by
    unfold sizesM
    repeat (first | rw [if_pos (by omega)] | rw [if_neg (by omega)])
  have htn : textN 249 xs = none := by unfold textN; repeat (first | rw [if_pos (by omega)] | rw [if_neg (by omega)])
  have hx2 := HXS.out
  have hf2 := HF2.out
  have htx := HTX.out
  have hfr := HFR.out
  rw [hsz] at hx2 hf2
  rw [Fd.tail, htn, if_neg (by omega)] at htx hfr
  simp only at htx hfr
  have HA := args_call [4, 1] 2 rfl (by omega) (by simp; try omega) H6.out
  rw [hx2, hf2] at HA
  simp only [intsL, List.map_cons, List.map_nil] at HA
  have HTX2 := Lib.hid htx
  have HFR2 := Lib.hid hfr
  have HAA := Lib.hid HA
  clear HA hx2 hf2 htn hsz htx hfr H6 HXS HF2 HTX HFR
  go_wp2_with fail
  refine Calls.mono HAA.out ?_
  rintro e w5 ⟨rfl, va, h5⟩
  have hx := h5
  rw [HFR2.out] at hx
  have H5 := Lib.hid (show FdAt W (pts (b2 + 1) (opO (249 : Nat) q va ⟨txt.toArray⟩) * (rowI va xs * (pts b2 (.cells #[.int .i64 0, .int .i64 0, .slice none 0 0, .string ⟨#[]⟩] 33) * A))) b cf cap fr w5 from by rw [← HTX2.out]; exact hx)
  clear h5 hx HAA
  (try go_upto_region 41 with fail)
  obtain ⟨va, hx⟩ : ∃ va, FdAt W (pts (b2 + 1) (opO (249 : Nat) q va ⟨txt.toArray⟩) * (rowI va xs * (pts b2 (.cells #[.int .i64 0, .int .i64 0, .slice none 0 0, .string ⟨#[]⟩] 33) * A))) b cf cap fr _ := ⟨_, H5.out⟩
  clear H5
  have HE := Lib.hid (hx.of_eq (show _ = pts (b2 + 1) (opO (249 : Nat) q _ ⟨txt.toArray⟩) * (pts b2 (.cells #[.int .i64 0, .int .i64 0, .slice none 0 0, .string ⟨#[]⟩] 33) * (rowI _ xs * A)) by ac_rfl))
  obtain ⟨va1, vc, hva, -⟩ := hx.sat.r.row_val
  subst hva
  obtain ⟨Y, h7, back⟩ := HE.out.focus
  have h8 := h7.asc
  have x0 := h8.cell (i := 0) rfl
  have x1 := h8.cell (i := 1) rfl
  have x2 := h8.cell (i := 2) rfl
  have x3 := h8.cell (i := 3) rfl
  have y0 := h8.r.asc.cell (i := 0) rfl
  have y1 := h8.r.asc.cell (i := 1) rfl
  have y2 := h8.r.asc.cell (i := 2) rfl
  have y3 := h8.r.asc.cell (i := 3) rfl
  have z0 := h8.r.asc.free (i := 0)
  have z1 := h8.r.asc.free (i := 1)
  have z2 := h8.r.asc.free (i := 2)
  have z3 := h8.r.asc.free (i := 3)
  have xb := h8.lt
  have yb := h8.r.asc.lt
  have h9 := (((((h8.of_eq (show _ = pts b2 (.cells #[.int .i64 0, .int .i64 0, .slice none 0 0, .string ⟨#[]⟩] 33) * ((rowI (.slice va1 xs.length vc) xs * A) * Y * pts (b2 + 1) (opO (249 : Nat) q (.slice va1 xs.length vc) ⟨txt.toArray⟩)) by ac_rfl)).set (i := 0) (v := .int .i64 ((249 : Nat) : Int))).set (i := 1) (v := .int .i64 (q : Int))).set (i := 2) (v := .slice va1 xs.length vc)).set (i := 3) (v := .string ⟨txt.toArray⟩))
  have HH := Lib.hid (back _ _ h9.r.l)
  have h10 := h9.cell (i := 0) rfl
  clear h7 back hx HE h8 h10
  have HRES := Lib.hid h9
  clear h9
  go_wp2
  (try simp only [Exit.inBlock, Exit.then])
  refine bodyPost_ret (v := .agg #[.int .i64 ((249 : Nat) : Int), .int .i64 (q : Int), .slice va1 xs.length vc, .string ⟨txt.toArray⟩]) (by unfold results; go_simp) rfl ?_
  rw [HCM.out]
  exact ⟨_, rfl, HH.out⟩
set_option maxRecDepth 100000 in
set_option maxHeartbeats 16000000 in
theorem op_250 {b cf cap : Nat} {f : Fd} (hb : 250 ≤ f.next.1) (h : FdAt W A b cf cap f w) :
    Calls Try.prog 30 #[.pointer (some ⟨b, 0, none⟩)] w fun e w' => ∃ va, e = .returned (.agg #[.int .i64 f.cmd.1.code, .int .i64 f.cmd.1.at_, va, .string ⟨f.cmd.1.text.toArray⟩]) ∧ FdAt W (rowI va f.cmd.1.args * A) b cf cap f.cmd.2 w' := by
  have hat : ∃ s r, Sat W (pts b (.cells #[.chan (some cf), .int .i64 f.at_, .bool f.lost] 110) * (pts cf (chanO cap f.l true s r) * A)) w := h.2
  obtain ⟨s, r, hs⟩ := hat
  have c1 := hs.cell (i := 1) rfl
  have lb := hs.lt
  clear hs
  have h2 := (h.allocX (.cells #[.int .i64 0, .int .i64 0, .slice none 0 0, .string ⟨#[]⟩] 33)).allocX (opO 0 f.at_ (.slice none 0 0) ⟨#[]⟩)
  obtain ⟨b2, hb2⟩ : ∃ b2, w.heap.size = b2 := ⟨_, rfl⟩
  have lb2 := lb
  rw [hb2] at lb2
  rw [show (w.alloc (.cells #[.int .i64 0, .int .i64 0, .slice none 0 0, .string ⟨#[]⟩] 33)).heap.size = b2 + 1 by simp [hb2], hb2] at h2
  have H2 := Lib.hid h2
  have HN := Lib.hid (next_any h2)
  clear h h2
  go_enter Try.func30, Try.ntmps30
  go_upto_region 2 with fail
  generalize (w.alloc (.cells #[.int .i64 0, .int .i64 0, .slice none 0 0, .string ⟨#[]⟩] 33)).alloc (opO 0 f.at_ (.slice none 0 0) ⟨#[]⟩) = W2 at *
  clear c1 lb lb2 hb2
  have hlt := f.next_lt
  obtain ⟨c, hc⟩ : ∃ c, f.next.1 = c := ⟨_, rfl⟩
  obtain ⟨f1, hf1⟩ : ∃ f1, f.next.2 = f1 := ⟨_, rfl⟩
  obtain ⟨xs, hxs⟩ : ∃ xs, (f1.args (sizesM c) []).1 = xs := ⟨_, rfl⟩
  obtain ⟨f2, hf2⟩ : ∃ f2, (f1.args (sizesM c) []).2 = f2 := ⟨_, rfl⟩
  obtain ⟨txt, htxt⟩ : ∃ txt, (f2.tail c xs).1 = txt := ⟨_, rfl⟩
  obtain ⟨fr, hfr⟩ : ∃ fr, (f2.tail c xs).2 = fr := ⟨_, rfl⟩
  obtain ⟨q, hq⟩ : ∃ q, f.at_ = q := ⟨_, rfl⟩
  have HCM := Lib.hid (show f.cmd = (⟨c, q, xs, txt⟩, fr) by
    unfold Fd.cmd
    simp only [hc, hf1, hxs, hf2, htxt, hfr, hq])
  rw [hc] at hlt HN hb
  rw [hf1] at HN
  rw [hq] at HN H2
  rw [hq]
  have HXS := Lib.hid hxs
  have HF2 := Lib.hid hf2
  have HTX := Lib.hid htxt
  have HFR := Lib.hid hfr
  clear hc hf1 hxs hf2 htxt hfr hq
  go_wp2_with fail
  refine Calls.mono HN.out ?_
  rintro e w3 ⟨rfl, h3⟩
  have a0 := h3.sat.cell (i := 0) rfl
  have ab := h3.sat.lt
  have af := h3.sat.free (i := 0)
  obtain ⟨Y, h4, back⟩ := h3.focus
  have h5 := (h4.asc.set (i := 0) (v := .int .i64 (c : Int)))
  have h6 := back _ _ (show Sat W ((pts (b2 + 1) (opO c q (.slice none 0 0) ⟨#[]⟩) * (pts b2 (.cells #[.int .i64 0, .int .i64 0, .slice none 0 0, .string ⟨#[]⟩] 33) * A)) * Y) _ from Sat.asc' h5)
  have H6 := Lib.hid h6
  clear h3 h4 h5 h6 back H2 HN
  go_upto_region 3 with fail
  generalize w3.setCell ⟨b2 + 1, 0, none⟩ (.int .i64 (c : Int)) = W4 at *
  clear a0 ab af
  have a0 := H6.out.sat.cell (i := 0) rfl
  have ab := H6.out.sat.lt
  go_upto_block 0 with fail
  have g128 : (128 : Int) ≤ (c : Int) := by omega
  have g133 : (133 : Int) ≤ (c : Int) := by omega
  have g143 : (143 : Int) ≤ (c : Int) := by omega
  have g148 : (148 : Int) ≤ (c : Int) := by omega
  have g153 : (153 : Int) ≤ (c : Int) := by omega
  have g157 : (157 : Int) ≤ (c : Int) := by omega
  have g162 : (162 : Int) ≤ (c : Int) := by omega
  have g167 : (167 : Int) ≤ (c : Int) := by omega
  have g235 : (235 : Int) ≤ (c : Int) := by omega
  have g239 : (239 : Int) ≤ (c : Int) := by omega
  have g243 : (243 : Int) ≤ (c : Int) := by omega
  have l131 : ¬ (c : Int) ≤ (131 : Int) := by omega
  have l136 : ¬ (c : Int) ≤ (136 : Int) := by omega
  have l146 : ¬ (c : Int) ≤ (146 : Int) := by omega
  have l151 : ¬ (c : Int) ≤ (151 : Int) := by omega
  have l156 : ¬ (c : Int) ≤ (156 : Int) := by omega
  have l160 : ¬ (c : Int) ≤ (160 : Int) := by omega
  have l165 : ¬ (c : Int) ≤ (165 : Int) := by omega
  have l170 : ¬ (c : Int) ≤ (170 : Int) := by omega
  have l238 : ¬ (c : Int) ≤ (238 : Int) := by omega
  have l242 : ¬ (c : Int) ≤ (242 : Int) := by omega
  have l246 : ¬ (c : Int) ≤ (246 : Int) := by omega
  have e132 : ((c : Int) == 132) = false := by rw [beq_eq_false_iff_ne]; omega
  have e137 : ((c : Int) == 137) = false := by rw [beq_eq_false_iff_ne]; omega
  have e139 : ((c : Int) == 139) = false := by rw [beq_eq_false_iff_ne]; omega
  have e247 : ((c : Int) == 247) = false := by rw [beq_eq_false_iff_ne]; omega
  have e248 : ((c : Int) == 248) = false := by rw [beq_eq_false_iff_ne]; omega
  have e249 : ((c : Int) == 249) = false := by rw [beq_eq_false_iff_ne]; omega
  have t249 : (249 : Int) < (c : Int) := by omega
  have hsz : sizesM c = [] := by
    unfold sizesM
    repeat (first | rw [if_pos (by omega)] | rw [if_neg (by omega)])
  have htn : textN c xs = none := by unfold textN; repeat (first | rw [if_pos (by omega)] | rw [if_neg (by omega)])
  have hx2 := HXS.out
  have hf2 := HF2.out
  have htx := HTX.out
  have hfr := HFR.out
  rw [hsz] at hx2 hf2
  rw [Fd.tail, htn, if_pos (by omega)] at htx hfr
  simp only at htx hfr
  simp only [Fd.args] at hx2 hf2
  have h5 := H6.out.nilI.of_eq (show _ = pts (b2 + 1) (opO c q (.slice none 0 0) ⟨#[]⟩) * (rowI (.slice none 0 0) [] * (pts b2 (.cells #[.int .i64 0, .int .i64 0, .slice none 0 0, .string ⟨#[]⟩] 33) * A)) by ac_rfl)
  obtain ⟨hle, s5, r5, h7⟩ := h5
  have k2 := h7.cell (i := 2) rfl
  have kb := h7.lt
  have kf := h7.free (i := 2)
  have HH := Lib.hid (h7.set (i := 2) (v := .bool true))
  have hfile : FdAt W (pts (b2 + 1) (opO c q (.slice none 0 0) ⟨txt.toArray⟩) * (rowI (.slice none 0 0) xs * (pts b2 (.cells #[.int .i64 0, .int .i64 0, .slice none 0 0, .string ⟨#[]⟩] 33) * A))) b cf cap fr (W4.setCell ⟨b, 2, none⟩ (.bool true)) := by
    rw [← htx, ← hx2, ← hfr, ← hf2]
    exact ⟨hle, s5, r5, HH.out⟩
  have H5 := Lib.hid hfile
  clear htn hsz htx hfr hx2 hf2 H6 HXS HF2 HTX HFR h7 hfile HH
  go_upto_region 41 with fail
  clear k2 kb kf
  (try go_upto_region 41 with fail)
  obtain ⟨va, hx⟩ : ∃ va, FdAt W (pts (b2 + 1) (opO (c : Nat) q va ⟨txt.toArray⟩) * (rowI va xs * (pts b2 (.cells #[.int .i64 0, .int .i64 0, .slice none 0 0, .string ⟨#[]⟩] 33) * A))) b cf cap fr _ := ⟨_, H5.out⟩
  clear H5
  have HE := Lib.hid (hx.of_eq (show _ = pts (b2 + 1) (opO (c : Nat) q _ ⟨txt.toArray⟩) * (pts b2 (.cells #[.int .i64 0, .int .i64 0, .slice none 0 0, .string ⟨#[]⟩] 33) * (rowI _ xs * A)) by ac_rfl))
  obtain ⟨va1, vc, hva, -⟩ := hx.sat.r.row_val
  subst hva
  obtain ⟨Y, h7, back⟩ := HE.out.focus
  have h8 := h7.asc
  have x0 := h8.cell (i := 0) rfl
  have x1 := h8.cell (i := 1) rfl
  have x2 := h8.cell (i := 2) rfl
  have x3 := h8.cell (i := 3) rfl
  have y0 := h8.r.asc.cell (i := 0) rfl
  have y1 := h8.r.asc.cell (i := 1) rfl
  have y2 := h8.r.asc.cell (i := 2) rfl
  have y3 := h8.r.asc.cell (i := 3) rfl
  have z0 := h8.r.asc.free (i := 0)
  have z1 := h8.r.asc.free (i := 1)
  have z2 := h8.r.asc.free (i := 2)
  have z3 := h8.r.asc.free (i := 3)
  have xb := h8.lt
  have yb := h8.r.asc.lt
  have h9 := (((((h8.of_eq (show _ = pts b2 (.cells #[.int .i64 0, .int .i64 0, .slice none 0 0, .string ⟨#[]⟩] 33) * ((rowI (.slice va1 xs.length vc) xs * A) * Y * pts (b2 + 1) (opO (c : Nat) q (.slice va1 xs.length vc) ⟨txt.toArray⟩)) by ac_rfl)).set (i := 0) (v := .int .i64 ((c : Nat) : Int))).set (i := 1) (v := .int .i64 (q : Int))).set (i := 2) (v := .slice va1 xs.length vc)).set (i := 3) (v := .string ⟨txt.toArray⟩))
  have HH := Lib.hid (back _ _ h9.r.l)
  have h10 := h9.cell (i := 0) rfl
  clear h7 back hx HE h8 h10
  have HRES := Lib.hid h9
  clear h9
  go_wp2
  (try simp only [Exit.inBlock, Exit.then])
  refine bodyPost_ret (v := .agg #[.int .i64 ((c : Nat) : Int), .int .i64 (q : Int), .slice va1 xs.length vc, .string ⟨txt.toArray⟩]) (by unfold results; go_simp) rfl ?_
  rw [HCM.out]
  exact ⟨_, rfl, HH.out⟩

end Go.Proofs.Ytjeinldhbajknaa

/-
  A command out of a feed: all branches together. Conditions: those that each theorem names.
-/
namespace Go.Proofs.Ytjeinldhbajknaa
open Go.RowKit Go.Sp Go.Conc
variable {W w w' : World} {A : HProp}

theorem op_any {b cf cap : Nat} {f : Fd} (h : FdAt W A b cf cap f w) :
    Calls Try.prog 30 #[.pointer (some ⟨b, 0, none⟩)] w fun e w' => ∃ va, e = .returned (.agg #[.int .i64 f.cmd.1.code, .int .i64 f.cmd.1.at_, va, .string ⟨f.cmd.1.text.toArray⟩]) ∧ FdAt W (rowI va f.cmd.1.args * A) b cf cap f.cmd.2 w' := by
  have hlt := f.next_lt
  have hcs : f.next.1 ≤ 127 ∨ (128 ≤ f.next.1 ∧ f.next.1 ≤ 131) ∨ f.next.1 = 132 ∨ (133 ≤ f.next.1 ∧ f.next.1 ≤ 136) ∨ f.next.1 = 137 ∨ f.next.1 = 138 ∨ f.next.1 = 139 ∨ (140 ≤ f.next.1 ∧ f.next.1 ≤ 142) ∨ (143 ≤ f.next.1 ∧ f.next.1 ≤ 146) ∨ f.next.1 = 147 ∨ (148 ≤ f.next.1 ∧ f.next.1 ≤ 151) ∨ f.next.1 = 152 ∨ (153 ≤ f.next.1 ∧ f.next.1 ≤ 156) ∨ (157 ≤ f.next.1 ∧ f.next.1 ≤ 160) ∨ f.next.1 = 161 ∨ (162 ≤ f.next.1 ∧ f.next.1 ≤ 165) ∨ f.next.1 = 166 ∨ (167 ≤ f.next.1 ∧ f.next.1 ≤ 170) ∨ (171 ≤ f.next.1 ∧ f.next.1 ≤ 234) ∨ (235 ≤ f.next.1 ∧ f.next.1 ≤ 238) ∨ (239 ≤ f.next.1 ∧ f.next.1 ≤ 242) ∨ (243 ≤ f.next.1 ∧ f.next.1 ≤ 246) ∨ f.next.1 = 247 ∨ f.next.1 = 248 ∨ f.next.1 = 249 ∨ 250 ≤ f.next.1 := by omega
  rcases hcs with hb | hb | hb | hb | hb | hb | hb | hb | hb | hb | hb | hb | hb | hb | hb | hb | hb | hb | hb | hb | hb | hb | hb | hb | hb | hb
  · exact op_0 hb h
  · exact op_128 hb h
  · exact op_132 hb h
  · exact op_133 hb h
  · exact op_137 hb h
  · exact op_138 hb h
  · exact op_139 hb h
  · exact op_140 hb h
  · exact op_143 hb h
  · exact op_147 hb h
  · exact op_148 hb h
  · exact op_152 hb h
  · exact op_153 hb h
  · exact op_157 hb h
  · exact op_161 hb h
  · exact op_162 hb h
  · exact op_166 hb h
  · exact op_167 hb h
  · exact op_171 hb h
  · exact op_235 hb h
  · exact op_239 hb h
  · exact op_243 hb h
  · exact op_247 hb h
  · exact op_248 hb h
  · exact op_249 hb h
  · exact op_250 hb h

end Go.Proofs.Ytjeinldhbajknaa
