import Derived.Test.YtjeinldhbajknaaMA
import Derived.Deep.CutBlock
/-
  A command out of a feed. Conditions: those that each theorem names.
-/
namespace Go.Proofs.Ytjeinldhbajknaa
open Go.RowKit Go.Sp Go.Conc
variable {W w w' : World} {A : HProp}

theorem sgn1 (g : Fd) : 0 ≤ sgnV (1 : Int).natAbs (decide ((1 : Int) < 0)) (g.num (1 : Int).natAbs 0).1 ∧ sgnV (1 : Int).natAbs (decide ((1 : Int) < 0)) (g.num (1 : Int).natAbs 0).1 ≤ 255 := by
  have := g.next_lt
  simp [sgnV, Fd.num]
  omega
theorem args_ends (f : Fd) (z : Int) : (0 ≤ (f.args [z, 4, 4, 4, 1, 1] []).1.getD 4 0 ∧ (f.args [z, 4, 4, 4, 1, 1] []).1.getD 4 0 ≤ 255) ∧ (0 ≤ (f.args [z, 4, 4, 4, 1, 1] []).1.getD 5 0 ∧ (f.args [z, 4, 4, 4, 1, 1] []).1.getD 5 0 ≤ 255) := by
  simp only [Fd.args, List.nil_append, List.cons_append, List.getD_cons_succ, List.getD_cons_zero]
  exact ⟨sgn1 _, sgn1 _⟩
theorem FdAt.allocX {b c cap : Nat} {f : Fd} (h : FdAt W A b c cap f w) (o : Obj) : FdAt W (pts w.heap.size o * A) b c cap f (w.alloc o) := by
  obtain ⟨Y, h1, back⟩ := h.focus
  exact back _ _ ((h1.alloc o).asc')
theorem FdAt.nilI {b c cap : Nat} {f : Fd} (h : FdAt W A b c cap f w) : FdAt W (rowI (.slice none 0 0) [] * A) b c cap f w := by
  obtain ⟨Y, h1, back⟩ := h.focus
  exact back _ _ ((Sat.row_nil h1).of_eq (by unfold rowI intsL; simp only [List.length_nil, List.map_nil]; ac_rfl))
theorem FdAt.less {B : HProp} {b c cap : Nat} {f : Fd} (h : FdAt W (B * A) b c cap f w) : FdAt W A b c cap f w := ⟨h.1, h.2.less⟩

theorem args_call {b cf cap bo : Nat} {f : Fd} {code at_ : Int} {t : ByteArray} (zs : List Int) (n : Nat) (hn : zs.length = n) (h0 : n ≤ 50) (hz : ∀ z ∈ zs, (1 ≤ z ∧ z ≤ 4) ∨ (-4 ≤ z ∧ z ≤ -1))
    (h : FdAt W (pts bo (opO code at_ (.slice none 0 0) t) * A) b cf cap f w) :
    Calls Try.prog 48 #[.pointer (some ⟨b, 0, none⟩), .pointer (some ⟨bo, 0, none⟩), .slice (some ⟨w.heap.size, 0, none⟩) n n] (w.alloc (.cells (intsL zs).toArray 3)) fun e w' => e = .returned (.tuple #[]) ∧
      ∃ va', FdAt W (pts bo (opO code at_ va' t) * (rowI va' (f.args zs []).1 * A)) b cf cap (f.args zs []).2 w' := by
  subst hn
  have h1 := ((h.allocX (.cells (intsL zs).toArray 3)).nilI).of_eq (show _ = pts bo (opO code at_ (.slice none 0 0) t) * (rowI (.slice none 0 0) [] * (pts w.heap.size (.cells (intsL zs).toArray 3) * A)) by ac_rfl)
  refine (args_any hz (by simp; omega) (fun w' hs => ⟨by simp, by simp [maxLen]; omega, _, _, rfl, fun j u hu => ⟨_, _, rfl, by rw [Nat.zero_add]; exact hs.cell (by simpa using hu)⟩⟩) h1).mono fun _ _ ⟨he, va', hs⟩ => ⟨he, va', ?_⟩
  exact (hs.of_eq (show _ = pts w.heap.size (.cells (intsL zs).toArray 3) * (pts bo (opO code at_ va' t) * (rowI va' (f.args zs []).1 * A)) by ac_rfl)).less

set_option maxRecDepth 100000 in
set_option maxHeartbeats 16000000 in
theorem op_0 {b cf cap : Nat} {f : Fd} (hb : f.next.1 ≤ 127) (h : FdAt W A b cf cap f w) :
    Calls Try.prog 30 #[.pointer (some ⟨b, 0, none⟩)] w fun e w' => ∃ va, e = .returned (.agg #[.int .i64 f.cmd.1.code, .int .i64 f.cmd.1.at_, va, .string ⟨f.cmd.1.text.toArray⟩]) ∧ FdAt W (rowI va f.cmd.1.args * A) b cf cap f.cmd.2 w' := by
  have hat : ∃ s r, Sat W (pts b (.cells #[.chan (some cf), .int .i64 f.at_, .bool f.lost] 110) * (pts cf (chanO cap f.l true s r) * A)) w := h.2
  obtain ⟨s, r, hs⟩ := hat
  have c1 := hs.cell (i := 1) rfl
  have lb := hs.lt
  clear hs
  have h2 := (h.allocX (.cells #[.int .i64 0, .int .i64 0, .slice none 0 0, .string ⟨#[]⟩] 33)).allocX (opO 0 f.at_ (.slice none 0 0) ⟨#[]⟩)
  obtain ⟨b2, hb2⟩ : ∃ b2, w.heap.size = b2 := ⟨_, rfl⟩
  have lb2 := lb
  rw [hb2] at lb2
  rw [show (w.alloc (.cells #[.int .i64 0, .int .i64 0, .slice none 0 0, .string ⟨#[]⟩] 33)).heap.size = b2 + 1 by simp [hb2], hb2] at h2
  have H2 := Lib.hid h2
  have HN := Lib.hid (next_any h2)
  clear h h2
  go_enter Try.func30, Try.ntmps30
  go_upto_region 2 with fail
  generalize (w.alloc (.cells #[.int .i64 0, .int .i64 0, .slice none 0 0, .string ⟨#[]⟩] 33)).alloc (opO 0 f.at_ (.slice none 0 0) ⟨#[]⟩) = W2 at *
  clear c1 lb lb2 hb2
  have hlt := f.next_lt
  obtain ⟨c, hc⟩ : ∃ c, f.next.1 = c := ⟨_, rfl⟩
  obtain ⟨f1, hf1⟩ : ∃ f1, f.next.2 = f1 := ⟨_, rfl⟩
  obtain ⟨xs, hxs⟩ : ∃ xs, (f1.args (sizesM c) []).1 = xs := ⟨_, rfl⟩
  obtain ⟨f2, hf2⟩ : ∃ f2, (f1.args (sizesM c) []).2 = f2 := ⟨_, rfl⟩
  obtain ⟨txt, htxt⟩ : ∃ txt, (f2.tail c xs).1 = txt := ⟨_, rfl⟩
  obtain ⟨fr, hfr⟩ : ∃ fr, (f2.tail c xs).2 = fr := ⟨_, rfl⟩
  obtain ⟨q, hq⟩ : ∃ q, f.at_ = q := ⟨_, rfl⟩
  have HCM := Lib.hid (show f.cmd = (⟨c, q, xs, txt⟩, fr) by
    unfold Fd.cmd
    simp only [hc, hf1, hxs, hf2, htxt, hfr, hq])
  rw [hc] at hlt HN hb
  rw [hf1] at HN
  rw [hq] at HN H2
  rw [hq]
  have HXS := Lib.hid hxs
  have HF2 := Lib.hid hf2
  have HTX := Lib.hid htxt
  have HFR := Lib.hid hfr
  clear hc hf1 hxs hf2 htxt hfr hq
  go_wp2_with fail
  refine Calls.mono HN.out ?_
  rintro e w3 ⟨rfl, h3⟩
  have a0 := h3.sat.cell (i := 0) rfl
  have ab := h3.sat.lt
  have af := h3.sat.free (i := 0)
  obtain ⟨Y, h4, back⟩ := h3.focus
  have h5 := (h4.asc.set (i := 0) (v := .int .i64 (c : Int)))
  have h6 := back _ _ (show Sat W ((pts (b2 + 1) (opO c q (.slice none 0 0) ⟨#[]⟩) * (pts b2 (.cells #[.int .i64 0, .int .i64 0, .slice none 0 0, .string ⟨#[]⟩] 33) * A)) * Y) _ from Sat.asc' h5)
  have H6 := Lib.hid h6
  clear h3 h4 h5 h6 back H2 HN
  go_upto_region 3 with fail
  generalize w3.setCell ⟨b2 + 1, 0, none⟩ (.int .i64 (c : Int)) = W4 at *
  clear a0 ab af
  have a0 := H6.out.sat.cell (i := 0) rfl
  have ab := H6.out.sat.lt
  go_upto_block 0 with fail
  have g128 : ¬ (128 : Int) ≤ (c : Int) := by omega
  have g133 : ¬ (133 : Int) ≤ (c : Int) := by omega
  have g143 : ¬ (143 : Int) ≤ (c : Int) := by omega
  have g148 : ¬ (148 : Int) ≤ (c : Int) := by omega
  have g153 : ¬ (153 : Int) ≤ (c : Int) := by omega
  have g157 : ¬ (157 : Int) ≤ (c : Int) := by omega
  have g162 : ¬ (162 : Int) ≤ (c : Int) := by omega
  have g167 : ¬ (167 : Int) ≤ (c : Int) := by omega
  have g235 : ¬ (235 : Int) ≤ (c : Int) := by omega
  have g239 : ¬ (239 : Int) ≤ (c : Int) := by omega
  have g243 : ¬ (243 : Int) ≤ (c : Int) := by omega
  have l131 : (c : Int) ≤ (131 : Int) := by omega
  have l136 : (c : Int) ≤ (136 : Int) := by omega
  have l146 : (c : Int) ≤ (146 : Int) := by omega
  have l151 : (c : Int) ≤ (151 : Int) := by omega
  have l156 : (c : Int) ≤ (156 : Int) := by omega
  have l160 : (c : Int) ≤ (160 : Int) := by omega
  have l165 : (c : Int) ≤ (165 : Int) := by omega
  have l170 : (c : Int) ≤ (170 : Int) := by omega
  have l238 : (c : Int) ≤ (238 : Int) := by omega
  have l242 : (c : Int) ≤ (242 : Int) := by omega
  have l246 : (c : Int) ≤ (246 : Int) := by omega
  have e132 : ((c : Int) == 132) = false := by rw [beq_eq_false_iff_ne]; omega
  have e137 : ((c : Int) == 137) = false := by rw [beq_eq_false_iff_ne]; omega
  have e139 : ((c : Int) == 139) = false := by rw [beq_eq_false_iff_ne]; omega
  have e247 : ((c : Int) == 247) = false := by rw [beq_eq_false_iff_ne]; omega
  have e248 : ((c : Int) == 248) = false := by rw [beq_eq_false_iff_ne]; omega
  have e249 : ((c : Int) == 249) = false := by rw [beq_eq_false_iff_ne]; omega
  have t249 : ¬ (249 : Int) < (c : Int) := by omega
  have hsz : sizesM c = [] := by
    unfold sizesM
    repeat (first | rw [if_pos (by omega)] | rw [if_neg (by omega)])
  have htn : textN c xs = none := by unfold textN; repeat (first | rw [if_pos (by omega)] | rw [if_neg (by omega)])
  have hx2 := HXS.out
  have hf2 := HF2.out
  have htx := HTX.out
  have hfr := HFR.out
  rw [hsz] at hx2 hf2
  rw [Fd.tail, htn, if_neg (by omega)] at htx hfr
  simp only at htx hfr
  simp only [Fd.args] at hx2 hf2
  have H5 := Lib.hid (show FdAt W (pts (b2 + 1) (opO (c : Nat) q (.slice none 0 0) ⟨txt.toArray⟩) * (rowI (.slice none 0 0) xs * (pts b2 (.cells #[.int .i64 0, .int .i64 0, .slice none 0 0, .string ⟨#[]⟩] 33) * A))) b cf cap fr _ from by
    rw [← htx, ← hx2, ← hfr, ← hf2]
    exact H6.out.nilI.of_eq (show _ = pts (b2 + 1) (opO c q (.slice none 0 0) ⟨#[]⟩) * (rowI (.slice none 0 0) [] * (pts b2 (.cells #[.int .i64 0, .int .i64 0, .slice none 0 0, .string ⟨#[]⟩] 33) * A)) by ac_rfl))
  clear htn hsz htx hfr hx2 hf2 H6 HXS HF2 HTX HFR
  (try go_upto_region 41 with fail)
  obtain ⟨va, hx⟩ : ∃ va, FdAt W (pts (b2 + 1) (opO (c : Nat) q va ⟨txt.toArray⟩) * (rowI va xs * (pts b2 (.cells #[.int .i64 0, .int .i64 0, .slice none 0 0, .string ⟨#[]⟩] 33) * A))) b cf cap fr _ := ⟨_, H5.out⟩
  clear H5
  have HE := Lib.hid (hx.of_eq (show _ = pts (b2 + 1) (opO (c : Nat) q _ ⟨txt.toArray⟩) * (pts b2 (.cells #[.int .i64 0, .int .i64 0, .slice none 0 0, .string ⟨#[]⟩] 33) * (rowI _ xs * A)) by ac_rfl))
  obtain ⟨va1, vc, hva, -⟩ := hx.sat.r.row_val
  subst hva
  obtain ⟨Y, h7, back⟩ := HE.out.focus
  have h8 := h7.asc
  have x0 := h8.cell (i := 0) rfl
  have x1 := h8.cell (i := 1) rfl
  have x2 := h8.cell (i := 2) rfl
  have x3 := h8.cell (i := 3) rfl
  have y0 := h8.r.asc.cell (i := 0) rfl
  have y1 := h8.r.asc.cell (i := 1) rfl
  have y2 := h8.r.asc.cell (i := 2) rfl
  have y3 := h8.r.asc.cell (i := 3) rfl
  have z0 := h8.r.asc.free (i := 0)
  have z1 := h8.r.asc.free (i := 1)
  have z2 := h8.r.asc.free (i := 2)
  have z3 := h8.r.asc.free (i := 3)
  have xb := h8.lt
  have yb := h8.r.asc.lt
  have h9 := (((((h8.of_eq (show _ = pts b2 (.cells #[.int .i64 0, .int .i64 0, .slice none 0 0, .string ⟨#[]⟩] 33) * ((rowI (.slice va1 xs.length vc) xs * A) * Y * pts (b2 + 1) (opO (c : Nat) q (.slice va1 xs.length vc) ⟨txt.toArray⟩)) by ac_rfl)).set (i := 0) (v := .int .i64 ((c : Nat) : Int))).set (i := 1) (v := .int .i64 (q : Int))).set (i := 2) (v := .slice va1 xs.length vc)).set (i := 3) (v := .string ⟨txt.toArray⟩))
  have HH := Lib.hid (back _ _ h9.r.l)
  have h10 := h9.cell (i := 0) rfl
  clear h7 back hx HE h8 h10
  have HRES := Lib.hid h9
  clear h9
  go_wp2
  (try simp only [Exit.inBlock, Exit.then])
  refine bodyPost_ret (v := .agg #[.int .i64 ((c : Nat) : Int), .int .i64 (q : Int), .slice va1 xs.length vc, .string ⟨txt.toArray⟩]) (by unfold results; go_simp) rfl ?_
  rw [HCM.out]
  exact ⟨_, rfl, HH.out⟩
set_option maxRecDepth 100000 in
set_option maxHeartbeats 16000000 in
theorem op_128 {b cf cap : Nat} {f : Fd} (hb : 128 ≤ f.next.1 ∧ f.next.1 ≤ 131) (h : FdAt W A b cf cap f w) :
    Calls Try.prog 30 #[.pointer (some ⟨b, 0, none⟩)] w fun e w' => ∃ va, e = .returned (.agg #[.int .i64 f.cmd.1.code, .int .i64 f.cmd.1.at_, va, .string ⟨f.cmd.1.text.toArray⟩]) ∧ FdAt W (rowI va f.cmd.1.args * A) b cf cap f.cmd.2 w' := by
  have hat : ∃ s r, Sat W (pts b (.cells #[.chan (some cf), .int .i64 f.at_, .bool f.lost] 110) * (pts cf (chanO cap f.l true s r) * A)) w := h.2
  obtain ⟨s, r, hs⟩ := hat
  have c1 := hs.cell (i := 1) rfl
  have lb := hs.lt
  clear hs
  have h2 := (h.allocX (.cells #[.int .i64 0, .int .i64 0, .slice none 0 0, .string ⟨#[]⟩] 33)).allocX (opO 0 f.at_ (.slice none 0 0) ⟨#[]⟩)
  obtain ⟨b2, hb2⟩ : ∃ b2, w.heap.size = b2 := ⟨_, rfl⟩
  have lb2 := lb
  rw [hb2] at lb2
  rw [show (w.alloc (.cells #[.int .i64 0, .int .i64 0, .slice none 0 0, .string ⟨#[]⟩] 33)).heap.size = b2 + 1 by simp [hb2], hb2] at h2
  have H2 := Lib.hid h2
  have HN := Lib.hid (next_any h2)
  clear h h2
  go_enter Try.func30, Try.ntmps30
  go_upto_region 2 with fail
  generalize (w.alloc (.cells #[.int .i64 0, .int .i64 0, .slice none 0 0, .string ⟨#[]⟩] 33)).alloc (opO 0 f.at_ (.slice none 0 0) ⟨#[]⟩) = W2 at *
  clear c1 lb lb2 hb2
  have hlt := f.next_lt
  obtain ⟨c, hc⟩ : ∃ c, f.next.1 = c := ⟨_, rfl⟩
  obtain ⟨f1, hf1⟩ : ∃ f1, f.next.2 = f1 := ⟨_, rfl⟩
  obtain ⟨xs, hxs⟩ : ∃ xs, (f1.args (sizesM c) []).1 = xs := ⟨_, rfl⟩
  obtain ⟨f2, hf2⟩ : ∃ f2, (f1.args (sizesM c) []).2 = f2 := ⟨_, rfl⟩
  obtain ⟨txt, htxt⟩ : ∃ txt, (f2.tail c xs).1 = txt := ⟨_, rfl⟩
  obtain ⟨fr, hfr⟩ : ∃ fr, (f2.tail c xs).2 = fr := ⟨_, rfl⟩
  obtain ⟨q, hq⟩ : ∃ q, f.at_ = q := ⟨_, rfl⟩
  have HCM := Lib.hid (show f.cmd = (⟨c, q, xs, txt⟩, fr) by
    unfold Fd.cmd
    simp only [hc, hf1, hxs, hf2, htxt, hfr, hq])
  rw [hc] at hlt HN hb
  rw [hf1] at HN
  rw [hq] at HN H2
  rw [hq]
  have HXS := Lib.hid hxs
  have HF2 := Lib.hid hf2
  have HTX := Lib.hid htxt
  have HFR := Lib.hid hfr
  clear hc hf1 hxs hf2 htxt hfr hq
  go_wp2_with fail
  refine Calls.mono HN.out ?_
  rintro e w3 ⟨rfl, h3⟩
  have a0 := h3.sat.cell (i := 0) rfl
  have ab := h3.sat.lt
  have af := h3.sat.free (i := 0)
  obtain ⟨Y, h4, back⟩ := h3.focus
  have h5 := (h4.asc.set (i := 0) (v := .int .i64 (c : Int)))
  have h6 := back _ _ (show Sat W ((pts (b2 + 1) (opO c q (.slice none 0 0) ⟨#[]⟩) * (pts b2 (.cells #[.int .i64 0, .int .i64 0, .slice none 0 0, .string ⟨#[]⟩] 33) * A)) * Y) _ from Sat.asc' h5)
  have H6 := Lib.hid h6
  clear h3 h4 h5 h6 back H2 HN
  go_upto_region 3 with fail
  generalize w3.setCell ⟨b2 + 1, 0, none⟩ (.int .i64 (c : Int)) = W4 at *
  clear a0 ab af
  have a0 := H6.out.sat.cell (i := 0) rfl
  have ab := H6.out.sat.lt
  go_upto_block 0 with fail
  have g128 : (128 : Int) ≤ (c : Int) := by omega
  have g133 : ¬ (133 : Int) ≤ (c : Int) := by omega
  have g143 : ¬ (143 : Int) ≤ (c : Int) := by omega
  have g148 : ¬ (148 : Int) ≤ (c : Int) := by omega
  have g153 : ¬ (153 : Int) ≤ (c : Int) := by omega
  have g157 : ¬ (157 : Int) ≤ (c : Int) := by omega
  have g162 : ¬ (162 : Int) ≤ (c : Int) := by omega
  have g167 : ¬ (167 : Int) ≤ (c : Int) := by omega
  have g235 : ¬ (235 : Int) ≤ (c : Int) := by omega
  have g239 : ¬ (239 : Int) ≤ (c : Int) := by omega
  have g243 : ¬ (243 : Int) ≤ (c : Int) := by omega
  have l131 : (c : Int) ≤ (131 : Int) := by omega
  have l136 : (c : Int) ≤ (136 : Int) := by omega
  have l146 : (c : Int) ≤ (146 : Int) := by omega
  have l151 : (c : Int) ≤ (151 : Int) := by omega
  have l156 : (c : Int) ≤ (156 : Int) := by omega
  have l160 : (c : Int) ≤ (160 : Int) := by omega
  have l165 : (c : Int) ≤ (165 : Int) := by omega
  have l170 : (c : Int) ≤ (170 : Int) := by omega
  have l238 : (c : Int) ≤ (238 : Int) := by omega
  have l242 : (c : Int) ≤ (242 : Int) := by omega
  have l246 : (c : Int) ≤ (246 : Int) := by omega
  have e132 : ((c : Int) == 132) = false := by rw [beq_eq_false_iff_ne]; omega
  have e137 : ((c : Int) == 137) = false := by rw [beq_eq_false_iff_ne]; omega
  have e139 : ((c : Int) == 139) = false := by rw [beq_eq_false_iff_ne]; omega
  have e247 : ((c : Int) == 247) = false := by rw [beq_eq_false_iff_ne]; omega
  have e248 : ((c : Int) == 248) = false := by rw [beq_eq_false_iff_ne]; omega
  have e249 : ((c : Int) == 249) = false := by rw [beq_eq_false_iff_ne]; omega
  have t249 : ¬ (249 : Int) < (c : Int) := by omega
  have hsz : sizesM c = [(c : Int) - 127] := by
    unfold sizesM
    repeat (first | rw [if_pos (by omega)] | rw [if_neg (by omega)])
  have htn : textN c xs = none := by unfold textN; repeat (first | rw [if_pos (by omega)] | rw [if_neg (by omega)])
  have hx2 := HXS.out
  have hf2 := HF2.out
  have htx := HTX.out
  have hfr := HFR.out
  rw [hsz] at hx2 hf2
  rw [Fd.tail, htn, if_neg (by omega)] at htx hfr
  simp only at htx hfr
  have HA := args_call [(c : Int) - 127] 1 rfl (by omega) (by simp; try omega) H6.out
  rw [hx2, hf2] at HA
  simp only [intsL, List.map_cons, List.map_nil] at HA
  have HTX2 := Lib.hid htx
  have HFR2 := Lib.hid hfr
  have HAA := Lib.hid HA
  clear HA hx2 hf2 htn hsz htx hfr H6 HXS HF2 HTX HFR
  go_wp2_with fail
  refine Calls.mono HAA.out ?_
  rintro e w5 ⟨rfl, va, h5⟩
  have hx := h5
  rw [HFR2.out] at hx
  have H5 := Lib.hid (show FdAt W (pts (b2 + 1) (opO (c : Nat) q va ⟨txt.toArray⟩) * (rowI va xs * (pts b2 (.cells #[.int .i64 0, .int .i64 0, .slice none 0 0, .string ⟨#[]⟩] 33) * A))) b cf cap fr w5 from by rw [← HTX2.out]; exact hx)
  clear h5 hx HAA
  (try go_upto_region 41 with fail)
  obtain ⟨va, hx⟩ : ∃ va, FdAt W (pts (b2 + 1) (opO (c : Nat) q va ⟨txt.toArray⟩) * (rowI va xs * (pts b2 (.cells #[.int .i64 0, .int .i64 0, .slice none 0 0, .string ⟨#[]⟩] 33) * A))) b cf cap fr _ := ⟨_, H5.out⟩
  clear H5
  have HE := Lib.hid (hx.of_eq (show _ = pts (b2 + 1) (opO (c : Nat) q _ ⟨txt.toArray⟩) * (pts b2 (.cells #[.int .i64 0, .int .i64 0, .slice none 0 0, .string ⟨#[]⟩] 33) * (rowI _ xs * A)) by ac_rfl))
  obtain ⟨va1, vc, hva, -⟩ := hx.sat.r.row_val
  subst hva
  obtain ⟨Y, h7, back⟩ := HE.out.focus
  have h8 := h7.asc
  have x0 := h8.cell (i := 0) rfl
  have x1 := h8.cell (i := 1) rfl
  have x2 := h8.cell (i := 2) rfl
  have x3 := h8.cell (i := 3) rfl
  have y0 := h8.r.asc.cell (i := 0) rfl
  have y1 := h8.r.asc.cell (i := 1) rfl
  have y2 := h8.r.asc.cell (i := 2) rfl
  have y3 := h8.r.asc.cell (i := 3) rfl
  have z0 := h8.r.asc.free (i := 0)
  have z1 := h8.r.asc.free (i := 1)
  have z2 := h8.r.asc.free (i := 2)
  have z3 := h8.r.asc.free (i := 3)
  have xb := h8.lt
  have yb := h8.r.asc.lt
  have h9 := (((((h8.of_eq (show _ = pts b2 (.cells #[.int .i64 0, .int .i64 0, .slice none 0 0, .string ⟨#[]⟩] 33) * ((rowI (.slice va1 xs.length vc) xs * A) * Y * pts (b2 + 1) (opO (c : Nat) q (.slice va1 xs.length vc) ⟨txt.toArray⟩)) by ac_rfl)).set (i := 0) (v := .int .i64 ((c : Nat) : Int))).set (i := 1) (v := .int .i64 (q : Int))).set (i := 2) (v := .slice va1 xs.length vc)).set (i := 3) (v := .string ⟨txt.toArray⟩))
  have HH := Lib.hid (back _ _ h9.r.l)
  have h10 := h9.cell (i := 0) rfl
  clear h7 back hx HE h8 h10
  have HRES := Lib.hid h9
  clear h9
  go_wp2
  (try simp only [Exit.inBlock, Exit.then])
  refine bodyPost_ret (v := .agg #[.int .i64 ((c : Nat) : Int), .int .i64 (q : Int), .slice va1 xs.length vc, .string ⟨txt.toArray⟩]) (by unfold results; go_simp) rfl ?_
  rw [HCM.out]
  exact ⟨_, rfl, HH.out⟩
set_option maxRecDepth 100000 in
set_option maxHeartbeats 16000000 in
theorem op_132 {b cf cap : Nat} {f : Fd} (hb : f.next.1 = 132) (h : FdAt W A b cf cap f w) :
    Calls Try.prog 30 #[.pointer (some ⟨b, 0, none⟩)] w fun e w' => ∃ va, e = .returned (.agg #[.int .i64 f.cmd.1.code, .int .i64 f.cmd.1.at_, va, .string ⟨f.cmd.1.text.toArray⟩]) ∧ FdAt W (rowI va f.cmd.1.args * A) b cf cap f.cmd.2 w' := by
  have hat : ∃ s r, Sat W (pts b (.cells #[.chan (some cf), .int .i64 f.at_, .bool f.lost] 110) * (pts cf (chanO cap f.l true s r) * A)) w := h.2
  obtain ⟨s, r, hs⟩ := hat
  have c1 := hs.cell (i := 1) rfl
  have lb := hs.lt
  clear hs
  have h2 := (h.allocX (.cells #[.int .i64 0, .int .i64 0, .slice none 0 0, .string ⟨#[]⟩] 33)).allocX (opO 0 f.at_ (.slice none 0 0) ⟨#[]⟩)
  obtain ⟨b2, hb2⟩ : ∃ b2, w.heap.size = b2 := ⟨_, rfl⟩
  have lb2 := lb
  rw [hb2] at lb2
  rw [show (w.alloc (.cells #[.int .i64 0, .int .i64 0, .slice none 0 0, .string ⟨#[]⟩] 33)).heap.size = b2 + 1 by simp [hb2], hb2] at h2
  have H2 := Lib.hid h2
  have HN := Lib.hid (next_any h2)
  clear h h2
  go_enter Try.func30, Try.ntmps30
  go_upto_region 2 with fail
  generalize (w.alloc (.cells #[.int .i64 0, .int .i64 0, .slice none 0 0, .string ⟨#[]⟩] 33)).alloc (opO 0 f.at_ (.slice none 0 0) ⟨#[]⟩) = W2 at *
  clear c1 lb lb2 hb2
  have hlt := f.next_lt
  obtain ⟨c, hc⟩ : ∃ c, f.next.1 = c := ⟨_, rfl⟩
  obtain ⟨f1, hf1⟩ : ∃ f1, f.next.2 = f1 := ⟨_, rfl⟩
  obtain ⟨xs, hxs⟩ : ∃ xs, (f1.args (sizesM c) []).1 = xs := ⟨_, rfl⟩
  obtain ⟨f2, hf2⟩ : ∃ f2, (f1.args (sizesM c) []).2 = f2 := ⟨_, rfl⟩
  obtain ⟨txt, htxt⟩ : ∃ txt, (f2.tail c xs).1 = txt := ⟨_, rfl⟩
  obtain ⟨fr, hfr⟩ : ∃ fr, (f2.tail c xs).2 = fr := ⟨_, rfl⟩
  obtain ⟨q, hq⟩ : ∃ q, f.at_ = q := ⟨_, rfl⟩
  have HCM := Lib.hid (show f.cmd = (⟨c, q, xs, txt⟩, fr) by
    unfold Fd.cmd
    simp only [hc, hf1, hxs, hf2, htxt, hfr, hq])
  rw [hc] at hlt HN hb
  rw [hf1] at HN
  rw [hq] at HN H2
  rw [hq]
  have HXS := Lib.hid hxs
  have HF2 := Lib.hid hf2
  have HTX := Lib.hid htxt
  have HFR := Lib.hid hfr
  clear hc hf1 hxs hf2 htxt hfr hq
  subst hb
  go_wp2_with fail
  refine Calls.mono HN.out ?_
  rintro e w3 ⟨rfl, h3⟩
  have a0 := h3.sat.cell (i := 0) rfl
  have ab := h3.sat.lt
  have af := h3.sat.free (i := 0)
  obtain ⟨Y, h4, back⟩ := h3.focus
  have h5 := (h4.asc.set (i := 0) (v := .int .i64 ((132 : Nat) : Int)))
  have h6 := back _ _ (show Sat W ((pts (b2 + 1) (opO (132 : Nat) q (.slice none 0 0) ⟨#[]⟩) * (pts b2 (.cells #[.int .i64 0, .int .i64 0, .slice none 0 0, .string ⟨#[]⟩] 33) * A)) * Y) _ from Sat.asc' h5)
  have H6 := Lib.hid h6
  clear h3 h4 h5 h6 back H2 HN
  go_upto_region 3 with fail
  generalize w3.setCell ⟨b2 + 1, 0, none⟩ (.int .i64 ((132 : Nat) : Int)) = W4 at *
  clear a0 ab af
  have a0 := H6.out.sat.cell (i := 0) rfl
  have ab := H6.out.sat.lt
  go_upto_block 0 with fail
  have hsz : sizesM 132 = [4, 4] := by
    unfold sizesM
    repeat (first | rw [if_pos (by omega)] | rw [if_neg (by omega)])
  have htn : textN 132 xs = none := by unfold textN; repeat (first | rw [if_pos (by omega)] | rw [if_neg (by omega)])
  have hx2 := HXS.out
  have hf2 := HF2.out
  have htx := HTX.out
  have hfr := HFR.out
  rw [hsz] at hx2 hf2
  rw [Fd.tail, htn, if_neg (by omega)] at htx hfr
  simp only at htx hfr
  have HA := args_call [4, 4] 2 rfl (by omega) (by simp; try omega) H6.out
  rw [hx2, hf2] at HA
  simp only [intsL, List.map_cons, List.map_nil] at HA
  have HTX2 := Lib.hid htx
  have HFR2 := Lib.hid hfr
  have HAA := Lib.hid HA
  clear HA hx2 hf2 htn hsz htx hfr H6 HXS HF2 HTX HFR
  go_wp2_with fail
  refine Calls.mono HAA.out ?_
  rintro e w5 ⟨rfl, va, h5⟩
  have hx := h5
  rw [HFR2.out] at hx
  have H5 := Lib.hid (show FdAt W (pts (b2 + 1) (opO (132 : Nat) q va ⟨txt.toArray⟩) * (rowI va xs * (pts b2 (.cells #[.int .i64 0, .int .i64 0, .slice none 0 0, .string ⟨#[]⟩] 33) * A))) b cf cap fr w5 from by rw [← HTX2.out]; exact hx)
  clear h5 hx HAA
  (try go_upto_region 41 with fail)
  obtain ⟨va, hx⟩ : ∃ va, FdAt W (pts (b2 + 1) (opO (132 : Nat) q va ⟨txt.toArray⟩) * (rowI va xs * (pts b2 (.cells #[.int .i64 0, .int .i64 0, .slice none 0 0, .string ⟨#[]⟩] 33) * A))) b cf cap fr _ := ⟨_, H5.out⟩
  clear H5
  have HE := Lib.hid (hx.of_eq (show _ = pts (b2 + 1) (opO (132 : Nat) q _ ⟨txt.toArray⟩) * (pts b2 (.cells #[.int .i64 0, .int .i64 0, .slice none 0 0, .string ⟨#[]⟩] 33) * (rowI _ xs * A)) by ac_rfl))
  obtain ⟨va1, vc, hva, -⟩ := hx.sat.r.row_val
  subst hva
  obtain ⟨Y, h7, back⟩ := HE.out.focus
  have h8 := h7.asc
  have x0 := h8.cell (i := 0) rfl
  have x1 := h8.cell (i := 1) rfl
  have x2 := h8.cell (i := 2) rfl
  have x3 := h8.cell (i := 3) rfl
  have y0 := h8.r.asc.cell (i := 0) rfl
  have y1 := h8.r.asc.cell (i := 1) rfl
  have y2 := h8.r.asc.cell (i := 2) rfl
  have y3 := h8.r.asc.cell (i := 3) rfl
  have z0 := h8.r.asc.free (i := 0)
  have z1 := h8.r.asc.free (i := 1)
  have z2 := h8.r.asc.free (i := 2)
  have z3 := h8.r.asc.free (i := 3)
  have xb := h8.lt
  have yb := h8.r.asc.lt
  have h9 := (((((h8.of_eq (show _ = pts b2 (.cells #[.int .i64 0, .int .i64 0, .slice none 0 0, .string ⟨#[]⟩] 33) * ((rowI (.slice va1 xs.length vc) xs * A) * Y * pts (b2 + 1) (opO (132 : Nat) q (.slice va1 xs.length vc) ⟨txt.toArray⟩)) by ac_rfl)).set (i := 0) (v := .int .i64 ((132 : Nat) : Int))).set (i := 1) (v := .int .i64 (q : Int))).set (i := 2) (v := .slice va1 xs.length vc)).set (i := 3) (v := .string ⟨txt.toArray⟩))
  have HH := Lib.hid (back _ _ h9.r.l)
  have h10 := h9.cell (i := 0) rfl
  clear h7 back hx HE h8 h10
  have HRES := Lib.hid h9
  clear h9
  go_wp2
  (try simp only [Exit.inBlock, Exit.then])
  refine bodyPost_ret (v := .agg #[.int .i64 ((132 : Nat) : Int), .int .i64 (q : Int), .slice va1 xs.length vc, .string ⟨txt.toArray⟩]) (by unfold results; go_simp) rfl ?_
  rw [HCM.out]
  exact ⟨_, rfl, HH.out⟩
set_option maxRecDepth 100000 in
set_option maxHeartbeats 16000000 in
theorem op_133 {b cf cap : Nat} {f : Fd} (hb : 133 ≤ f.next.1 ∧ f.next.1 ≤ 136) (h : FdAt W A b cf cap f w) :
    Calls Try.prog 30 #[.pointer (some ⟨b, 0, none⟩)] w fun e w' => ∃ va, e = .returned (.agg #[.int .i64 f.cmd.1.code, .int .i64 f.cmd.1.at_, va, .string ⟨f.cmd.1.text.toArray⟩]) ∧ FdAt W (rowI va f.cmd.1.args * A) b cf cap f.cmd.2 w' := by
  have hat : ∃ s r, Sat W (pts b (.cells #[.chan (some cf), .int .i64 f.at_, .bool f.lost] 110) * (pts cf (chanO cap f.l true s r) * A)) w := h.2
  obtain ⟨s, r, hs⟩ := hat
  have c1 := hs.cell (i := 1) rfl
  have lb := hs.lt
  clear hs
  have h2 := (h.allocX (.cells #[.int .i64 0, .int .i64 0, .slice none 0 0, .string ⟨#[]⟩] 33)).allocX (opO 0 f.at_ (.slice none 0 0) ⟨#[]⟩)
  obtain ⟨b2, hb2⟩ : ∃ b2, w.heap.size = b2 := ⟨_, rfl⟩
  have lb2 := lb
  rw [hb2] at lb2
  rw [show (w.alloc (.cells #[.int .i64 0, .int .i64 0, .slice none 0 0, .string ⟨#[]⟩] 33)).heap.size = b2 + 1 by simp [hb2], hb2] at h2
  have H2 := Lib.hid h2
  have HN := Lib.hid (next_any h2)
  clear h h2
  go_enter Try.func30, Try.ntmps30
  go_upto_region 2 with fail
  generalize (w.alloc (.cells #[.int .i64 0, .int .i64 0, .slice none 0 0, .string ⟨#[]⟩] 33)).alloc (opO 0 f.at_ (.slice none 0 0) ⟨#[]⟩) = W2 at *
  clear c1 lb lb2 hb2
  have hlt := f.next_lt
  obtain ⟨c, hc⟩ : ∃ c, f.next.1 = c := ⟨_, rfl⟩
  obtain ⟨f1, hf1⟩ : ∃ f1, f.next.2 = f1 := ⟨_, rfl⟩
  obtain ⟨xs, hxs⟩ : ∃ xs, (f1.args (sizesM c) []).1 = xs := ⟨_, rfl⟩
  obtain ⟨f2, hf2⟩ : ∃ f2, (f1.args (sizesM c) []).2 = f2 := ⟨_, rfl⟩
  obtain ⟨txt, htxt⟩ : ∃ txt, (f2.tail c xs).1 = txt := ⟨_, rfl⟩
  obtain ⟨fr, hfr⟩ : ∃ fr, (f2.tail c xs).2 = fr := ⟨_, rfl⟩
  obtain ⟨q, hq⟩ : ∃ q, f.at_ = q := ⟨_, rfl⟩
  have HCM := Lib.hid (show f.cmd = (⟨c, q, xs, txt⟩, fr) by
    unfold Fd.cmd
    simp only [hc, hf1, hxs, hf2, htxt, hfr, hq])
  rw [hc] at hlt HN hb
  rw [hf1] at HN
  rw [hq] at HN H2
  rw [hq]
  have HXS := Lib.hid hxs
  have HF2 := Lib.hid hf2
  have HTX := Lib.hid htxt
  have HFR := Lib.hid hfr
  clear hc hf1 hxs hf2 htxt hfr hq
  go_wp2_with fail
  refine Calls.mono HN.out ?_
  rintro e w3 ⟨rfl, h3⟩
  have a0 := h3.sat.cell (i := 0) rfl
  have ab := h3.sat.lt
  have af := h3.sat.free (i := 0)
  obtain ⟨Y, h4, back⟩ := h3.focus
  have h5 := (h4.asc.set (i := 0) (v := .int .i64 (c : Int)))
  have h6 := back _ _ (show Sat W ((pts (b2 + 1) (opO c q (.slice none 0 0) ⟨#[]⟩) * (pts b2 (.cells #[.int .i64 0, .int .i64 0, .slice none 0 0, .string ⟨#[]⟩] 33) * A)) * Y) _ from Sat.asc' h5)
  have H6 := Lib.hid h6
  clear h3 h4 h5 h6 back H2 HN
  go_upto_region 3 with fail
  generalize w3.setCell ⟨b2 + 1, 0, none⟩ (.int .i64 (c : Int)) = W4 at *
  clear a0 ab af
  have a0 := H6.out.sat.cell (i := 0) rfl
  have ab := H6.out.sat.lt
  go_upto_block 0 with fail
  have g128 : (128 : Int) ≤ (c : Int) := by omega
  have g133 : (133 : Int) ≤ (c : Int) := by omega
  have g143 : ¬ (143 : Int) ≤ (c : Int) := by omega
  have g148 : ¬ (148 : Int) ≤ (c : Int) := by omega
  have g153 : ¬ (153 : Int) ≤ (c : Int) := by omega
  have g157 : ¬ (157 : Int) ≤ (c : Int) := by omega
  have g162 : ¬ (162 : Int) ≤ (c : Int) := by omega
  have g167 : ¬ (167 : Int) ≤ (c : Int) := by omega
  have g235 : ¬ (235 : Int) ≤ (c : Int) := by omega
  have g239 : ¬ (239 : Int) ≤ (c : Int) := by omega
  have g243 : ¬ (243 : Int) ≤ (c : Int) := by omega
  have l131 : ¬ (c : Int) ≤ (131 : Int) := by omega
  have l136 : (c : Int) ≤ (136 : Int) := by omega
  have l146 : (c : Int) ≤ (146 : Int) := by omega
  have l151 : (c : Int) ≤ (151 : Int) := by omega
  have l156 : (c : Int) ≤ (156 : Int) := by omega
  have l160 : (c : Int) ≤ (160 : Int) := by omega
  have l165 : (c : Int) ≤ (165 : Int) := by omega
  have l170 : (c : Int) ≤ (170 : Int) := by omega
  have l238 : (c : Int) ≤ (238 : Int) := by omega
  have l242 : (c : Int) ≤ (242 : Int) := by omega
  have l246 : (c : Int) ≤ (246 : Int) := by omega
  have e132 : ((c : Int) == 132) = false := by rw [beq_eq_false_iff_ne]; omega
  have e137 : ((c : Int) == 137) = false := by rw [beq_eq_false_iff_ne]; omega
  have e139 : ((c : Int) == 139) = false := by rw [beq_eq_false_iff_ne]; omega
  have e247 : ((c : Int) == 247) = false := by rw [beq_eq_false_iff_ne]; omega
  have e248 : ((c : Int) == 248) = false := by rw [beq_eq_false_iff_ne]; omega
  have e249 : ((c : Int) == 249) = false := by rw [beq_eq_false_iff_ne]; omega
  have t249 : ¬ (249 : Int) < (c : Int) := by omega
  have hsz : sizesM c = [(c : Int) - 132] := by
    unfold sizesM
    repeat (first | rw [if_pos (by omega)] | rw [if_neg (by omega)])
  have htn : textN c xs = none := by unfold textN; repeat (first | rw [if_pos (by omega)] | rw [if_neg (by omega)])
  have hx2 := HXS.out
  have hf2 := HF2.out
  have htx := HTX.out
  have hfr := HFR.out
  rw [hsz] at hx2 hf2
  rw [Fd.tail, htn, if_neg (by omega)] at htx hfr
  simp only at htx hfr
  have HA := args_call [(c : Int) - 132] 1 rfl (by omega) (by simp; try omega) H6.out
  rw [hx2, hf2] at HA
  simp only [intsL, List.map_cons, List.map_nil] at HA
  have HTX2 := Lib.hid htx
  have HFR2 := Lib.hid hfr
  have HAA := Lib.hid HA
  clear HA hx2 hf2 htn hsz htx hfr H6 HXS HF2 HTX HFR
  go_wp2_with fail
  refine Calls.mono HAA.out ?_
  rintro e w5 ⟨rfl, va, h5⟩
  have hx := h5
  rw [HFR2.out] at hx
  have H5 := Lib.hid (show FdAt W (pts (b2 + 1) (opO (c : Nat) q va ⟨txt.toArray⟩) * (rowI va xs * (pts b2 (.cells #[.int .i64 0, .int .i64 0, .slice none 0 0, .string ⟨#[]⟩] 33) * A))) b cf cap fr w5 from by rw [← HTX2.out]; exact hx)
  clear h5 hx HAA
  (try go_upto_region 41 with fail)
  obtain ⟨va, hx⟩ : ∃ va, FdAt W (pts (b2 + 1) (opO (c : Nat) q va ⟨txt.toArray⟩) * (rowI va xs * (pts b2 (.cells #[.int .i64 0, .int .i64 0, .slice none 0 0, .string ⟨#[]⟩] 33) * A))) b cf cap fr _ := ⟨_, H5.out⟩
  clear H5
  have HE := Lib.hid (hx.of_eq (show _ = pts (b2 + 1) (opO (c : Nat) q _ ⟨txt.toArray⟩) * (pts b2 (.cells #[.int .i64 0, .int .i64 0, .slice none 0 0, .string ⟨#[]⟩] 33) * (rowI _ xs * A)) by ac_rfl))
  obtain ⟨va1, vc, hva, -⟩ := hx.sat.r.row_val
  subst hva
  obtain ⟨Y, h7, back⟩ := HE.out.focus
  have h8 := h7.asc
  have x0 := h8.cell (i := 0) rfl
  have x1 := h8.cell (i := 1) rfl
  have x2 := h8.cell (i := 2) rfl
  have x3 := h8.cell (i := 3) rfl
  have y0 := h8.r.asc.cell (i := 0) rfl
  have y1 := h8.r.asc.cell (i := 1) rfl
  have y2 := h8.r.asc.cell (i := 2) rfl
  have y3 := h8.r.asc.cell (i := 3) rfl
  have z0 := h8.r.asc.free (i := 0)
  have z1 := h8.r.asc.free (i := 1)
  have z2 := h8.r.asc.free (i := 2)
  have z3 := h8.r.asc.free (i := 3)
  have xb := h8.lt
  have yb := h8.r.asc.lt
  have h9 := (((((h8.of_eq (show _ = pts b2 (.cells #[.int .i64 0, .int .i64 0, .slice none 0 0, .string ⟨#[]⟩] 33) * ((rowI (.slice va1 xs.length vc) xs * A) * Y * pts (b2 + 1) (opO (c : Nat) q (.slice va1 xs.length vc) ⟨txt.toArray⟩)) by ac_rfl)).set (i := 0) (v := .int .i64 ((c : Nat) : Int))).set (i := 1) (v := .int .i64 (q : Int))).set (i := 2) (v := .slice va1 xs.length vc)).set (i := 3) (v := .string ⟨txt.toArray⟩))
  have HH := Lib.hid (back _ _ h9.r.l)
  have h10 := h9.cell (i := 0) rfl
  clear h7 back hx HE h8 h10
  have HRES := Lib.hid h9
  clear h9
  go_wp2
  (try simp only [Exit.inBlock, Exit.then])
  refine bodyPost_ret (v := .agg #[.int .i64 ((c : Nat) : Int), .int .i64 (q : Int), .slice va1 xs.length vc, .string ⟨txt.toArray⟩]) (by unfold results; go_simp) rfl ?_
  rw [HCM.out]
  exact ⟨_, rfl, HH.out⟩
set_option maxRecDepth 100000 in
set_option maxHeartbeats 16000000 in
theorem op_137 {b cf cap : Nat} {f : Fd} (hb : f.next.1 = 137) (h : FdAt W A b cf cap f w) :
    Calls Try.prog 30 #[.pointer (some ⟨b, 0, none⟩)] w fun e w' => ∃ va, e = .returned (.agg #[.int .i64 f.cmd.1.code, .int .i64 f.cmd.1.at_, va, .string ⟨f.cmd.1.text.toArray⟩]) ∧ FdAt W (rowI va f.cmd.1.args * A) b cf cap f.cmd.2 w' := by
  have hat : ∃ s r, Sat W (pts b (.cells #[.chan (some cf), .int .i64 f.at_, .bool f.lost] 110) * (pts cf (chanO cap f.l true s r) * A)) w := h.2
  obtain ⟨s, r, hs⟩ := hat
  have c1 := hs.cell (i := 1) rfl
  have lb := hs.lt
  clear hs
  have h2 := (h.allocX (.cells #[.int .i64 0, .int .i64 0, .slice none 0 0, .string ⟨#[]⟩] 33)).allocX (opO 0 f.at_ (.slice none 0 0) ⟨#[]⟩)
  obtain ⟨b2, hb2⟩ : ∃ b2, w.heap.size = b2 := ⟨_, rfl⟩
  have lb2 := lb
  rw [hb2] at lb2
  rw [show (w.alloc (.cells #[.int .i64 0, .int .i64 0, .slice none 0 0, .string ⟨#[]⟩] 33)).heap.size = b2 + 1 by simp [hb2], hb2] at h2
  have H2 := Lib.hid h2
  have HN := Lib.hid (next_any h2)
  clear h h2
  go_enter Try.func30, Try.ntmps30
  go_upto_region 2 with fail
  generalize (w.alloc (.cells #[.int .i64 0, .int .i64 0, .slice none 0 0, .string ⟨#[]⟩] 33)).alloc (opO 0 f.at_ (.slice none 0 0) ⟨#[]⟩) = W2 at *
  clear c1 lb lb2 hb2
  have hlt := f.next_lt
  obtain ⟨c, hc⟩ : ∃ c, f.next.1 = c := ⟨_, rfl⟩
  obtain ⟨f1, hf1⟩ : ∃ f1, f.next.2 = f1 := ⟨_, rfl⟩
  obtain ⟨xs, hxs⟩ : ∃ xs, (f1.args (sizesM c) []).1 = xs := ⟨_, rfl⟩
  obtain ⟨f2, hf2⟩ : ∃ f2, (f1.args (sizesM c) []).2 = f2 := ⟨_, rfl⟩
  obtain ⟨txt, htxt⟩ : ∃ txt, (f2.tail c xs).1 = txt := ⟨_, rfl⟩
  obtain ⟨fr, hfr⟩ : ∃ fr, (f2.tail c xs).2 = fr := ⟨_, rfl⟩
  obtain ⟨q, hq⟩ : ∃ q, f.at_ = q := ⟨_, rfl⟩
  have HCM := Lib.hid (show f.cmd = (⟨c, q, xs, txt⟩, fr) by
    unfold Fd.cmd
    simp only [hc, hf1, hxs, hf2, htxt, hfr, hq])
  rw [hc] at hlt HN hb
  rw [hf1] at HN
  rw [hq] at HN H2
  rw [hq]
  have HXS := Lib.hid hxs
  have HF2 := Lib.hid hf2
  have HTX := Lib.hid htxt
  have HFR := Lib.hid hfr
  clear hc hf1 hxs hf2 htxt hfr hq
  subst hb
  go_wp2_with fail
  refine Calls.mono HN.out ?_
  rintro e w3 ⟨rfl, h3⟩
  have a0 := h3.sat.cell (i := 0) rfl
  have ab := h3.sat.lt
  have af := h3.sat.free (i := 0)
  obtain ⟨Y, h4, back⟩ := h3.focus
  have h5 := (h4.asc.set (i := 0) (v := .int .i64 ((137 : Nat) : Int)))
  have h6 := back _ _ (show Sat W ((pts (b2 + 1) (opO (137 : Nat) q (.slice none 0 0) ⟨#[]⟩) * (pts b2 (.cells #[.int .i64 0, .int .i64 0, .slice none 0 0, .string ⟨#[]⟩] 33) * A)) * Y) _ from Sat.asc' h5)
  have H6 := Lib.hid h6
  clear h3 h4 h5 h6 back H2 HN
  go_upto_region 3 with fail
  generalize w3.setCell ⟨b2 + 1, 0, none⟩ (.int .i64 ((137 : Nat) : Int)) = W4 at *
  clear a0 ab af
  have a0 := H6.out.sat.cell (i := 0) rfl
  have ab := H6.out.sat.lt
  go_upto_block 0 with fail
  have hsz : sizesM 137 = [4, 4] := by
    unfold sizesM
    repeat (first | rw [if_pos (by omega)] | rw [if_neg (by omega)])
  have htn : textN 137 xs = none := by unfold textN; repeat (first | rw [if_pos (by omega)] | rw [if_neg (by omega)])
  have hx2 := HXS.out
  have hf2 := HF2.out
  have htx := HTX.out
  have hfr := HFR.out
  rw [hsz] at hx2 hf2
  rw [Fd.tail, htn, if_neg (by omega)] at htx hfr
  simp only at htx hfr
  have HA := args_call [4, 4] 2 rfl (by omega) (by simp; try omega) H6.out
  rw [hx2, hf2] at HA
  simp only [intsL, List.map_cons, List.map_nil] at HA
  have HTX2 := Lib.hid htx
  have HFR2 := Lib.hid hfr
  have HAA := Lib.hid HA
  clear HA hx2 hf2 htn hsz htx hfr H6 HXS HF2 HTX HFR
  go_wp2_with fail
  refine Calls.mono HAA.out ?_
  rintro e w5 ⟨rfl, va, h5⟩
  have hx := h5
  rw [HFR2.out] at hx
  have H5 := Lib.hid (show FdAt W (pts (b2 + 1) (opO (137 : Nat) q va ⟨txt.toArray⟩) * (rowI va xs * (pts b2 (.cells #[.int .i64 0, .int .i64 0, .slice none 0 0, .string ⟨#[]⟩] 33) * A))) b cf cap fr w5 from by rw [← HTX2.out]; exact hx)
  clear h5 hx HAA
  (try go_upto_region 41 with fail)
  obtain ⟨va, hx⟩ : ∃ va, FdAt W (pts (b2 + 1) (opO (137 : Nat) q va ⟨txt.toArray⟩) * (rowI va xs * (pts b2 (.cells #[.int .i64 0, .int .i64 0, .slice none 0 0, .string ⟨#[]⟩] 33) * A))) b cf cap fr _ := ⟨_, H5.out⟩
  clear H5
  have HE := Lib.hid (hx.of_eq (show _ = pts (b2 + 1) (opO (137 : Nat) q _ ⟨txt.toArray⟩) * (pts b2 (.cells #[.int .i64 0, .int .i64 0, .slice none 0 0, .string ⟨#[]⟩] 33) * (rowI _ xs * A)) by ac_rfl))
  obtain ⟨va1, vc, hva, -⟩ := hx.sat.r.row_val
  subst hva
  obtain ⟨Y, h7, back⟩ := HE.out.focus
  have h8 := h7.asc
  have x0 := h8.cell (i := 0) rfl
  have x1 := h8.cell (i := 1) rfl
  have x2 := h8.cell (i := 2) rfl
  have x3 := h8.cell (i := 3) rfl
  have y0 := h8.r.asc.cell (i := 0) rfl
  have y1 := h8.r.asc.cell (i := 1) rfl
  have y2 := h8.r.asc.cell (i := 2) rfl
  have y3 := h8.r.asc.cell (i := 3) rfl
  have z0 := h8.r.asc.free (i := 0)
  have z1 := h8.r.asc.free (i := 1)
  have z2 := h8.r.asc.free (i := 2)
  have z3 := h8.r.asc.free (i := 3)
  have xb := h8.lt
  have yb := h8.r.asc.lt
  have h9 := (((((h8.of_eq (show _ = pts b2 (.cells #[.int .i64 0, .int .i64 0, .slice none 0 0, .string ⟨#[]⟩] 33) * ((rowI (.slice va1 xs.length vc) xs * A) * Y * pts (b2 + 1) (opO (137 : Nat) q (.slice va1 xs.length vc) ⟨txt.toArray⟩)) by ac_rfl)).set (i := 0) (v := .int .i64 ((137 : Nat) : Int))).set (i := 1) (v := .int .i64 (q : Int))).set (i := 2) (v := .slice va1 xs.length vc)).set (i := 3) (v := .string ⟨txt.toArray⟩))
  have HH := Lib.hid (back _ _ h9.r.l)
  have h10 := h9.cell (i := 0) rfl
  clear h7 back hx HE h8 h10
  have HRES := Lib.hid h9
  clear h9
  go_wp2
  (try simp only [Exit.inBlock, Exit.then])
  refine bodyPost_ret (v := .agg #[.int .i64 ((137 : Nat) : Int), .int .i64 (q : Int), .slice va1 xs.length vc, .string ⟨txt.toArray⟩]) (by unfold results; go_simp) rfl ?_
  rw [HCM.out]
  exact ⟨_, rfl, HH.out⟩
set_option maxRecDepth 100000 in
set_option maxHeartbeats 16000000 in
theorem op_138 {b cf cap : Nat} {f : Fd} (hb : f.next.1 = 138) (h : FdAt W A b cf cap f w) :
    Calls Try.prog 30 #[.pointer (some ⟨b, 0, none⟩)] w fun e w' => ∃ va, e = .returned (.agg #[.int .i64 f.cmd.1.code, .int .i64 f.cmd.1.at_, va, .string ⟨f.cmd.1.text.toArray⟩]) ∧ FdAt W (rowI va f.cmd.1.args * A) b cf cap f.cmd.2 w' := by
  have hat : ∃ s r, Sat W (pts b (.cells #[.chan (some cf), .int .i64 f.at_, .bool f.lost] 110) * (pts cf (chanO cap f.l true s r) * A)) w := h.2
  obtain ⟨s, r, hs⟩ := hat
  have c1 := hs.cell (i := 1) rfl
  have lb := hs.lt
  clear hs
  have h2 := (h.allocX (.cells #[.int .i64 0, .int .i64 0, .slice none 0 0, .string ⟨#[]⟩] 33)).allocX (opO 0 f.at_ (.slice none 0 0) ⟨#[]⟩)
  obtain ⟨b2, hb2⟩ : ∃ b2, w.heap.size = b2 := ⟨_, rfl⟩
  have lb2 := lb
  rw [hb2] at lb2
  rw [show (w.alloc (.cells #[.int .i64 0, .int .i64 0, .slice none 0 0, .string ⟨#[]⟩] 33)).heap.size = b2 + 1 by simp [hb2], hb2] at h2
  have H2 := Lib.hid h2
  have HN := Lib.hid (next_any h2)
  clear h h2
  go_enter Try.func30, Try.ntmps30
  go_upto_region 2 with fail
  generalize (w.alloc (.cells #[.int .i64 0, .int .i64 0, .slice none 0 0, .string ⟨#[]⟩] 33)).alloc (opO 0 f.at_ (.slice none 0 0) ⟨#[]⟩) = W2 at *
  clear c1 lb lb2 hb2
  have hlt := f.next_lt
  obtain ⟨c, hc⟩ : ∃ c, f.next.1 = c := ⟨_, rfl⟩
  obtain ⟨f1, hf1⟩ : ∃ f1, f.next.2 = f1 := ⟨_, rfl⟩
  obtain ⟨xs, hxs⟩ : ∃ xs, (f1.args (sizesM c) []).1 = xs := ⟨_, rfl⟩
  obtain ⟨f2, hf2⟩ : ∃ f2, (f1.args (sizesM c) []).2 = f2 := ⟨_, rfl⟩
  obtain ⟨txt, htxt⟩ : ∃ txt, (f2.tail c xs).1 = txt := ⟨_, rfl⟩
  obtain ⟨fr, hfr⟩ : ∃ fr, (f2.tail c xs).2 = fr := ⟨_, rfl⟩
  obtain ⟨q, hq⟩ : ∃ q, f.at_ = q := ⟨_, rfl⟩
  have HCM := Lib.hid (show f.cmd = (⟨c, q, xs, txt⟩, fr) by
    unfold Fd.cmd
    simp only [hc, hf1, hxs, hf2, htxt, hfr, hq])
  rw [hc] at hlt HN hb
  rw [hf1] at HN
  rw [hq] at HN H2
  rw [hq]
  have HXS := Lib.hid hxs
  have HF2 := Lib.hid hf2
  have HTX := Lib.hid htxt
  have HFR := Lib.hid hfr
  clear hc hf1 hxs hf2 htxt hfr hq
  subst hb
  go_wp2_with fail
  refine Calls.mono HN.out ?_
  rintro e w3 ⟨rfl, h3⟩
  have a0 := h3.sat.cell (i := 0) rfl
  have ab := h3.sat.lt
  have af := h3.sat.free (i := 0)
  obtain ⟨Y, h4, back⟩ := h3.focus
  have h5 := (h4.asc.set (i := 0) (v := .int .i64 ((138 : Nat) : Int)))
  have h6 := back _ _ (show Sat W ((pts (b2 + 1) (opO (138 : Nat) q (.slice none 0 0) ⟨#[]⟩) * (pts b2 (.cells #[.int .i64 0, .int .i64 0, .slice none 0 0, .string ⟨#[]⟩] 33) * A)) * Y) _ from Sat.asc' h5)
  have H6 := Lib.hid h6
  clear h3 h4 h5 h6 back H2 HN
  go_upto_region 3 with fail
  generalize w3.setCell ⟨b2 + 1, 0, none⟩ (.int .i64 ((138 : Nat) : Int)) = W4 at *
  clear a0 ab af
  have a0 := H6.out.sat.cell (i := 0) rfl
  have ab := H6.out.sat.lt
  go_upto_block 0 with fail
  have hsz : sizesM 138 = [] := by
    unfold sizesM
    repeat (first | rw [if_pos (by omega)] | rw [if_neg (by omega)])
  have htn : textN 138 xs = none := by unfold textN; repeat (first | rw [if_pos (by omega)] | rw [if_neg (by omega)])
  have hx2 := HXS.out
  have hf2 := HF2.out
  have htx := HTX.out
  have hfr := HFR.out
  rw [hsz] at hx2 hf2
  rw [Fd.tail, htn, if_neg (by omega)] at htx hfr
  simp only at htx hfr
  simp only [Fd.args] at hx2 hf2
  have H5 := Lib.hid (show FdAt W (pts (b2 + 1) (opO (138 : Nat) q (.slice none 0 0) ⟨txt.toArray⟩) * (rowI (.slice none 0 0) xs * (pts b2 (.cells #[.int .i64 0, .int .i64 0, .slice none 0 0, .string ⟨#[]⟩] 33) * A))) b cf cap fr _ from by
    rw [← htx, ← hx2, ← hfr, ← hf2]
    exact H6.out.nilI.of_eq (show _ = pts (b2 + 1) (opO 138 q (.slice none 0 0) ⟨#[]⟩) * (rowI (.slice none 0 0) [] * (pts b2 (.cells #[.int .i64 0, .int .i64 0, .slice none 0 0, .string ⟨#[]⟩] 33) * A)) by ac_rfl))
  clear htn hsz htx hfr hx2 hf2 H6 HXS HF2 HTX HFR
  (try go_upto_region 41 with fail)
  obtain ⟨va, hx⟩ : ∃ va, FdAt W (pts (b2 + 1) (opO (138 : Nat) q va ⟨txt.toArray⟩) * (rowI va xs * (pts b2 (.cells #[.int .i64 0, .int .i64 0, .slice none 0 0, .string ⟨#[]⟩] 33) * A))) b cf cap fr _ := ⟨_, H5.out⟩
  clear H5
  have HE := Lib.hid (hx.of_eq (show _ = pts (b2 + 1) (opO (138 : Nat) q _ ⟨txt.toArray⟩) * (pts b2 (.cells #[.int .i64 0, .int .i64 0, .slice none 0 0, .string ⟨#[]⟩] 33) * (rowI _ xs * A)) by ac_rfl))
  obtain ⟨va1, vc, hva, -⟩ := hx.sat.r.row_val
  subst hva
  obtain ⟨Y, h7, back⟩ := HE.out.focus
  have h8 := h7.asc
  have x0 := h8.cell (i := 0) rfl
  have x1 := h8.cell (i := 1) rfl
  have x2 := h8.cell (i := 2) rfl
  have x3 := h8.cell (i := 3) rfl
  have y0 := h8.r.asc.cell (i := 0) rfl
  have y1 := h8.r.asc.cell (i := 1) rfl
  have y2 := h8.r.asc.cell (i := 2) rfl
  have y3 := h8.r.asc.cell (i := 3) rfl
  have z0 := h8.r.asc.free (i := 0)
  have z1 := h8.r.asc.free (i := 1)
  have z2 := h8.r.asc.free (i := 2)
  have z3 := h8.r.asc.free (i := 3)
  have xb := h8.lt
  have yb := h8.r.asc.lt
  have h9 := (((((h8.of_eq (show _ = pts b2 (.cells #[.int .i64 0, .int .i64 0, .slice none 0 0, .string ⟨#[]⟩] 33) * ((rowI (.slice va1 xs.length vc) xs * A) * Y * pts (b2 + 1) (opO (138 : Nat) q (.slice va1 xs.length vc) ⟨txt.toArray⟩)) by ac_rfl)).set (i := 0) (v := .int .i64 ((138 : Nat) : Int))).set (i := 1) (v := .int .i64 (q : Int))).set (i := 2) (v := .slice va1 xs.length vc)).set (i := 3) (v := .string ⟨txt.toArray⟩))
  have HH := Lib.hid (back _ _ h9.r.l)
  have h10 := h9.cell (i := 0) rfl
  clear h7 back hx HE h8 h10
  have HRES := Lib.hid h9
  clear h9
  go_wp2
  (try simp only [Exit.inBlock, Exit.then])
  refine bodyPost_ret (v := .agg #[.int .i64 ((138 : Nat) : Int), .int .i64 (q : Int), .slice va1 xs.length vc, .string ⟨txt.toArray⟩]) (by unfold results; go_simp) rfl ?_
  rw [HCM.out]
  exact ⟨_, rfl, HH.out⟩
set_option maxRecDepth 100000 in
set_option maxHeartbeats 16000000 in
theorem op_139 {b cf cap : Nat} {f : Fd} (hb : f.next.1 = 139) (h : FdAt W A b cf cap f w) :
    Calls Try.prog 30 #[.pointer (some ⟨b, 0, none⟩)] w fun e w' => ∃ va, e = .returned (.agg #[.int .i64 f.cmd.1.code, .int .i64 f.cmd.1.at_, va, .string ⟨f.cmd.1.text.toArray⟩]) ∧ FdAt W (rowI va f.cmd.1.args * A) b cf cap f.cmd.2 w' := by
  have hat : ∃ s r, Sat W (pts b (.cells #[.chan (some cf), .int .i64 f.at_, .bool f.lost] 110) * (pts cf (chanO cap f.l true s r) * A)) w := h.2
  obtain ⟨s, r, hs⟩ := hat
  have c1 := hs.cell (i := 1) rfl
  have lb := hs.lt
  clear hs
  have h2 := (h.allocX (.cells #[.int .i64 0, .int .i64 0, .slice none 0 0, .string ⟨#[]⟩] 33)).allocX (opO 0 f.at_ (.slice none 0 0) ⟨#[]⟩)
  obtain ⟨b2, hb2⟩ : ∃ b2, w.heap.size = b2 := ⟨_, rfl⟩
  have lb2 := lb
  rw [hb2] at lb2
  rw [show (w.alloc (.cells #[.int .i64 0, .int .i64 0, .slice none 0 0, .string ⟨#[]⟩] 33)).heap.size = b2 + 1 by simp [hb2], hb2] at h2
  have H2 := Lib.hid h2
  have HN := Lib.hid (next_any h2)
  clear h h2
  go_enter Try.func30, Try.ntmps30
  go_upto_region 2 with fail
  generalize (w.alloc (.cells #[.int .i64 0, .int .i64 0, .slice none 0 0, .string ⟨#[]⟩] 33)).alloc (opO 0 f.at_ (.slice none 0 0) ⟨#[]⟩) = W2 at *
  clear c1 lb lb2 hb2
  have hlt := f.next_lt
  obtain ⟨c, hc⟩ : ∃ c, f.next.1 = c := ⟨_, rfl⟩
  obtain ⟨f1, hf1⟩ : ∃ f1, f.next.2 = f1 := ⟨_, rfl⟩
  obtain ⟨xs, hxs⟩ : ∃ xs, (f1.args (sizesM c) []).1 = xs := ⟨_, rfl⟩
  obtain ⟨f2, hf2⟩ : ∃ f2, (f1.args (sizesM c) []).2 = f2 := ⟨_, rfl⟩
  obtain ⟨txt, htxt⟩ : ∃ txt, (f2.tail c xs).1 = txt := ⟨_, rfl⟩
  obtain ⟨fr, hfr⟩ : ∃ fr, (f2.tail c xs).2 = fr := ⟨_, rfl⟩
  obtain ⟨q, hq⟩ : ∃ q, f.at_ = q := ⟨_, rfl⟩
  have HCM := Lib.hid (show f.cmd = (⟨c, q, xs, txt⟩, fr) by
    unfold Fd.cmd
    simp only [hc, hf1, hxs, hf2, htxt, hfr, hq])
  rw [hc] at hlt HN hb
  rw [hf1] at HN
  rw [hq] at HN H2
  rw [hq]
  have HXS := Lib.hid hxs
  have HF2 := Lib.hid hf2
  have HTX := Lib.hid htxt
  have HFR := Lib.hid hfr
  clear hc hf1 hxs hf2 htxt hfr hq
  subst hb
  go_wp2_with fail
  refine Calls.mono HN.out ?_
  rintro e w3 ⟨rfl, h3⟩
  have a0 := h3.sat.cell (i := 0) rfl
  have ab := h3.sat.lt
  have af := h3.sat.free (i := 0)
  obtain ⟨Y, h4, back⟩ := h3.focus
  have h5 := (h4.asc.set (i := 0) (v := .int .i64 ((139 : Nat) : Int)))
  have h6 := back _ _ (show Sat W ((pts (b2 + 1) (opO (139 : Nat) q (.slice none 0 0) ⟨#[]⟩) * (pts b2 (.cells #[.int .i64 0, .int .i64 0, .slice none 0 0, .string ⟨#[]⟩] 33) * A)) * Y) _ from Sat.asc' h5)
  have H6 := Lib.hid h6
  clear h3 h4 h5 h6 back H2 HN
  go_upto_region 3 with fail
  generalize w3.setCell ⟨b2 + 1, 0, none⟩ (.int .i64 ((139 : Nat) : Int)) = W4 at *
  clear a0 ab af
  have a0 := H6.out.sat.cell (i := 0) rfl
  have ab := H6.out.sat.lt
  go_upto_block 0 with fail
  have hsz : sizesM 139 = [4, 4, 4, 4, 4, 4, 4, 4, 4, 4, 4] := by
    unfold sizesM
    repeat (first | rw [if_pos (by omega)] | rw [if_neg (by omega)])
  have htn : textN 139 xs = none := by unfold textN; repeat (first | rw [if_pos (by omega)] | rw [if_neg (by omega)])
  have hx2 := HXS.out
  have hf2 := HF2.out
  have htx := HTX.out
  have hfr := HFR.out
  rw [hsz] at hx2 hf2
  rw [Fd.tail, htn, if_neg (by omega)] at htx hfr
  simp only at htx hfr
  have HA := args_call [4, 4, 4, 4, 4, 4, 4, 4, 4, 4, 4] 11 rfl (by omega) (by simp; try omega) H6.out
  rw [hx2, hf2] at HA
  simp only [intsL, List.map_cons, List.map_nil] at HA
  have HTX2 := Lib.hid htx
  have HFR2 := Lib.hid hfr
  have HAA := Lib.hid HA
  clear HA hx2 hf2 htn hsz htx hfr H6 HXS HF2 HTX HFR
  go_wp2_with fail
  refine Calls.mono HAA.out ?_
  rintro e w5 ⟨rfl, va, h5⟩
  have hx := h5
  rw [HFR2.out] at hx
  have H5 := Lib.hid (show FdAt W (pts (b2 + 1) (opO (139 : Nat) q va ⟨txt.toArray⟩) * (rowI va xs * (pts b2 (.cells #[.int .i64 0, .int .i64 0, .slice none 0 0, .string ⟨#[]⟩] 33) * A))) b cf cap fr w5 from by rw [← HTX2.out]; exact hx)
  clear h5 hx HAA
  (try go_upto_region 41 with fail)
  obtain ⟨va, hx⟩ : ∃ va, FdAt W (pts (b2 + 1) (opO (139 : Nat) q va ⟨txt.toArray⟩) * (rowI va xs * (pts b2 (.cells #[.int .i64 0, .int .i64 0, .slice none 0 0, .string ⟨#[]⟩] 33) * A))) b cf cap fr _ := ⟨_, H5.out⟩
  clear H5
  have HE := Lib.hid (hx.of_eq (show _ = pts (b2 + 1) (opO (139 : Nat) q _ ⟨txt.toArray⟩) * (pts b2 (.cells #[.int .i64 0, .int .i64 0, .slice none 0 0, .string ⟨#[]⟩] 33) * (rowI _ xs * A)) by ac_rfl))
  obtain ⟨va1, vc, hva, -⟩ := hx.sat.r.row_val
  subst hva
  obtain ⟨Y, h7, back⟩ := HE.out.focus
  have h8 := h7.asc
  have x0 := h8.cell (i := 0) rfl
  have x1 := h8.cell (i := 1) rfl
  have x2 := h8.cell (i := 2) rfl
  have x3 := h8.cell (i := 3) rfl
  have y0 := h8.r.asc.cell (i := 0) rfl
  have y1 := h8.r.asc.cell (i := 1) rfl
  have y2 := h8.r.asc.cell (i := 2) rfl
  have y3 := h8.r.asc.cell (i := 3) rfl
  have z0 := h8.r.asc.free (i := 0)
  have z1 := h8.r.asc.free (i := 1)
  have z2 := h8.r.asc.free (i := 2)
  have z3 := h8.r.asc.free (i := 3)
  have xb := h8.lt
  have yb := h8.r.asc.lt
  have h9 := (((((h8.of_eq (show _ = pts b2 (.cells #[.int .i64 0, .int .i64 0, .slice none 0 0, .string ⟨#[]⟩] 33) * ((rowI (.slice va1 xs.length vc) xs * A) * Y * pts (b2 + 1) (opO (139 : Nat) q (.slice va1 xs.length vc) ⟨txt.toArray⟩)) by ac_rfl)).set (i := 0) (v := .int .i64 ((139 : Nat) : Int))).set (i := 1) (v := .int .i64 (q : Int))).set (i := 2) (v := .slice va1 xs.length vc)).set (i := 3) (v := .string ⟨txt.toArray⟩))
  have HH := Lib.hid (back _ _ h9.r.l)
  have h10 := h9.cell (i := 0) rfl
  clear h7 back hx HE h8 h10
  have HRES := Lib.hid h9
  clear h9
  go_wp2
  (try simp only [Exit.inBlock, Exit.then])
  refine bodyPost_ret (v := .agg #[.int .i64 ((139 : Nat) : Int), .int .i64 (q : Int), .slice va1 xs.length vc, .string ⟨txt.toArray⟩]) (by unfold results; go_simp) rfl ?_
  rw [HCM.out]
  exact ⟨_, rfl, HH.out⟩

end Go.Proofs.Ytjeinldhbajknaa

/-
  A command out of a feed. Conditions: those that each theorem names.
-/
namespace Go.Proofs.Ytjeinldhbajknaa
open Go.RowKit Go.Sp Go.Conc
variable {W w w' : World} {A : HProp}

set_option maxRecDepth 100000 in
set_option maxHeartbeats 16000000 in
theorem op_140 {b cf cap : Nat} {f : Fd} (hb : 140 ≤ f.next.1 ∧ f.next.1 ≤ 142) (h : FdAt W A b cf cap f w) :
    Calls Try.prog 30 #[.pointer (some ⟨b, 0, none⟩)] w fun e w' => ∃ va, e = .returned (.agg #[.int .i64 f.cmd.1.code, .int .i64 f.cmd.1.at_, va, .string ⟨f.cmd.1.text.toArray⟩]) ∧ FdAt W (rowI va f.cmd.1.args * A) b cf cap f.cmd.2 w' := by
  have hat : ∃ s r, Sat W (pts b (.cells #[.chan (some cf), .int .i64 f.at_, .bool f.lost] 110) * (pts cf (chanO cap f.l true s r) * A)) w := h.2
  obtain ⟨s, r, hs⟩ := hat
  have c1 := hs.cell (i := 1) rfl
  have lb := hs.lt
  clear hs
  have h2 := (h.allocX (.cells #[.int .i64 0, .int .i64 0, .slice none 0 0, .string ⟨#[]⟩] 33)).allocX (opO 0 f.at_ (.slice none 0 0) ⟨#[]⟩)
  obtain ⟨b2, hb2⟩ : ∃ b2, w.heap.size = b2 := ⟨_, rfl⟩
  have lb2 := lb
  rw [hb2] at lb2
  rw [show (w.alloc (.cells #[.int .i64 0, .int .i64 0, .slice none 0 0, .string ⟨#[]⟩] 33)).heap.size = b2 + 1 by simp [hb2], hb2] at h2
  have H2 := Lib.hid h2
  have HN := Lib.hid (next_any h2)
  clear h h2
  go_enter Try.func30, Try.ntmps30
  go_upto_region 2 with fail
  generalize (w.alloc (.cells #[.int .i64 0, .int .i64 0, .slice none 0 0, .string ⟨#[]⟩] 33)).alloc (opO 0 f.at_ (.slice none 0 0) ⟨#[]⟩) = W2 at *
  clear c1 lb lb2 hb2
  have hlt := f.next_lt
  obtain ⟨c, hc⟩ : ∃ c, f.next.1 = c := ⟨_, rfl⟩
  obtain ⟨f1, hf1⟩ : ∃ f1, f.next.2 = f1 := ⟨_, rfl⟩
  obtain ⟨xs, hxs⟩ : ∃ xs, (f1.args (sizesM c) []).1 = xs := ⟨_, rfl⟩
  obtain ⟨f2, hf2⟩ : ∃ f2, (f1.args (sizesM c) []).2 = f2 := ⟨_, rfl⟩
  obtain ⟨txt, htxt⟩ : ∃ txt, (f2.tail c xs).1 = txt := ⟨_, rfl⟩
  obtain ⟨fr, hfr⟩ : ∃ fr, (f2.tail c xs).2 = fr := ⟨_, rfl⟩
  obtain ⟨q, hq⟩ : ∃ q, f.at_ = q := ⟨_, rfl⟩
  have HCM := Lib.hid (show f.cmd = (⟨c, q, xs, txt⟩, fr) by
    unfold Fd.cmd
    simp only [hc, hf1, hxs, hf2, htxt, hfr, hq])
  rw [hc] at hlt HN hb
  rw [hf1] at HN
  rw [hq] at HN H2
  rw [hq]
  have HXS := Lib.hid hxs
  have HF2 := Lib.hid hf2
  have HTX := Lib.hid htxt
  have HFR := Lib.hid hfr
  clear hc hf1 hxs hf2 htxt hfr hq
  go_wp2_with fail
  refine Calls.mono HN.out ?_
  rintro e w3 ⟨rfl, h3⟩
  have a0 := h3.sat.cell (i := 0) rfl
  have ab := h3.sat.lt
  have af := h3.sat.free (i := 0)
  obtain ⟨Y, h4, back⟩ := h3.focus
  have h5 := (h4.asc.set (i := 0) (v := .int .i64 (c : Int)))
  have h6 := back _ _ (show Sat W ((pts (b2 + 1) (opO c q (.slice none 0 0) ⟨#[]⟩) * (pts b2 (.cells #[.int .i64 0, .int .i64 0, .slice none 0 0, .string ⟨#[]⟩] 33) * A)) * Y) _ from Sat.asc' h5)
  have H6 := Lib.hid h6
  clear h3 h4 h5 h6 back H2 HN
  go_upto_region 3 with fail
  generalize w3.setCell ⟨b2 + 1, 0, none⟩ (.int .i64 (c : Int)) = W4 at *
  clear a0 ab af
  have a0 := H6.out.sat.cell (i := 0) rfl
  have ab := H6.out.sat.lt
  go_upto_block 0 with fail
  have g128 : (128 : Int) ≤ (c : Int) := by omega
  have g133 : (133 : Int) ≤ (c : Int) := by omega
  have g143 : ¬ (143 : Int) ≤ (c : Int) := by omega
  have g148 : ¬ (148 : Int) ≤ (c : Int) := by omega
  have g153 : ¬ (153 : Int) ≤ (c : Int) := by omega
  have g157 : ¬ (157 : Int) ≤ (c : Int) := by omega
  have g162 : ¬ (162 : Int) ≤ (c : Int) := by omega
  have g167 : ¬ (167 : Int) ≤ (c : Int) := by omega
  have g235 : ¬ (235 : Int) ≤ (c : Int) := by omega
  have g239 : ¬ (239 : Int) ≤ (c : Int) := by omega
  have g243 : ¬ (243 : Int) ≤ (c : Int) := by omega
  have l131 : ¬ (c : Int) ≤ (131 : Int) := by omega
  have l136 : ¬ (c : Int) ≤ (136 : Int) := by omega
  have l146 : (c : Int) ≤ (146 : Int) := by omega
  have l151 : (c : Int) ≤ (151 : Int) := by omega
  have l156 : (c : Int) ≤ (156 : Int) := by omega
  have l160 : (c : Int) ≤ (160 : Int) := by omega
  have l165 : (c : Int) ≤ (165 : Int) := by omega
  have l170 : (c : Int) ≤ (170 : Int) := by omega
  have l238 : (c : Int) ≤ (238 : Int) := by omega
  have l242 : (c : Int) ≤ (242 : Int) := by omega
  have l246 : (c : Int) ≤ (246 : Int) := by omega
  have e132 : ((c : Int) == 132) = false := by rw [beq_eq_false_iff_ne]; omega
  have e137 : ((c : Int) == 137) = false := by rw [beq_eq_false_iff_ne]; omega
  have e139 : ((c : Int) == 139) = false := by rw [beq_eq_false_iff_ne]; omega
  have e247 : ((c : Int) == 247) = false := by rw [beq_eq_false_iff_ne]; omega
  have e248 : ((c : Int) == 248) = false := by rw [beq_eq_false_iff_ne]; omega
  have e249 : ((c : Int) == 249) = false := by rw [beq_eq_false_iff_ne]; omega
  have t249 : ¬ (249 : Int) < (c : Int) := by omega
  have hsz : sizesM c = [] := by
    unfold sizesM
    repeat (first | rw [if_pos (by omega)] | rw [if_neg (by omega)])
  have htn : textN c xs = none := by unfold textN; repeat (first | rw [if_pos (by omega)] | rw [if_neg (by omega)])
  have hx2 := HXS.out
  have hf2 := HF2.out
  have htx := HTX.out
  have hfr := HFR.out
  rw [hsz] at hx2 hf2
  rw [Fd.tail, htn, if_neg (by omega)] at htx hfr
  simp only at htx hfr
  simp only [Fd.args] at hx2 hf2
  have H5 := Lib.hid (show FdAt W (pts (b2 + 1) (opO (c : Nat) q (.slice none 0 0) ⟨txt.toArray⟩) * (rowI (.slice none 0 0) xs * (pts b2 (.cells #[.int .i64 0, .int .i64 0, .slice none 0 0, .string ⟨#[]⟩] 33) * A))) b cf cap fr _ from by
    rw [← htx, ← hx2, ← hfr, ← hf2]
    exact H6.out.nilI.of_eq (show _ = pts (b2 + 1) (opO c q (.slice none 0 0) ⟨#[]⟩) * (rowI (.slice none 0 0) [] * (pts b2 (.cells #[.int .i64 0, .int .i64 0, .slice none 0 0, .string ⟨#[]⟩] 33) * A)) by ac_rfl))
  clear htn hsz htx hfr hx2 hf2 H6 HXS HF2 HTX HFR
  (try go_upto_region 41 with fail)
  obtain ⟨va, hx⟩ : ∃ va, FdAt W (pts (b2 + 1) (opO (c : Nat) q va ⟨txt.toArray⟩) * (rowI va xs * (pts b2 (.cells #[.int .i64 0, .int .i64 0, .slice none 0 0, .string ⟨#[]⟩] 33) * A))) b cf cap fr _ := ⟨_, H5.out⟩
  clear H5
  have HE := Lib.hid (hx.of_eq (show _ = pts (b2 + 1) (opO (c : Nat) q _ ⟨txt.toArray⟩) * (pts b2 (.cells #[.int .i64 0, .int .i64 0, .slice none 0 0, .string ⟨#[]⟩] 33) * (rowI _ xs * A)) by ac_rfl))
  obtain ⟨va1, vc, hva, -⟩ := hx.sat.r.row_val
  subst hva
  obtain ⟨Y, h7, back⟩ := HE.out.focus
  have h8 := h7.asc
  have x0 := h8.cell (i := 0) rfl
  have x1 := h8.cell (i := 1) rfl
  have x2 := h8.cell (i := 2) rfl
  have x3 := h8.cell (i := 3) rfl
  have y0 := h8.r.asc.cell (i := 0) rfl
  have y1 := h8.r.asc.cell (i := 1) rfl
  have y2 := h8.r.asc.cell (i := 2) rfl
  have y3 := h8.r.asc.cell (i := 3) rfl
  have z0 := h8.r.asc.free (i := 0)
  have z1 := h8.r.asc.free (i := 1)
  have z2 := h8.r.asc.free (i := 2)
  have z3 := h8.r.asc.free (i := 3)
  have xb := h8.lt
  have yb := h8.r.asc.lt
  have h9 := (((((h8.of_eq (show _ = pts b2 (.cells #[.int .i64 0, .int .i64 0, .slice none 0 0, .string ⟨#[]⟩] 33) * ((rowI (.slice va1 xs.length vc) xs * A) * Y * pts (b2 + 1) (opO (c : Nat) q (.slice va1 xs.length vc) ⟨txt.toArray⟩)) by ac_rfl)).set (i := 0) (v := .int .i64 ((c : Nat) : Int))).set (i := 1) (v := .int .i64 (q : Int))).set (i := 2) (v := .slice va1 xs.length vc)).set (i := 3) (v := .string ⟨txt.toArray⟩))
  have HH := Lib.hid (back _ _ h9.r.l)
  have h10 := h9.cell (i := 0) rfl
  clear h7 back hx HE h8 h10
  have HRES := Lib.hid h9
  clear h9
  go_wp2
  (try simp only [Exit.inBlock, Exit.then])
  refine bodyPost_ret (v := .agg #[.int .i64 ((c : Nat) : Int), .int .i64 (q : Int), .slice va1 xs.length vc, .string ⟨txt.toArray⟩]) (by unfold results; go_simp) rfl ?_
  rw [HCM.out]
  exact ⟨_, rfl, HH.out⟩
set_option maxRecDepth 100000 in
set_option maxHeartbeats 16000000 in
theorem op_143 {b cf cap : Nat} {f : Fd} (hb : 143 ≤ f.next.1 ∧ f.next.1 ≤ 146) (h : FdAt W A b cf cap f w) :
    Calls Try.prog 30 #[.pointer (some ⟨b, 0, none⟩)] w fun e w' => ∃ va, e = .returned (.agg #[.int .i64 f.cmd.1.code, .int .i64 f.cmd.1.at_, va, .string ⟨f.cmd.1.text.toArray⟩]) ∧ FdAt W (rowI va f.cmd.1.args * A) b cf cap f.cmd.2 w' := by
  have hat : ∃ s r, Sat W (pts b (.cells #[.chan (some cf), .int .i64 f.at_, .bool f.lost] 110) * (pts cf (chanO cap f.l true s r) * A)) w := h.2
  obtain ⟨s, r, hs⟩ := hat
  have c1 := hs.cell (i := 1) rfl
  have lb := hs.lt
  clear hs
  have h2 := (h.allocX (.cells #[.int .i64 0, .int .i64 0, .slice none 0 0, .string ⟨#[]⟩] 33)).allocX (opO 0 f.at_ (.slice none 0 0) ⟨#[]⟩)
  obtain ⟨b2, hb2⟩ : ∃ b2, w.heap.size = b2 := ⟨_, rfl⟩
  have lb2 := lb
  rw [hb2] at lb2
  rw [show (w.alloc (.cells #[.int .i64 0, .int .i64 0, .slice none 0 0, .string ⟨#[]⟩] 33)).heap.size = b2 + 1 by simp [hb2], hb2] at h2
  have H2 := Lib.hid h2
  have HN := Lib.hid (next_any h2)
  clear h h2
  go_enter Try.func30, Try.ntmps30
  go_upto_region 2 with fail
  generalize (w.alloc (.cells #[.int .i64 0, .int .i64 0, .slice none 0 0, .string ⟨#[]⟩] 33)).alloc (opO 0 f.at_ (.slice none 0 0) ⟨#[]⟩) = W2 at *
  clear c1 lb lb2 hb2
  have hlt := f.next_lt
  obtain ⟨c, hc⟩ : ∃ c, f.next.1 = c := ⟨_, rfl⟩
  obtain ⟨f1, hf1⟩ : ∃ f1, f.next.2 = f1 := ⟨_, rfl⟩
  obtain ⟨xs, hxs⟩ : ∃ xs, (f1.args (sizesM c) []).1 = xs := ⟨_, rfl⟩
  obtain ⟨f2, hf2⟩ : ∃ f2, (f1.args (sizesM c) []).2 = f2 := ⟨_, rfl⟩
  obtain ⟨txt, htxt⟩ : ∃ txt, (f2.tail c xs).1 = txt := ⟨_, rfl⟩
  obtain ⟨fr, hfr⟩ : ∃ fr, (f2.tail c xs).2 = fr := ⟨_, rfl⟩
  obtain ⟨q, hq⟩ : ∃ q, f.at_ = q := ⟨_, rfl⟩
  have HCM := Lib.hid (show f.cmd = (⟨c, q, xs, txt⟩, fr) by
    unfold Fd.cmd
    simp only [hc, hf1, hxs, hf2, htxt, hfr, hq])
  rw [hc] at hlt HN hb
  rw [hf1] at HN
  rw [hq] at HN H2
  rw [hq]
  have HXS := Lib.hid hxs
  have HF2 := Lib.hid hf2
  have HTX := Lib.hid htxt
  have HFR := Lib.hid hfr
  clear hc hf1 hxs hf2 htxt hfr hq
  go_wp2_with fail
  refine Calls.mono HN.out ?_
  rintro e w3 ⟨rfl, h3⟩
  have a0 := h3.sat.cell (i := 0) rfl
  have ab := h3.sat.lt
  have af := h3.sat.free (i := 0)
  obtain ⟨Y, h4, back⟩ := h3.focus
  have h5 := (h4.asc.set (i := 0) (v := .int .i64 (c : Int)))
  have h6 := back _ _ (show Sat W ((pts (b2 + 1) (opO c q (.slice none 0 0) ⟨#[]⟩) * (pts b2 (.cells #[.int .i64 0, .int .i64 0, .slice none 0 0, .string ⟨#[]⟩] 33) * A)) * Y) _ from Sat.asc' h5)
  have H6 := Lib.hid h6
  clear h3 h4 h5 h6 back H2 HN
  go_upto_region 3 with fail
  generalize w3.setCell ⟨b2 + 1, 0, none⟩ (.int .i64 (c : Int)) = W4 at *
  clear a0 ab af
  have a0 := H6.out.sat.cell (i := 0) rfl
  have ab := H6.out.sat.lt
  go_upto_block 0 with fail
  have g128 : (128 : Int) ≤ (c : Int) := by omega
  have g133 : (133 : Int) ≤ (c : Int) := by omega
  have g143 : (143 : Int) ≤ (c : Int) := by omega
  have g148 : ¬ (148 : Int) ≤ (c : Int) := by omega
  have g153 : ¬ (153 : Int) ≤ (c : Int) := by omega
  have g157 : ¬ (157 : Int) ≤ (c : Int) := by omega
  have g162 : ¬ (162 : Int) ≤ (c : Int) := by omega
  have g167 : ¬ (167 : Int) ≤ (c : Int) := by omega
  have g235 : ¬ (235 : Int) ≤ (c : Int) := by omega
  have g239 : ¬ (239 : Int) ≤ (c : Int) := by omega
  have g243 : ¬ (243 : Int) ≤ (c : Int) := by omega
  have l131 : ¬ (c : Int) ≤ (131 : Int) := by omega
  have l136 : ¬ (c : Int) ≤ (136 : Int) := by omega
  have l146 : (c : Int) ≤ (146 : Int) := by omega
  have l151 : (c : Int) ≤ (151 : Int) := by omega
  have l156 : (c : Int) ≤ (156 : Int) := by omega
  have l160 : (c : Int) ≤ (160 : Int) := by omega
  have l165 : (c : Int) ≤ (165 : Int) := by omega
  have l170 : (c : Int) ≤ (170 : Int) := by omega
  have l238 : (c : Int) ≤ (238 : Int) := by omega
  have l242 : (c : Int) ≤ (242 : Int) := by omega
  have l246 : (c : Int) ≤ (246 : Int) := by omega
  have e132 : ((c : Int) == 132) = false := by rw [beq_eq_false_iff_ne]; omega
  have e137 : ((c : Int) == 137) = false := by rw [beq_eq_false_iff_ne]; omega
  have e139 : ((c : Int) == 139) = false := by rw [beq_eq_false_iff_ne]; omega
  have e247 : ((c : Int) == 247) = false := by rw [beq_eq_false_iff_ne]; omega
  have e248 : ((c : Int) == 248) = false := by rw [beq_eq_false_iff_ne]; omega
  have e249 : ((c : Int) == 249) = false := by rw [beq_eq_false_iff_ne]; omega
  have t249 : ¬ (249 : Int) < (c : Int) := by omega
  have hsz : sizesM c = [142 - (c : Int)] := by
    unfold sizesM
    repeat (first | rw [if_pos (by omega)] | rw [if_neg (by omega)])
  have htn : textN c xs = none := by unfold textN; repeat (first | rw [if_pos (by omega)] | rw [if_neg (by omega)])
  have hx2 := HXS.out
  have hf2 := HF2.out
  have htx := HTX.out
  have hfr := HFR.out
  rw [hsz] at hx2 hf2
  rw [Fd.tail, htn, if_neg (by omega)] at htx hfr
  simp only at htx hfr
  have HA := args_call [142 - (c : Int)] 1 rfl (by omega) (by simp; try omega) H6.out
  rw [hx2, hf2] at HA
  simp only [intsL, List.map_cons, List.map_nil] at HA
  have HTX2 := Lib.hid htx
  have HFR2 := Lib.hid hfr
  have HAA := Lib.hid HA
  clear HA hx2 hf2 htn hsz htx hfr H6 HXS HF2 HTX HFR
  go_wp2_with fail
  refine Calls.mono HAA.out ?_
  rintro e w5 ⟨rfl, va, h5⟩
  have hx := h5
  rw [HFR2.out] at hx
  have H5 := Lib.hid (show FdAt W (pts (b2 + 1) (opO (c : Nat) q va ⟨txt.toArray⟩) * (rowI va xs * (pts b2 (.cells #[.int .i64 0, .int .i64 0, .slice none 0 0, .string ⟨#[]⟩] 33) * A))) b cf cap fr w5 from by rw [← HTX2.out]; exact hx)
  clear h5 hx HAA
  (try go_upto_region 41 with fail)
  obtain ⟨va, hx⟩ : ∃ va, FdAt W (pts (b2 + 1) (opO (c : Nat) q va ⟨txt.toArray⟩) * (rowI va xs * (pts b2 (.cells #[.int .i64 0, .int .i64 0, .slice none 0 0, .string ⟨#[]⟩] 33) * A))) b cf cap fr _ := ⟨_, H5.out⟩
  clear H5
  have HE := Lib.hid (hx.of_eq (show _ = pts (b2 + 1) (opO (c : Nat) q _ ⟨txt.toArray⟩) * (pts b2 (.cells #[.int .i64 0, .int .i64 0, .slice none 0 0, .string ⟨#[]⟩] 33) * (rowI _ xs * A)) by ac_rfl))
  obtain ⟨va1, vc, hva, -⟩ := hx.sat.r.row_val
  subst hva
  obtain ⟨Y, h7, back⟩ := HE.out.focus
  have h8 := h7.asc
  have x0 := h8.cell (i := 0) rfl
  have x1 := h8.cell (i := 1) rfl
  have x2 := h8.cell (i := 2) rfl
  have x3 := h8.cell (i := 3) rfl
  have y0 := h8.r.asc.cell (i := 0) rfl
  have y1 := h8.r.asc.cell (i := 1) rfl
  have y2 := h8.r.asc.cell (i := 2) rfl
  have y3 := h8.r.asc.cell (i := 3) rfl
  have z0 := h8.r.asc.free (i := 0)
  have z1 := h8.r.asc.free (i := 1)
  have z2 := h8.r.asc.free (i := 2)
  have z3 := h8.r.asc.free (i := 3)
  have xb := h8.lt
  have yb := h8.r.asc.lt
  have h9 := (((((h8.of_eq (show _ = pts b2 (.cells #[.int .i64 0, .int .i64 0, .slice none 0 0, .string ⟨#[]⟩] 33) * ((rowI (.slice va1 xs.length vc) xs * A) * Y * pts (b2 + 1) (opO (c : Nat) q (.slice va1 xs.length vc) ⟨txt.toArray⟩)) by ac_rfl)).set (i := 0) (v := .int .i64 ((c : Nat) : Int))).set (i := 1) (v := .int .i64 (q : Int))).set (i := 2) (v := .slice va1 xs.length vc)).set (i := 3) (v := .string ⟨txt.toArray⟩))
  have HH := Lib.hid (back _ _ h9.r.l)
  have h10 := h9.cell (i := 0) rfl
  clear h7 back hx HE h8 h10
  have HRES := Lib.hid h9
  clear h9
  go_wp2
  (try simp only [Exit.inBlock, Exit.then])
  refine bodyPost_ret (v := .agg #[.int .i64 ((c : Nat) : Int), .int .i64 (q : Int), .slice va1 xs.length vc, .string ⟨txt.toArray⟩]) (by unfold results; go_simp) rfl ?_
  rw [HCM.out]
  exact ⟨_, rfl, HH.out⟩
set_option maxRecDepth 100000 in
set_option maxHeartbeats 16000000 in
theorem op_147 {b cf cap : Nat} {f : Fd} (hb : f.next.1 = 147) (h : FdAt W A b cf cap f w) :
    Calls Try.prog 30 #[.pointer (some ⟨b, 0, none⟩)] w fun e w' => ∃ va, e = .returned (.agg #[.int .i64 f.cmd.1.code, .int .i64 f.cmd.1.at_, va, .string ⟨f.cmd.1.text.toArray⟩]) ∧ FdAt W (rowI va f.cmd.1.args * A) b cf cap f.cmd.2 w' := by
  have hat : ∃ s r, Sat W (pts b (.cells #[.chan (some cf), .int .i64 f.at_, .bool f.lost] 110) * (pts cf (chanO cap f.l true s r) * A)) w := h.2
  obtain ⟨s, r, hs⟩ := hat
  have c1 := hs.cell (i := 1) rfl
  have lb := hs.lt
  clear hs
  have h2 := (h.allocX (.cells #[.int .i64 0, .int .i64 0, .slice none 0 0, .string ⟨#[]⟩] 33)).allocX (opO 0 f.at_ (.slice none 0 0) ⟨#[]⟩)
  obtain ⟨b2, hb2⟩ : ∃ b2, w.heap.size = b2 := ⟨_, rfl⟩
  have lb2 := lb
  rw [hb2] at lb2
  rw [show (w.alloc (.cells #[.int .i64 0, .int .i64 0, .slice none 0 0, .string ⟨#[]⟩] 33)).heap.size = b2 + 1 by simp [hb2], hb2] at h2
  have H2 := Lib.hid h2
  have HN := Lib.hid (next_any h2)
  clear h h2
  go_enter Try.func30, Try.ntmps30
  go_upto_region 2 with fail
  generalize (w.alloc (.cells #[.int .i64 0, .int .i64 0, .slice none 0 0, .string ⟨#[]⟩] 33)).alloc (opO 0 f.at_ (.slice none 0 0) ⟨#[]⟩) = W2 at *
  clear c1 lb lb2 hb2
  have hlt := f.next_lt
  obtain ⟨c, hc⟩ : ∃ c, f.next.1 = c := ⟨_, rfl⟩
  obtain ⟨f1, hf1⟩ : ∃ f1, f.next.2 = f1 := ⟨_, rfl⟩
  obtain ⟨xs, hxs⟩ : ∃ xs, (f1.args (sizesM c) []).1 = xs := ⟨_, rfl⟩
  obtain ⟨f2, hf2⟩ : ∃ f2, (f1.args (sizesM c) []).2 = f2 := ⟨_, rfl⟩
  obtain ⟨txt, htxt⟩ : ∃ txt, (f2.tail c xs).1 = txt := ⟨_, rfl⟩
  obtain ⟨fr, hfr⟩ : ∃ fr, (f2.tail c xs).2 = fr := ⟨_, rfl⟩
  obtain ⟨q, hq⟩ : ∃ q, f.at_ = q := ⟨_, rfl⟩
  have HCM := Lib.hid (show f.cmd = (⟨c, q, xs, txt⟩, fr) by
    unfold Fd.cmd
    simp only [hc, hf1, hxs, hf2, htxt, hfr, hq])
  rw [hc] at hlt HN hb
  rw [hf1] at HN
  rw [hq] at HN H2
  rw [hq]
  have HXS := Lib.hid hxs
  have HF2 := Lib.hid hf2
  have HTX := Lib.hid htxt
  have HFR := Lib.hid hfr
  clear hc hf1 hxs hf2 htxt hfr hq
  subst hb
  go_wp2_with fail
  refine Calls.mono HN.out ?_
  rintro e w3 ⟨rfl, h3⟩
  have a0 := h3.sat.cell (i := 0) rfl
  have ab := h3.sat.lt
  have af := h3.sat.free (i := 0)
  obtain ⟨Y, h4, back⟩ := h3.focus
  have h5 := (h4.asc.set (i := 0) (v := .int .i64 ((147 : Nat) : Int)))
  have h6 := back _ _ (show Sat W ((pts (b2 + 1) (opO (147 : Nat) q (.slice none 0 0) ⟨#[]⟩) * (pts b2 (.cells #[.int .i64 0, .int .i64 0, .slice none 0 0, .string ⟨#[]⟩] 33) * A)) * Y) _ from Sat.asc' h5)
  have H6 := Lib.hid h6
  clear h3 h4 h5 h6 back H2 HN
  go_upto_region 3 with fail
  generalize w3.setCell ⟨b2 + 1, 0, none⟩ (.int .i64 ((147 : Nat) : Int)) = W4 at *
  clear a0 ab af
  have a0 := H6.out.sat.cell (i := 0) rfl
  have ab := H6.out.sat.lt
  go_upto_block 0 with fail
  have hsz : sizesM 147 = [] := by
    unfold sizesM
    repeat (first | rw [if_pos (by omega)] | rw [if_neg (by omega)])
  have htn : textN 147 xs = none := by unfold textN; repeat (first | rw [if_pos (by omega)] | rw [if_neg (by omega)])
  have hx2 := HXS.out
  have hf2 := HF2.out
  have htx := HTX.out
  have hfr := HFR.out
  rw [hsz] at hx2 hf2
  rw [Fd.tail, htn, if_neg (by omega)] at htx hfr
  simp only at htx hfr
  simp only [Fd.args] at hx2 hf2
  have H5 := Lib.hid (show FdAt W (pts (b2 + 1) (opO (147 : Nat) q (.slice none 0 0) ⟨txt.toArray⟩) * (rowI (.slice none 0 0) xs * (pts b2 (.cells #[.int .i64 0, .int .i64 0, .slice none 0 0, .string ⟨#[]⟩] 33) * A))) b cf cap fr _ from by
    rw [← htx, ← hx2, ← hfr, ← hf2]
    exact H6.out.nilI.of_eq (show _ = pts (b2 + 1) (opO 147 q (.slice none 0 0) ⟨#[]⟩) * (rowI (.slice none 0 0) [] * (pts b2 (.cells #[.int .i64 0, .int .i64 0, .slice none 0 0, .string ⟨#[]⟩] 33) * A)) by ac_rfl))
  clear htn hsz htx hfr hx2 hf2 H6 HXS HF2 HTX HFR
  (try go_upto_region 41 with fail)
  obtain ⟨va, hx⟩ : ∃ va, FdAt W (pts (b2 + 1) (opO (147 : Nat) q va ⟨txt.toArray⟩) * (rowI va xs * (pts b2 (.cells #[.int .i64 0, .int .i64 0, .slice none 0 0, .string ⟨#[]⟩] 33) * A))) b cf cap fr _ := ⟨_, H5.out⟩
  clear H5
  have HE := Lib.hid (hx.of_eq (show _ = pts (b2 + 1) (opO (147 : Nat) q _ ⟨txt.toArray⟩) * (pts b2 (.cells #[.int .i64 0, .int .i64 0, .slice none 0 0, .string ⟨#[]⟩] 33) * (rowI _ xs * A)) by ac_rfl))
  obtain ⟨va1, vc, hva, -⟩ := hx.sat.r.row_val
  subst hva
  obtain ⟨Y, h7, back⟩ := HE.out.focus
  have h8 := h7.asc
  have x0 := h8.cell (i := 0) rfl
  have x1 := h8.cell (i := 1) rfl
  have x2 := h8.cell (i := 2) rfl
  have x3 := h8.cell (i := 3) rfl
  have y0 := h8.r.asc.cell (i := 0) rfl
  have y1 := h8.r.asc.cell (i := 1) rfl
  have y2 := h8.r.asc.cell (i := 2) rfl
  have y3 := h8.r.asc.cell (i := 3) rfl
  have z0 := h8.r.asc.free (i := 0)
  have z1 := h8.r.asc.free (i := 1)
  have z2 := h8.r.asc.free (i := 2)
  have z3 := h8.r.asc.free (i := 3)
  have xb := h8.lt
  have yb := h8.r.asc.lt
  have h9 := (((((h8.of_eq (show _ = pts b2 (.cells #[.int .i64 0, .int .i64 0, .slice none 0 0, .string ⟨#[]⟩] 33) * ((rowI (.slice va1 xs.length vc) xs * A) * Y * pts (b2 + 1) (opO (147 : Nat) q (.slice va1 xs.length vc) ⟨txt.toArray⟩)) by ac_rfl)).set (i := 0) (v := .int .i64 ((147 : Nat) : Int))).set (i := 1) (v := .int .i64 (q : Int))).set (i := 2) (v := .slice va1 xs.length vc)).set (i := 3) (v := .string ⟨txt.toArray⟩))
  have HH := Lib.hid (back _ _ h9.r.l)
  have h10 := h9.cell (i := 0) rfl
  clear h7 back hx HE h8 h10
  have HRES := Lib.hid h9
  clear h9
  go_wp2
  (try simp only [Exit.inBlock, Exit.then])
  refine bodyPost_ret (v := .agg #[.int .i64 ((147 : Nat) : Int), .int .i64 (q : Int), .slice va1 xs.length vc, .string ⟨txt.toArray⟩]) (by unfold results; go_simp) rfl ?_
  rw [HCM.out]
  exact ⟨_, rfl, HH.out⟩
set_option maxRecDepth 100000 in
set_option maxHeartbeats 16000000 in
theorem op_148 {b cf cap : Nat} {f : Fd} (hb : 148 ≤ f.next.1 ∧ f.next.1 ≤ 151) (h : FdAt W A b cf cap f w) :
    Calls Try.prog 30 #[.pointer (some ⟨b, 0, none⟩)] w fun e w' => ∃ va, e = .returned (.agg #[.int .i64 f.cmd.1.code, .int .i64 f.cmd.1.at_, va, .string ⟨f.cmd.1.text.toArray⟩]) ∧ FdAt W (rowI va f.cmd.1.args * A) b cf cap f.cmd.2 w' := by
  have hat : ∃ s r, Sat W (pts b (.cells #[.chan (some cf), .int .i64 f.at_, .bool f.lost] 110) * (pts cf (chanO cap f.l true s r) * A)) w := h.2
  obtain ⟨s, r, hs⟩ := hat
  have c1 := hs.cell (i := 1) rfl
  have lb := hs.lt
  clear hs
  have h2 := (h.allocX (.cells #[.int .i64 0, .int .i64 0, .slice none 0 0, .string ⟨#[]⟩] 33)).allocX (opO 0 f.at_ (.slice none 0 0) ⟨#[]⟩)
  obtain ⟨b2, hb2⟩ : ∃ b2, w.heap.size = b2 := ⟨_, rfl⟩
  have lb2 := lb
  rw [hb2] at lb2
  rw [show (w.alloc (.cells #[.int .i64 0, .int .i64 0, .slice none 0 0, .string ⟨#[]⟩] 33)).heap.size = b2 + 1 by simp [hb2], hb2] at h2
  have H2 := Lib.hid h2
  have HN := Lib.hid (next_any h2)
  clear h h2
  go_enter Try.func30, Try.ntmps30
  go_upto_region 2 with fail
  generalize (w.alloc (.cells #[.int .i64 0, .int .i64 0, .slice none 0 0, .string ⟨#[]⟩] 33)).alloc (opO 0 f.at_ (.slice none 0 0) ⟨#[]⟩) = W2 at *
  clear c1 lb lb2 hb2
  have hlt := f.next_lt
  obtain ⟨c, hc⟩ : ∃ c, f.next.1 = c := ⟨_, rfl⟩
  obtain ⟨f1, hf1⟩ : ∃ f1, f.next.2 = f1 := ⟨_, rfl⟩
  obtain ⟨xs, hxs⟩ : ∃ xs, (f1.args (sizesM c) []).1 = xs := ⟨_, rfl⟩
  obtain ⟨f2, hf2⟩ : ∃ f2, (f1.args (sizesM c) []).2 = f2 := ⟨_, rfl⟩
  obtain ⟨txt, htxt⟩ : ∃ txt, (f2.tail c xs).1 = txt := ⟨_, rfl⟩
  obtain ⟨fr, hfr⟩ : ∃ fr, (f2.tail c xs).2 = fr := ⟨_, rfl⟩
  obtain ⟨q, hq⟩ : ∃ q, f.at_ = q := ⟨_, rfl⟩
  have HCM := Lib.hid (show f.cmd = (⟨c, q, xs, txt⟩, fr) by
    unfold Fd.cmd
    simp only [hc, hf1, hxs, hf2, htxt, hfr, hq])
  rw [hc] at hlt HN hb
  rw [hf1] at HN
  rw [hq] at HN H2
  rw [hq]
  have HXS := Lib.hid hxs
  have HF2 := Lib.hid hf2
  have HTX := Lib.hid htxt
  have HFR := Lib.hid hfr
  clear hc hf1 hxs hf2 htxt hfr hq
  go_wp2_with fail
  refine Calls.mono HN.out ?_
  rintro e w3 ⟨rfl, h3⟩
  have a0 := h3.sat.cell (i := 0) rfl
  have ab := h3.sat.lt
  have af := h3.sat.free (i := 0)
  obtain ⟨Y, h4, back⟩ := h3.focus
  have h5 := (h4.asc.set (i := 0) (v := .int .i64 (c : Int)))
  have h6 := back _ _ (show Sat W ((pts (b2 + 1) (opO c q (.slice none 0 0) ⟨#[]⟩) * (pts b2 (.cells #[.int .i64 0, .int .i64 0, .slice none 0 0, .string ⟨#[]⟩] 33) * A)) * Y) _ from Sat.asc' h5)
  have H6 := Lib.hid h6
  clear h3 h4 h5 h6 back H2 HN
  go_upto_region 3 with fail
  generalize w3.setCell ⟨b2 + 1, 0, none⟩ (.int .i64 (c : Int)) = W4 at *
  clear a0 ab af
  have a0 := H6.out.sat.cell (i := 0) rfl
  have ab := H6.out.sat.lt
  go_upto_block 0 with fail
  have g128 : (128 : Int) ≤ (c : Int) := by omega
  have g133 : (133 : Int) ≤ (c : Int) := by omega
  have g143 : (143 : Int) ≤ (c : Int) := by omega
  have g148 : (148 : Int) ≤ (c : Int) := by omega
  have g153 : ¬ (153 : Int) ≤ (c : Int) := by omega
  have g157 : ¬ (157 : Int) ≤ (c : Int) := by omega
  have g162 : ¬ (162 : Int) ≤ (c : Int) := by omega
  have g167 : ¬ (167 : Int) ≤ (c : Int) := by omega
  have g235 : ¬ (235 : Int) ≤ (c : Int) := by omega
  have g239 : ¬ (239 : Int) ≤ (c : Int) := by omega
  have g243 : ¬ (243 : Int) ≤ (c : Int) := by omega
  have l131 : ¬ (c : Int) ≤ (131 : Int) := by omega
  have l136 : ¬ (c : Int) ≤ (136 : Int) := by omega
  have l146 : ¬ (c : Int) ≤ (146 : Int) := by omega
  have l151 : (c : Int) ≤ (151 : Int) := by omega
  have l156 : (c : Int) ≤ (156 : Int) := by omega
  have l160 : (c : Int) ≤ (160 : Int) := by omega
  have l165 : (c : Int) ≤ (165 : Int) := by omega
  have l170 : (c : Int) ≤ (170 : Int) := by omega
  have l238 : (c : Int) ≤ (238 : Int) := by omega
  have l242 : (c : Int) ≤ (242 : Int) := by omega
  have l246 : (c : Int) ≤ (246 : Int) := by omega
  have e132 : ((c : Int) == 132) = false := by rw [beq_eq_false_iff_ne]; omega
  have e137 : ((c : Int) == 137) = false := by rw [beq_eq_false_iff_ne]; omega
  have e139 : ((c : Int) == 139) = false := by rw [beq_eq_false_iff_ne]; omega
  have e247 : ((c : Int) == 247) = false := by rw [beq_eq_false_iff_ne]; omega
  have e248 : ((c : Int) == 248) = false := by rw [beq_eq_false_iff_ne]; omega
  have e249 : ((c : Int) == 249) = false := by rw [beq_eq_false_iff_ne]; omega
  have t249 : ¬ (249 : Int) < (c : Int) := by omega
  have hsz : sizesM c = [147 - (c : Int)] := by
    unfold sizesM
    repeat (first | rw [if_pos (by omega)] | rw [if_neg (by omega)])
  have htn : textN c xs = none := by unfold textN; repeat (first | rw [if_pos (by omega)] | rw [if_neg (by omega)])
  have hx2 := HXS.out
  have hf2 := HF2.out
  have htx := HTX.out
  have hfr := HFR.out
  rw [hsz] at hx2 hf2
  rw [Fd.tail, htn, if_neg (by omega)] at htx hfr
  simp only at htx hfr
  have HA := args_call [147 - (c : Int)] 1 rfl (by omega) (by simp; try omega) H6.out
  rw [hx2, hf2] at HA
  simp only [intsL, List.map_cons, List.map_nil] at HA
  have HTX2 := Lib.hid htx
  have HFR2 := Lib.hid hfr
  have HAA := Lib.hid HA
  clear HA hx2 hf2 htn hsz htx hfr H6 HXS HF2 HTX HFR
  go_wp2_with fail
  refine Calls.mono HAA.out ?_
  rintro e w5 ⟨rfl, va, h5⟩
  have hx := h5
  rw [HFR2.out] at hx
  have H5 := Lib.hid (show FdAt W (pts (b2 + 1) (opO (c : Nat) q va ⟨txt.toArray⟩) * (rowI va xs * (pts b2 (.cells #[.int .i64 0, .int .i64 0, .slice none 0 0, .string ⟨#[]⟩] 33) * A))) b cf cap fr w5 from by rw [← HTX2.out]; exact hx)
  clear h5 hx HAA
  (try go_upto_region 41 with fail)
  obtain ⟨va, hx⟩ : ∃ va, FdAt W (pts (b2 + 1) (opO (c : Nat) q va ⟨txt.toArray⟩) * (rowI va xs * (pts b2 (.cells #[.int .i64 0, .int .i64 0, .slice none 0 0, .string ⟨#[]⟩] 33) * A))) b cf cap fr _ := ⟨_, H5.out⟩
  clear H5
  have HE := Lib.hid (hx.of_eq (show _ = pts (b2 + 1) (opO (c : Nat) q _ ⟨txt.toArray⟩) * (pts b2 (.cells #[.int .i64 0, .int .i64 0, .slice none 0 0, .string ⟨#[]⟩] 33) * (rowI _ xs * A)) by ac_rfl))
  obtain ⟨va1, vc, hva, -⟩ := hx.sat.r.row_val
  subst hva
  obtain ⟨Y, h7, back⟩ := HE.out.focus
  have h8 := h7.asc
  have x0 := h8.cell (i := 0) rfl
  have x1 := h8.cell (i := 1) rfl
  have x2 := h8.cell (i := 2) rfl
  have x3 := h8.cell (i := 3) rfl
  have y0 := h8.r.asc.cell (i := 0) rfl
  have y1 := h8.r.asc.cell (i := 1) rfl
  have y2 := h8.r.asc.cell (i := 2) rfl
  have y3 := h8.r.asc.cell (i := 3) rfl
  have z0 := h8.r.asc.free (i := 0)
  have z1 := h8.r.asc.free (i := 1)
  have z2 := h8.r.asc.free (i := 2)
  have z3 := h8.r.asc.free (i := 3)
  have xb := h8.lt
  have yb := h8.r.asc.lt
  have h9 := (((((h8.of_eq (show _ = pts b2 (.cells #[.int .i64 0, .int .i64 0, .slice none 0 0, .string ⟨#[]⟩] 33) * ((rowI (.slice va1 xs.length vc) xs * A) * Y * pts (b2 + 1) (opO (c : Nat) q (.slice va1 xs.length vc) ⟨txt.toArray⟩)) by ac_rfl)).set (i := 0) (v := .int .i64 ((c : Nat) : Int))).set (i := 1) (v := .int .i64 (q : Int))).set (i := 2) (v := .slice va1 xs.length vc)).set (i := 3) (v := .string ⟨txt.toArray⟩))
  have HH := Lib.hid (back _ _ h9.r.l)
  have h10 := h9.cell (i := 0) rfl
  clear h7 back hx HE h8 h10
  have HRES := Lib.hid h9
  clear h9
  go_wp2
  (try simp only [Exit.inBlock, Exit.then])
  refine bodyPost_ret (v := .agg #[.int .i64 ((c : Nat) : Int), .int .i64 (q : Int), .slice va1 xs.length vc, .string ⟨txt.toArray⟩]) (by unfold results; go_simp) rfl ?_
  rw [HCM.out]
  exact ⟨_, rfl, HH.out⟩
set_option maxRecDepth 100000 in
set_option maxHeartbeats 16000000 in
theorem op_152 {b cf cap : Nat} {f : Fd} (hb : f.next.1 = 152) (h : FdAt W A b cf cap f w) :
    Calls Try.prog 30 #[.pointer (some ⟨b, 0, none⟩)] w fun e w' => ∃ va, e = .returned (.agg #[.int .i64 f.cmd.1.code, .int .i64 f.cmd.1.at_, va, .string ⟨f.cmd.1.text.toArray⟩]) ∧ FdAt W (rowI va f.cmd.1.args * A) b cf cap f.cmd.2 w' := by
  have hat : ∃ s r, Sat W (pts b (.cells #[.chan (some cf), .int .i64 f.at_, .bool f.lost] 110) * (pts cf (chanO cap f.l true s r) * A)) w := h.2
  obtain ⟨s, r, hs⟩ := hat
  have c1 := hs.cell (i := 1) rfl
  have lb := hs.lt
  clear hs
  have h2 := (h.allocX (.cells #[.int .i64 0, .int .i64 0, .slice none 0 0, .string ⟨#[]⟩] 33)).allocX (opO 0 f.at_ (.slice none 0 0) ⟨#[]⟩)
  obtain ⟨b2, hb2⟩ : ∃ b2, w.heap.size = b2 := ⟨_, rfl⟩
  have lb2 := lb
  rw [hb2] at lb2
  rw [show (w.alloc (.cells #[.int .i64 0, .int .i64 0, .slice none 0 0, .string ⟨#[]⟩] 33)).heap.size = b2 + 1 by simp [hb2], hb2] at h2
  have H2 := Lib.hid h2
  have HN := Lib.hid (next_any h2)
  clear h h2
  go_enter Try.func30, Try.ntmps30
  go_upto_region 2 with fail
  generalize (w.alloc (.cells #[.int .i64 0, .int .i64 0, .slice none 0 0, .string ⟨#[]⟩] 33)).alloc (opO 0 f.at_ (.slice none 0 0) ⟨#[]⟩) = W2 at *
  clear c1 lb lb2 hb2
  have hlt := f.next_lt
  obtain ⟨c, hc⟩ : ∃ c, f.next.1 = c := ⟨_, rfl⟩
  obtain ⟨f1, hf1⟩ : ∃ f1, f.next.2 = f1 := ⟨_, rfl⟩
  obtain ⟨xs, hxs⟩ : ∃ xs, (f1.args (sizesM c) []).1 = xs := ⟨_, rfl⟩
  obtain ⟨f2, hf2⟩ : ∃ f2, (f1.args (sizesM c) []).2 = f2 := ⟨_, rfl⟩
  obtain ⟨txt, htxt⟩ : ∃ txt, (f2.tail c xs).1 = txt := ⟨_, rfl⟩
  obtain ⟨fr, hfr⟩ : ∃ fr, (f2.tail c xs).2 = fr := ⟨_, rfl⟩
  obtain ⟨q, hq⟩ : ∃ q, f.at_ = q := ⟨_, rfl⟩
  have HCM := Lib.hid (show f.cmd = (⟨c, q, xs, txt⟩, fr) by
    unfold Fd.cmd
    simp only [hc, hf1, hxs, hf2, htxt, hfr, hq])
  rw [hc] at hlt HN hb
  rw [hf1] at HN
  rw [hq] at HN H2
  rw [hq]
  have HXS := Lib.hid hxs
  have HF2 := Lib.hid hf2
  have HTX := Lib.hid htxt
  have HFR := Lib.hid hfr
  clear hc hf1 hxs hf2 htxt hfr hq
  subst hb
  go_wp2_with fail
  refine Calls.mono HN.out ?_
  rintro e w3 ⟨rfl, h3⟩
  have a0 := h3.sat.cell (i := 0) rfl
  have ab := h3.sat.lt
  have af := h3.sat.free (i := 0)
  obtain ⟨Y, h4, back⟩ := h3.focus
  have h5 := (h4.asc.set (i := 0) (v := .int .i64 ((152 : Nat) : Int)))
  have h6 := back _ _ (show Sat W ((pts (b2 + 1) (opO (152 : Nat) q (.slice none 0 0) ⟨#[]⟩) * (pts b2 (.cells #[.int .i64 0, .int .i64 0, .slice none 0 0, .string ⟨#[]⟩] 33) * A)) * Y) _ from Sat.asc' h5)
  have H6 := Lib.hid h6
  clear h3 h4 h5 h6 back H2 HN
  go_upto_region 3 with fail
  generalize w3.setCell ⟨b2 + 1, 0, none⟩ (.int .i64 ((152 : Nat) : Int)) = W4 at *
  clear a0 ab af
  have a0 := H6.out.sat.cell (i := 0) rfl
  have ab := H6.out.sat.lt
  go_upto_block 0 with fail
  have hsz : sizesM 152 = [] := by
    unfold sizesM
    repeat (first | rw [if_pos (by omega)] | rw [if_neg (by omega)])
  have htn : textN 152 xs = none := by unfold textN; repeat (first | rw [if_pos (by omega)] | rw [if_neg (by omega)])
  have hx2 := HXS.out
  have hf2 := HF2.out
  have htx := HTX.out
  have hfr := HFR.out
  rw [hsz] at hx2 hf2
  rw [Fd.tail, htn, if_neg (by omega)] at htx hfr
  simp only at htx hfr
  simp only [Fd.args] at hx2 hf2
  have H5 := Lib.hid (show FdAt W (pts (b2 + 1) (opO (152 : Nat) q (.slice none 0 0) ⟨txt.toArray⟩) * (rowI (.slice none 0 0) xs * (pts b2 (.cells #[.int .i64 0, .int .i64 0, .slice none 0 0, .string ⟨#[]⟩] 33) * A))) b cf cap fr _ from by
    rw [← htx, ← hx2, ← hfr, ← hf2]
    exact H6.out.nilI.of_eq (show _ = pts (b2 + 1) (opO 152 q (.slice none 0 0) ⟨#[]⟩) * (rowI (.slice none 0 0) [] * (pts b2 (.cells #[.int .i64 0, .int .i64 0, .slice none 0 0, .string ⟨#[]⟩] 33) * A)) by ac_rfl))
  clear htn hsz htx hfr hx2 hf2 H6 HXS HF2 HTX HFR
  (try go_upto_region 41 with fail)
  obtain ⟨va, hx⟩ : ∃ va, FdAt W (pts (b2 + 1) (opO (152 : Nat) q va ⟨txt.toArray⟩) * (rowI va xs * (pts b2 (.cells #[.int .i64 0, .int .i64 0, .slice none 0 0, .string ⟨#[]⟩] 33) * A))) b cf cap fr _ := ⟨_, H5.out⟩
  clear H5
  have HE := Lib.hid (hx.of_eq (show _ = pts (b2 + 1) (opO (152 : Nat) q _ ⟨txt.toArray⟩) * (pts b2 (.cells #[.int .i64 0, .int .i64 0, .slice none 0 0, .string ⟨#[]⟩] 33) * (rowI _ xs * A)) by ac_rfl))
  obtain ⟨va1, vc, hva, -⟩ := hx.sat.r.row_val
  subst hva
  obtain ⟨Y, h7, back⟩ := HE.out.focus
  have h8 := h7.asc
  have x0 := h8.cell (i := 0) rfl
  have x1 := h8.cell (i := 1) rfl
  have x2 := h8.cell (i := 2) rfl
  have x3 := h8.cell (i := 3) rfl
  have y0 := h8.r.asc.cell (i := 0) rfl
  have y1 := h8.r.asc.cell (i := 1) rfl
  have y2 := h8.r.asc.cell (i := 2) rfl
  have y3 := h8.r.asc.cell (i := 3) rfl
  have z0 := h8.r.asc.free (i := 0)
  have z1 := h8.r.asc.free (i := 1)
  have z2 := h8.r.asc.free (i := 2)
  have z3 := h8.r.asc.free (i := 3)
  have xb := h8.lt
  have yb := h8.r.asc.lt
  have h9 := (((((h8.of_eq (show _ = pts b2 (.cells #[.int .i64 0, .int .i64 0, .slice none 0 0, .string ⟨#[]⟩] 33) * ((rowI (.slice va1 xs.length vc) xs * A) * Y * pts (b2 + 1) (opO (152 : Nat) q (.slice va1 xs.length vc) ⟨txt.toArray⟩)) by ac_rfl)).set (i := 0) (v := .int .i64 ((152 : Nat) : Int))).set (i := 1) (v := .int .i64 (q : Int))).set (i := 2) (v := .slice va1 xs.length vc)).set (i := 3) (v := .string ⟨txt.toArray⟩))
  have HH := Lib.hid (back _ _ h9.r.l)
  have h10 := h9.cell (i := 0) rfl
  clear h7 back hx HE h8 h10
  have HRES := Lib.hid h9
  clear h9
  go_wp2
  (try simp only [Exit.inBlock, Exit.then])
  refine bodyPost_ret (v := .agg #[.int .i64 ((152 : Nat) : Int), .int .i64 (q : Int), .slice va1 xs.length vc, .string ⟨txt.toArray⟩]) (by unfold results; go_simp) rfl ?_
  rw [HCM.out]
  exact ⟨_, rfl, HH.out⟩
set_option maxRecDepth 100000 in
set_option maxHeartbeats 16000000 in
theorem op_153 {b cf cap : Nat} {f : Fd} (hb : 153 ≤ f.next.1 ∧ f.next.1 ≤ 156) (h : FdAt W A b cf cap f w) :
    Calls Try.prog 30 #[.pointer (some ⟨b, 0, none⟩)] w fun e w' => ∃ va, e = .returned (.agg #[.int .i64 f.cmd.1.code, .int .i64 f.cmd.1.at_, va, .string ⟨f.cmd.1.text.toArray⟩]) ∧ FdAt W (rowI va f.cmd.1.args * A) b cf cap f.cmd.2 w' := by
  have hat : ∃ s r, Sat W (pts b (.cells #[.chan (some cf), .int .i64 f.at_, .bool f.lost] 110) * (pts cf (chanO cap f.l true s r) * A)) w := h.2
  obtain ⟨s, r, hs⟩ := hat
  have c1 := hs.cell (i := 1) rfl
  have lb := hs.lt
  clear hs
  have h2 := (h.allocX (.cells #[.int .i64 0, .int .i64 0, .slice none 0 0, .string ⟨#[]⟩] 33)).allocX (opO 0 f.at_ (.slice none 0 0) ⟨#[]⟩)
  obtain ⟨b2, hb2⟩ : ∃ b2, w.heap.size = b2 := ⟨_, rfl⟩
  have lb2 := lb
  rw [hb2] at lb2
  rw [show (w.alloc (.cells #[.int .i64 0, .int .i64 0, .slice none 0 0, .string ⟨#[]⟩] 33)).heap.size = b2 + 1 by simp [hb2], hb2] at h2
  have H2 := Lib.hid h2
  have HN := Lib.hid (next_any h2)
  clear h h2
  go_enter Try.func30, Try.ntmps30
  go_upto_region 2 with fail
  generalize (w.alloc (.cells #[.int .i64 0, .int .i64 0, .slice none 0 0, .string ⟨#[]⟩] 33)).alloc (opO 0 f.at_ (.slice none 0 0) ⟨#[]⟩) = W2 at *
  clear c1 lb lb2 hb2
  have hlt := f.next_lt
  obtain ⟨c, hc⟩ : ∃ c, f.next.1 = c := ⟨_, rfl⟩
  obtain ⟨f1, hf1⟩ : ∃ f1, f.next.2 = f1 := ⟨_, rfl⟩
  obtain ⟨xs, hxs⟩ : ∃ xs, (f1.args (sizesM c) []).1 = xs := ⟨_, rfl⟩
  obtain ⟨f2, hf2⟩ : ∃ f2, (f1.args (sizesM c) []).2 = f2 := ⟨_, rfl⟩
  obtain ⟨txt, htxt⟩ : ∃ txt, (f2.tail c xs).1 = txt := ⟨_, rfl⟩
  obtain ⟨fr, hfr⟩ : ∃ fr, (f2.tail c xs).2 = fr := ⟨_, rfl⟩
  obtain ⟨q, hq⟩ : ∃ q, f.at_ = q := ⟨_, rfl⟩
  have HCM := Lib.hid (show f.cmd = (⟨c, q, xs, txt⟩, fr) by
    unfold Fd.cmd
    simp only [hc, hf1, hxs, hf2, htxt, hfr, hq])
  rw [hc] at hlt HN hb
  rw [hf1] at HN
  rw [hq] at HN H2
  rw [hq]
  have HXS := Lib.hid hxs
  have HF2 := Lib.hid hf2
  have HTX := Lib.hid htxt
  have HFR := Lib.hid hfr
  clear hc hf1 hxs hf2 htxt hfr hq
  go_wp2_with fail
  refine Calls.mono HN.out ?_
  rintro e w3 ⟨rfl, h3⟩
  have a0 := h3.sat.cell (i := 0) rfl
  have ab := h3.sat.lt
  have af := h3.sat.free (i := 0)
  obtain ⟨Y, h4, back⟩ := h3.focus
  have h5 := (h4.asc.set (i := 0) (v := .int .i64 (c : Int)))
  have h6 := back _ _ (show Sat W ((pts (b2 + 1) (opO c q (.slice none 0 0) ⟨#[]⟩) * (pts b2 (.cells #[.int .i64 0, .int .i64 0, .slice none 0 0, .string ⟨#[]⟩] 33) * A)) * Y) _ from Sat.asc' h5)
  have H6 := Lib.hid h6
  clear h3 h4 h5 h6 back H2 HN
  go_upto_region 3 with fail
  generalize w3.setCell ⟨b2 + 1, 0, none⟩ (.int .i64 (c : Int)) = W4 at *
  clear a0 ab af
  have a0 := H6.out.sat.cell (i := 0) rfl
  have ab := H6.out.sat.lt
  go_upto_block 0 with fail
  have g128 : (128 : Int) ≤ (c : Int) := by omega
  have g133 : (133 : Int) ≤ (c : Int) := by omega
  have g143 : (143 : Int) ≤ (c : Int) := by omega
  have g148 : (148 : Int) ≤ (c : Int) := by omega
  have g153 : (153 : Int) ≤ (c : Int) := by omega
  have g157 : ¬ (157 : Int) ≤ (c : Int) := by omega
  have g162 : ¬ (162 : Int) ≤ (c : Int) := by omega
  have g167 : ¬ (167 : Int) ≤ (c : Int) := by omega
  have g235 : ¬ (235 : Int) ≤ (c : Int) := by omega
  have g239 : ¬ (239 : Int) ≤ (c : Int) := by omega
  have g243 : ¬ (243 : Int) ≤ (c : Int) := by omega
  have l131 : ¬ (c : Int) ≤ (131 : Int) := by omega
  have l136 : ¬ (c : Int) ≤ (136 : Int) := by omega
  have l146 : ¬ (c : Int) ≤ (146 : Int) := by omega
  have l151 : ¬ (c : Int) ≤ (151 : Int) := by omega
  have l156 : (c : Int) ≤ (156 : Int) := by omega
  have l160 : (c : Int) ≤ (160 : Int) := by omega
  have l165 : (c : Int) ≤ (165 : Int) := by omega
  have l170 : (c : Int) ≤ (170 : Int) := by omega
  have l238 : (c : Int) ≤ (238 : Int) := by omega
  have l242 : (c : Int) ≤ (242 : Int) := by omega
  have l246 : (c : Int) ≤ (246 : Int) := by omega
  have e132 : ((c : Int) == 132) = false := by rw [beq_eq_false_iff_ne]; omega
  have e137 : ((c : Int) == 137) = false := by rw [beq_eq_false_iff_ne]; omega
  have e139 : ((c : Int) == 139) = false := by rw [beq_eq_false_iff_ne]; omega
  have e247 : ((c : Int) == 247) = false := by rw [beq_eq_false_iff_ne]; omega
  have e248 : ((c : Int) == 248) = false := by rw [beq_eq_false_iff_ne]; omega
  have e249 : ((c : Int) == 249) = false := by rw [beq_eq_false_iff_ne]; omega
  have t249 : ¬ (249 : Int) < (c : Int) := by omega
  have hsz : sizesM c = [152 - (c : Int)] := by
    unfold sizesM
    repeat (first | rw [if_pos (by omega)] | rw [if_neg (by omega)])
  have htn : textN c xs = none := by unfold textN; repeat (first | rw [if_pos (by omega)] | rw [if_neg (by omega)])
  have hx2 := HXS.out
  have hf2 := HF2.out
  have htx := HTX.out
  have hfr := HFR.out
  rw [hsz] at hx2 hf2
  rw [Fd.tail, htn, if_neg (by omega)] at htx hfr
  simp only at htx hfr
  have HA := args_call [152 - (c : Int)] 1 rfl (by omega) (by simp; try omega) H6.out
  rw [hx2, hf2] at HA
  simp only [intsL, List.map_cons, List.map_nil] at HA
  have HTX2 := Lib.hid htx
  have HFR2 := Lib.hid hfr
  have HAA := Lib.hid HA
  clear HA hx2 hf2 htn hsz htx hfr H6 HXS HF2 HTX HFR
  go_wp2_with fail
  refine Calls.mono HAA.out ?_
  rintro e w5 ⟨rfl, va, h5⟩
  have hx := h5
  rw [HFR2.out] at hx
  have H5 := Lib.hid (show FdAt W (pts (b2 + 1) (opO (c : Nat) q va ⟨txt.toArray⟩) * (rowI va xs * (pts b2 (.cells #[.int .i64 0, .int .i64 0, .slice none 0 0, .string ⟨#[]⟩] 33) * A))) b cf cap fr w5 from by rw [← HTX2.out]; exact hx)
  clear h5 hx HAA
  (try go_upto_region 41 with fail)
  obtain ⟨va, hx⟩ : ∃ va, FdAt W (pts (b2 + 1) (opO (c : Nat) q va ⟨txt.toArray⟩) * (rowI va xs * (pts b2 (.cells #[.int .i64 0, .int .i64 0, .slice none 0 0, .string ⟨#[]⟩] 33) * A))) b cf cap fr _ := ⟨_, H5.out⟩
  clear H5
  have HE := Lib.hid (hx.of_eq (show _ = pts (b2 + 1) (opO (c : Nat) q _ ⟨txt.toArray⟩) * (pts b2 (.cells #[.int .i64 0, .int .i64 0, .slice none 0 0, .string ⟨#[]⟩] 33) * (rowI _ xs * A)) by ac_rfl))
  obtain ⟨va1, vc, hva, -⟩ := hx.sat.r.row_val
  subst hva
  obtain ⟨Y, h7, back⟩ := HE.out.focus
  have h8 := h7.asc
  have x0 := h8.cell (i := 0) rfl
  have x1 := h8.cell (i := 1) rfl
  have x2 := h8.cell (i := 2) rfl
  have x3 := h8.cell (i := 3) rfl
  have y0 := h8.r.asc.cell (i := 0) rfl
  have y1 := h8.r.asc.cell (i := 1) rfl
  have y2 := h8.r.asc.cell (i := 2) rfl
  have y3 := h8.r.asc.cell (i := 3) rfl
  have z0 := h8.r.asc.free (i := 0)
  have z1 := h8.r.asc.free (i := 1)
  have z2 := h8.r.asc.free (i := 2)
  have z3 := h8.r.asc.free (i := 3)
  have xb := h8.lt
  have yb := h8.r.asc.lt
  have h9 := (((((h8.of_eq (show _ = pts b2 (.cells #[.int .i64 0, .int .i64 0, .slice none 0 0, .string ⟨#[]⟩] 33) * ((rowI (.slice va1 xs.length vc) xs * A) * Y * pts (b2 + 1) (opO (c : Nat) q (.slice va1 xs.length vc) ⟨txt.toArray⟩)) by ac_rfl)).set (i := 0) (v := .int .i64 ((c : Nat) : Int))).set (i := 1) (v := .int .i64 (q : Int))).set (i := 2) (v := .slice va1 xs.length vc)).set (i := 3) (v := .string ⟨txt.toArray⟩))
  have HH := Lib.hid (back _ _ h9.r.l)
  have h10 := h9.cell (i := 0) rfl
  clear h7 back hx HE h8 h10
  have HRES := Lib.hid h9
  clear h9
  go_wp2
  (try simp only [Exit.inBlock, Exit.then])
  refine bodyPost_ret (v := .agg #[.int .i64 ((c : Nat) : Int), .int .i64 (q : Int), .slice va1 xs.length vc, .string ⟨txt.toArray⟩]) (by unfold results; go_simp) rfl ?_
  rw [HCM.out]
  exact ⟨_, rfl, HH.out⟩
set_option maxRecDepth 100000 in
set_option maxHeartbeats 16000000 in
theorem op_157 {b cf cap : Nat} {f : Fd} (hb : 157 ≤ f.next.1 ∧ f.next.1 ≤ 160) (h : FdAt W A b cf cap f w) :
    Calls Try.prog 30 #[.pointer (some ⟨b, 0, none⟩)] w fun e w' => ∃ va, e = .returned (.agg #[.int .i64 f.cmd.1.code, .int .i64 f.cmd.1.at_, va, .string ⟨f.cmd.1.text.toArray⟩]) ∧ FdAt W (rowI va f.cmd.1.args * A) b cf cap f.cmd.2 w' := by
  have hat : ∃ s r, Sat W (pts b (.cells #[.chan (some cf), .int .i64 f.at_, .bool f.lost] 110) * (pts cf (chanO cap f.l true s r) * A)) w := h.2
  obtain ⟨s, r, hs⟩ := hat
  have c1 := hs.cell (i := 1) rfl
  have lb := hs.lt
  clear hs
  have h2 := (h.allocX (.cells #[.int .i64 0, .int .i64 0, .slice none 0 0, .string ⟨#[]⟩] 33)).allocX (opO 0 f.at_ (.slice none 0 0) ⟨#[]⟩)
  obtain ⟨b2, hb2⟩ : ∃ b2, w.heap.size = b2 := ⟨_, rfl⟩
  have lb2 := lb
  rw [hb2] at lb2
  rw [show (w.alloc (.cells #[.int .i64 0, .int .i64 0, .slice none 0 0, .string ⟨#[]⟩] 33)).heap.size = b2 + 1 by simp [hb2], hb2] at h2
  have H2 := Lib.hid h2
  have HN := Lib.hid (next_any h2)
  clear h h2
  go_enter Try.func30, Try.ntmps30
  go_upto_region 2 with fail
  generalize (w.alloc (.cells #[.int .i64 0, .int .i64 0, .slice none 0 0, .string ⟨#[]⟩] 33)).alloc (opO 0 f.at_ (.slice none 0 0) ⟨#[]⟩) = W2 at *
  clear c1 lb lb2 hb2
  have hlt := f.next_lt
  obtain ⟨c, hc⟩ : ∃ c, f.next.1 = c := ⟨_, rfl⟩
  obtain ⟨f1, hf1⟩ : ∃ f1, f.next.2 = f1 := ⟨_, rfl⟩
  obtain ⟨xs, hxs⟩ : ∃ xs, (f1.args (sizesM c) []).1 = xs := ⟨_, rfl⟩
  obtain ⟨f2, hf2⟩ : ∃ f2, (f1.args (sizesM c) []).2 = f2 := ⟨_, rfl⟩
  obtain ⟨txt, htxt⟩ : ∃ txt, (f2.tail c xs).1 = txt := ⟨_, rfl⟩
  obtain ⟨fr, hfr⟩ : ∃ fr, (f2.tail c xs).2 = fr := ⟨_, rfl⟩
  obtain ⟨q, hq⟩ : ∃ q, f.at_ = q := ⟨_, rfl⟩
  have HCM := Lib.hid (show f.cmd = (⟨c, q, xs, txt⟩, fr) by
    unfold Fd.cmd
    simp only [hc, hf1, hxs, hf2, htxt, hfr, hq])
  rw [hc] at hlt HN hb
  rw [hf1] at HN
  rw [hq] at HN H2
  rw [hq]
  have HXS := Lib.hid hxs
  have HF2 := Lib.hid hf2
  have HTX := Lib.hid htxt
  have HFR := Lib.hid hfr
  clear hc hf1 hxs hf2 htxt hfr hq
  go_wp2_with fail
  refine Calls.mono HN.out ?_
  rintro e w3 ⟨rfl, h3⟩
  have a0 := h3.sat.cell (i := 0) rfl
  have ab := h3.sat.lt
  have af := h3.sat.free (i := 0)
  obtain ⟨Y, h4, back⟩ := h3.focus
  have h5 := (h4.asc.set (i := 0) (v := .int .i64 (c : Int)))
  have h6 := back _ _ (show Sat W ((pts (b2 + 1) (opO c q (.slice none 0 0) ⟨#[]⟩) * (pts b2 (.cells #[.int .i64 0, .int .i64 0, .slice none 0 0, .string ⟨#[]⟩] 33) * A)) * Y) _ from Sat.asc' h5)
  have H6 := Lib.hid h6
  clear h3 h4 h5 h6 back H2 HN
  go_upto_region 3 with fail
  generalize w3.setCell ⟨b2 + 1, 0, none⟩ (.int .i64 (c : Int)) = W4 at *
  clear a0 ab af
  have a0 := H6.out.sat.cell (i := 0) rfl
  have ab := H6.out.sat.lt
  go_upto_block 0 with fail
  have g128 : (128 : Int) ≤ (c : Int) := by omega
  have g133 : (133 : Int) ≤ (c : Int) := by omega
  have g143 : (143 : Int) ≤ (c : Int) := by omega
  have g148 : (148 : Int) ≤ (c : Int) := by omega
  have g153 : (153 : Int) ≤ (c : Int) := by omega
  have g157 : (157 : Int) ≤ (c : Int) := by omega
  have g162 : ¬ (162 : Int) ≤ (c : Int) := by omega
  have g167 : ¬ (167 : Int) ≤ (c : Int) := by omega
  have g235 : ¬ (235 : Int) ≤ (c : Int) := by omega
  have g239 : ¬ (239 : Int) ≤ (c : Int) := by omega
  have g243 : ¬ (243 : Int) ≤ (c : Int) := by omega
  have l131 : ¬ (c : Int) ≤ (131 : Int) := by omega
  have l136 : ¬ (c : Int) ≤ (136 : Int) := by omega
  have l146 : ¬ (c : Int) ≤ (146 : Int) := by omega
  have l151 : ¬ (c : Int) ≤ (151 : Int) := by omega
  have l156 : ¬ (c : Int) ≤ (156 : Int) := by omega
  have l160 : (c : Int) ≤ (160 : Int) := by omega
  have l165 : (c : Int) ≤ (165 : Int) := by omega
  have l170 : (c : Int) ≤ (170 : Int) := by omega
  have l238 : (c : Int) ≤ (238 : Int) := by omega
  have l242 : (c : Int) ≤ (242 : Int) := by omega
  have l246 : (c : Int) ≤ (246 : Int) := by omega
  have e132 : ((c : Int) == 132) = false := by rw [beq_eq_false_iff_ne]; omega
  have e137 : ((c : Int) == 137) = false := by rw [beq_eq_false_iff_ne]; omega
  have e139 : ((c : Int) == 139) = false := by rw [beq_eq_false_iff_ne]; omega
  have e247 : ((c : Int) == 247) = false := by rw [beq_eq_false_iff_ne]; omega
  have e248 : ((c : Int) == 248) = false := by rw [beq_eq_false_iff_ne]; omega
  have e249 : ((c : Int) == 249) = false := by rw [beq_eq_false_iff_ne]; omega
  have t249 : ¬ (249 : Int) < (c : Int) := by omega
  have hsz : sizesM c = [156 - (c : Int)] := by
    unfold sizesM
    repeat (first | rw [if_pos (by omega)] | rw [if_neg (by omega)])
  have htn : textN c xs = none := by unfold textN; repeat (first | rw [if_pos (by omega)] | rw [if_neg (by omega)])
  have hx2 := HXS.out
  have hf2 := HF2.out
  have htx := HTX.out
  have hfr := HFR.out
  rw [hsz] at hx2 hf2
  rw [Fd.tail, htn, if_neg (by omega)] at htx hfr
  simp only at htx hfr
  have HA := args_call [156 - (c : Int)] 1 rfl (by omega) (by simp; try omega) H6.out
  rw [hx2, hf2] at HA
  simp only [intsL, List.map_cons, List.map_nil] at HA
  have HTX2 := Lib.hid htx
  have HFR2 := Lib.hid hfr
  have HAA := Lib.hid HA
  clear HA hx2 hf2 htn hsz htx hfr H6 HXS HF2 HTX HFR
  go_wp2_with fail
  refine Calls.mono HAA.out ?_
  rintro e w5 ⟨rfl, va, h5⟩
  have hx := h5
  rw [HFR2.out] at hx
  have H5 := Lib.hid (show FdAt W (pts (b2 + 1) (opO (c : Nat) q va ⟨txt.toArray⟩) * (rowI va xs * (pts b2 (.cells #[.int .i64 0, .int .i64 0, .slice none 0 0, .string ⟨#[]⟩] 33) * A))) b cf cap fr w5 from by rw [← HTX2.out]; exact hx)
  clear h5 hx HAA
  (try go_upto_region 41 with fail)
  obtain ⟨va, hx⟩ : ∃ va, FdAt W (pts (b2 + 1) (opO (c : Nat) q va ⟨txt.toArray⟩) * (rowI va xs * (pts b2 (.cells #[.int .i64 0, .int .i64 0, .slice none 0 0, .string ⟨#[]⟩] 33) * A))) b cf cap fr _ := ⟨_, H5.out⟩
  clear H5
  have HE := Lib.hid (hx.of_eq (show _ = pts (b2 + 1) (opO (c : Nat) q _ ⟨txt.toArray⟩) * (pts b2 (.cells #[.int .i64 0, .int .i64 0, .slice none 0 0, .string ⟨#[]⟩] 33) * (rowI _ xs * A)) by ac_rfl))
  obtain ⟨va1, vc, hva, -⟩ := hx.sat.r.row_val
  subst hva
  obtain ⟨Y, h7, back⟩ := HE.out.focus
  have h8 := h7.asc
  have x0 := h8.cell (i := 0) rfl
  have x1 := h8.cell (i := 1) rfl
  have x2 := h8.cell (i := 2) rfl
  have x3 := h8.cell (i := 3) rfl
  have y0 := h8.r.asc.cell (i := 0) rfl
  have y1 := h8.r.asc.cell (i := 1) rfl
  have y2 := h8.r.asc.cell (i := 2) rfl
  have y3 := h8.r.asc.cell (i := 3) rfl
  have z0 := h8.r.asc.free (i := 0)
  have z1 := h8.r.asc.free (i := 1)
  have z2 := h8.r.asc.free (i := 2)
  have z3 := h8.r.asc.free (i := 3)
  have xb := h8.lt
  have yb := h8.r.asc.lt
  have h9 := (((((h8.of_eq (show _ = pts b2 (.cells #[.int .i64 0, .int .i64 0, .slice none 0 0, .string ⟨#[]⟩] 33) * ((rowI (.slice va1 xs.length vc) xs * A) * Y * pts (b2 + 1) (opO (c : Nat) q (.slice va1 xs.length vc) ⟨txt.toArray⟩)) by ac_rfl)).set (i := 0) (v := .int .i64 ((c : Nat) : Int))).set (i := 1) (v := .int .i64 (q : Int))).set (i := 2) (v := .slice va1 xs.length vc)).set (i := 3) (v := .string ⟨txt.toArray⟩))
  have HH := Lib.hid (back _ _ h9.r.l)
  have h10 := h9.cell (i := 0) rfl
  clear h7 back hx HE h8 h10
  have HRES := Lib.hid h9
  clear h9
  go_wp2
  (try simp only [Exit.inBlock, Exit.then])
  refine bodyPost_ret (v := .agg #[.int .i64 ((c : Nat) : Int), .int .i64 (q : Int), .slice va1 xs.length vc, .string ⟨txt.toArray⟩]) (by unfold results; go_simp) rfl ?_
  rw [HCM.out]
  exact ⟨_, rfl, HH.out⟩

end Go.Proofs.Ytjeinldhbajknaa
