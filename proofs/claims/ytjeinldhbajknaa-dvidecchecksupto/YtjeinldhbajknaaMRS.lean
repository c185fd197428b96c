import Derived.Test.YtjeinldhbajknaaMDvRQ
/-
  The document's step. Conditions: those that each theorem names.
-/
namespace Go.Proofs.Ytjeinldhbajknaa
open Go.RowKit Go.Sp Go.Conc
variable {W w w' : World} {A : HProp}

theorem _root_.Go.Sp.Sat.ne3 {b c : Nat} {o p : Obj} {X Y : HProp} (h : Sat W (pts b o * (X * (Y * (pts c p * A)))) w) : b ≠ c :=
  (h.of_eq (show _ = pts b o * (pts c p * (X * (Y * A))) by ac_rfl)).ne
theorem wpList_of_quiet {P : Program} {ops : Array Oper} {C : World → Prop} {Q : Exit → Act → World → Prop} {rest : List Oper} : ∀ (l : List Oper) (a : Act) (w : World), C w →
    wpQuiet P ops C (fun a' => ∀ w', C w' → wpList P ops Q rest a' w') l a → wpList P ops Q (l ++ rest) a w
  | [], a, w, hw, h => h w hw
  | o :: l, a, w, hw, h => by
    unfold wpQuiet at h
    rw [List.cons_append]
    unfold wpList
    split
    · rename_i hwd
      rw [if_pos hwd] at h
      exact .inl (Oper.wp_of_quiet hw (fun a w' hw' hk => wpList_of_quiet l a w' hw' hk) h)
    · rename_i hwd
      rw [if_neg hwd] at h
      exact wpList_of_quiet l _ w hw h
/-- a region in its own order, whose first operations yield the same in every world of a class -/
theorem wp_region_quiet {P : Program} (C : World → Prop) (n : Nat) {id : Nat} {Q : Exit → Act → World → Prop} {a : Act} {w : World} {l : List Oper} (hC : C w)
    (h : wpQuiet P l.toArray C (fun a' => ∀ w', C w' → wpList P l.toArray Q (l.drop n) a' w') (l.take n) a) : (Code.region id l.toArray false).wp P Q a w := by
  have key := wpList_of_quiet (l.take n) a w hC h
  rw [List.take_append_drop] at key
  exact wp_region_lit key
set_option maxRecDepth 100000 in
set_option maxHeartbeats 4000000 in
theorem st_no {V : List (Cmd × Value)} {b : Nat} {s : StM} {a : Option Addr} {ca : Nat} (o : Cmd) (hp : s.part = 0) (hc : o.code ≠ 247) (hm : (o, .slice a o.args.length ca) ∈ V) (hV : ∀ w', Sat W A w' → ∀ x ∈ V, Rd w' x.2 x.1.args.length 1 (intsL x.1.args)) (h : StAt W A V b s w) :
    Calls Try.prog 36 #[.pointer (some ⟨b, 0, none⟩), o.val (.slice a o.args.length ca)] w fun e w' => e = .returned (.bool false) ∧ StAt W A V b ({ s with part := 1, pre := o } : StM) w' := by
  have hx := h.allocX (ropO o.code o.at_ (.slice a o.args.length ca) ⟨o.text.toArray⟩)
  obtain ⟨b3, hb3⟩ : ∃ b3, w.heap.size = b3 := ⟨_, rfl⟩
  rw [hb3] at hx
  obtain ⟨dv, av, pv, tv, h1, h2⟩ := hx
  have q0 := h2.r.r.r.cell (i := 0) rfl
  have q1 := h2.r.r.r.cell (i := 1) rfl
  have q2 := h2.r.r.r.cell (i := 2) rfl
  have q3 := h2.r.r.r.cell (i := 3) rfl
  have k0 := h2.cell (i := 0) rfl
  have kl := h2.lt
  have f0 := h2.free (i := 0)
  have nb : b ≠ b3 := Sat.ne3 h2
  have nb2 : ¬ b = b3 := nb
  have nb3 : ¬ b3 = b := fun h => nb h.symm
  have H1 := Lib.hid h1
  have H2 := Lib.hid h2
  rw [hp] at k0
  have k9 := h2.cell (i := 9) rfl
  have k10 := h2.cell (i := 10) rfl
  have k11 := h2.cell (i := 11) rfl
  have k12 := h2.cell (i := 12) rfl
  have f9 := h2.free (i := 9)
  have f10 := h2.free (i := 10)
  have f11 := h2.free (i := 11)
  have f12 := h2.free (i := 12)
  have h5 := ((((h2.set (i := 0) (v := .int .i64 1)).set (i := 9) (v := .int .i64 o.code)).set (i := 10) (v := .int .i64 o.at_)).set (i := 11) (v := .slice a o.args.length ca)).set (i := 12) (v := .string ⟨o.text.toArray⟩)
  have H5 := Lib.hid (show Sat W (pts b (stO ({ s with part := 1, pre := o } : StM) dv av (.slice a o.args.length ca) tv) * _) _ from h5)
  have HM := Lib.hid hm
  have HV := Lib.hid hV
  have e247 : ((o.code : Int) == 247) = false := by rw [beq_eq_false_iff_ne]; omega
  have n247 : ¬ ((o.code : Int) = 247) := by omega
  clear h h1 h2 h5 hm hV hc hp
  unfold Cmd.val
  go_enter Try.func36, Try.ntmps36
  go_upto_region 1 with fail
  generalize w.alloc (.cells #[.int .i64 o.code, .int .i64 o.at_, .slice a o.args.length ca, .string ⟨o.text.toArray⟩] 34) = W1 at *
  clear hb3
  go_wp2
  go_ret
  exact ⟨rfl, (Lib.hid (show StAt W (pts b3 (ropO o.code o.at_ (.slice a o.args.length ca) ⟨o.text.toArray⟩) * A) V b ({ s with part := 1, pre := o } : StM) _ from ⟨dv, av, _, tv, ⟨.inl HM.out, H1.out.2⟩, H5.out⟩)).out.less⟩
set_option maxRecDepth 100000 in
set_option maxHeartbeats 4000000 in
theorem st_yes {V : List (Cmd × Value)} {b : Nat} {s : StM} {a : Option Addr} {ca : Nat} (o : Cmd) (hp : s.part = 0) (hc : o.code = 247) (hal : o.args.length = 5) (hm : (o, .slice a o.args.length ca) ∈ V) (hV : ∀ w', Sat W A w' → ∀ x ∈ V, Rd w' x.2 x.1.args.length 1 (intsL x.1.args)) (h : StAt W A V b s w) :
    Calls Try.prog 36 #[.pointer (some ⟨b, 0, none⟩), o.val (.slice a o.args.length ca)] w fun e w' => e = .returned (.bool (firstOk o)) ∧ StAt W A V b ({ s with part := 1, pre := o } : StM) w' := by
  have hx := h.allocX (ropO o.code o.at_ (.slice a o.args.length ca) ⟨o.text.toArray⟩)
  obtain ⟨b3, hb3⟩ : ∃ b3, w.heap.size = b3 := ⟨_, rfl⟩
  rw [hb3] at hx
  obtain ⟨dv, av, pv, tv, h1, h2⟩ := hx
  have q0 := h2.r.r.r.cell (i := 0) rfl
  have q1 := h2.r.r.r.cell (i := 1) rfl
  have q2 := h2.r.r.r.cell (i := 2) rfl
  have q3 := h2.r.r.r.cell (i := 3) rfl
  have k0 := h2.cell (i := 0) rfl
  have kl := h2.lt
  have f0 := h2.free (i := 0)
  have nb : b ≠ b3 := Sat.ne3 h2
  have nb2 : ¬ b = b3 := nb
  have nb3 : ¬ b3 = b := fun h => nb h.symm
  have H1 := Lib.hid h1
  have H2 := Lib.hid h2
  rw [hp] at k0
  have k9 := h2.cell (i := 9) rfl
  have k10 := h2.cell (i := 10) rfl
  have k11 := h2.cell (i := 11) rfl
  have k12 := h2.cell (i := 12) rfl
  have f9 := h2.free (i := 9)
  have f10 := h2.free (i := 10)
  have f11 := h2.free (i := 11)
  have f12 := h2.free (i := 12)
  have h5 := ((((h2.set (i := 0) (v := .int .i64 1)).set (i := 9) (v := .int .i64 247)).set (i := 10) (v := .int .i64 o.at_)).set (i := 11) (v := .slice a o.args.length ca)).set (i := 12) (v := .string ⟨o.text.toArray⟩)
  have H5 := Lib.hid h5
  have HM := Lib.hid hm
  have HV := Lib.hid hV
  have HC := Lib.hid hc
  have HAL := Lib.hid hal
  clear h h1 h2 h5 hm hV hc hp hal
  unfold Cmd.val
  go_enter Try.func36, Try.ntmps36
  go_upto_region 1 with fail
  generalize w.alloc (.cells #[.int .i64 o.code, .int .i64 o.at_, .slice a o.args.length ca, .string ⟨o.text.toArray⟩] 34) = W1 at *
  clear hb3
  rw [HC.out] at q0
  have i9 : ((247 : Nat) : Int) = 247 := rfl
  go_upto_region 5 with fail
  clear q0 q1 q3 k0 k9 k10 k11 k12 f0 f9 f10 f11 f12 kl
  generalize World.setCell _ _ _ = W5 at *
  have hr := HV.out _ H5.out.r.r.r.r _ HM.out
  simp only at hr
  have hal := HAL.out
  obtain ⟨g, off, ha, y0⟩ := rd_arg hr 0 (by omega)
  subst ha
  obtain ⟨g2, o2, ha2, y1⟩ := rd_arg hr 1 (by omega)
  cases ha2
  obtain ⟨g2, o2, ha2, y2⟩ := rd_arg hr 2 (by omega)
  cases ha2
  obtain ⟨g2, o2, ha2, y3⟩ := rd_arg hr 3 (by omega)
  cases ha2
  rw [Nat.add_zero] at y0
  have q2 := H5.out.r.r.r.cell (i := 2) rfl
  obtain ⟨n5, hn5⟩ : ∃ n, o.args.length = n := ⟨_, rfl⟩
  obtain ⟨x0, hx0⟩ : ∃ x, o.args.getD 0 0 = x := ⟨_, rfl⟩
  obtain ⟨x1, hx1⟩ : ∃ x, o.args.getD 1 0 = x := ⟨_, rfl⟩
  obtain ⟨x2, hx2⟩ : ∃ x, o.args.getD 2 0 = x := ⟨_, rfl⟩
  obtain ⟨x3, hx3⟩ : ∃ x, o.args.getD 3 0 = x := ⟨_, rfl⟩
  rw [hx0] at y0
  rw [hx1] at y1
  rw [hx2] at y2
  rw [hx3] at y3
  have HR := Lib.hid (show firstOk o = (x0 == 2 && (x1 == 25400000 && (x2 == 473628672 && decide (0 < x3)))) from by
    have e : decide (1 ≤ x3) = decide (0 < x3) := decide_eq_decide.2 (by omega)
    unfold firstOk
    rw [hx0, hx1, hx2, hx3, HC.out, e]
    simp)
  rw [hn5] at q2 hal
  have l5 : 0 < n5 := by omega
  have l6 : 1 < n5 := by omega
  have l7 : 2 < n5 := by omega
  have l8 : 3 < n5 := by omega
  have i5 : (0 : Int) < (n5 : Int) := by omega
  have i6 : (1 : Int) < (n5 : Int) := by omega
  have i7 : (2 : Int) < (n5 : Int) := by omega
  have i8 : (3 : Int) < (n5 : Int) := by omega
  obtain ⟨m1, hm1⟩ : ∃ m : Bool, (x0 == 2) = !m := ⟨!(x0 == 2), by simp⟩
  obtain ⟨b1, hb1⟩ : ∃ m : Bool, (x1 == 25400000) = m := ⟨_, rfl⟩
  obtain ⟨b2, hb2⟩ : ∃ m : Bool, (x2 == 473628672) = m := ⟨_, rfl⟩
  obtain ⟨b4, hb4⟩ : ∃ m : Bool, decide (0 < x3) = m := ⟨_, rfl⟩
  obtain ⟨m2, hm2⟩ : ∃ m : Bool, (!m1 && b1) = !m := ⟨!(!m1 && b1), by simp⟩
  obtain ⟨m3, hm3⟩ : ∃ m : Bool, (!m2 && b2) = !m := ⟨!(!m2 && b2), by simp⟩
  obtain ⟨m4, hm4⟩ : ∃ m : Bool, (!m3 && b4) = !m := ⟨!(!m3 && b4), by simp⟩
  have HR2 := Lib.hid (show firstOk o = !m4 from by
    rw [HR.out, ← hm4, ← hm3, ← hm2, ← hm1, hb1, hb2, hb4]
    simp only [Bool.and_assoc])
  have HN5 := Lib.hid hn5
  have hmv := mayV_false
  clear hr hal hx0 hx1 hx2 hx3 hn5
  refine wp_region_quiet (fun w' => w' = W5) 30 rfl ?_
  simp only [List.take_succ_cons, List.take_zero, List.drop_succ_cons, List.drop_zero]
  iterate 10
    refine wpQuiet_val (v := ?_) ?_
    rotate_left 1
    intro K hK
    refine ⟨by kernel_rfl, fun w9 hw9 => ?_, ?_⟩
    · subst hw9; go_simp; try with_reducible rfl
    go_simp
    with_reducible refine hK _ ?_
    clear hK K
  iterate 5
    refine wpQuiet_maybe m1 (v := ?_) ?_
    rotate_left 1
    intro K hK
    refine ⟨by cases m1 <;> kernel_rfl, fun hb9 w9 hw9 => ?_, ?_⟩
    · subst hw9; go_simp; try with_reducible rfl
    go_simp
    with_reducible refine hK _ ?_
    clear hK K
  refine wpQuiet_val (v := .bool (!m2)) ?_
  intro K hK
  refine ⟨by kernel_rfl, fun w9 hw9 => ?_, ?_⟩
  · subst hw9; cases m1 <;> (go_simp; first | done | (rw [← hm2]; rfl) | (simpa using hm2) | (simpa using hm2.symm))
  go_simp
  with_reducible refine hK _ ?_
  clear hK K
  iterate 1
    refine wpQuiet_val (v := ?_) ?_
    rotate_left 1
    intro K hK
    refine ⟨by kernel_rfl, fun w9 hw9 => ?_, ?_⟩
    · subst hw9; go_simp; try with_reducible rfl
    go_simp
    with_reducible refine hK _ ?_
    clear hK K
  iterate 5
    refine wpQuiet_maybe m2 (v := ?_) ?_
    rotate_left 1
    intro K hK
    refine ⟨by cases m2 <;> kernel_rfl, fun hb9 w9 hw9 => ?_, ?_⟩
    · subst hw9; go_simp; try with_reducible rfl
    go_simp
    with_reducible refine hK _ ?_
    clear hK K
  refine wpQuiet_val (v := .bool (!m3)) ?_
  intro K hK
  refine ⟨by kernel_rfl, fun w9 hw9 => ?_, ?_⟩
  · subst hw9; cases m2 <;> (go_simp; first | done | (rw [← hm3]; rfl) | (simpa using hm3) | (simpa using hm3.symm))
  go_simp
  with_reducible refine hK _ ?_
  clear hK K
  iterate 1
    refine wpQuiet_val (v := ?_) ?_
    rotate_left 1
    intro K hK
    refine ⟨by kernel_rfl, fun w9 hw9 => ?_, ?_⟩
    · subst hw9; go_simp; try with_reducible rfl
    go_simp
    with_reducible refine hK _ ?_
    clear hK K
  iterate 5
    refine wpQuiet_maybe m3 (v := ?_) ?_
    rotate_left 1
    intro K hK
    refine ⟨by cases m3 <;> kernel_rfl, fun hb9 w9 hw9 => ?_, ?_⟩
    · subst hw9; go_simp; try with_reducible rfl
    go_simp
    with_reducible refine hK _ ?_
    clear hK K
  refine wpQuiet_val (v := .bool (!m4)) ?_
  intro K hK
  refine ⟨by kernel_rfl, fun w9 hw9 => ?_, ?_⟩
  · subst hw9; cases m3 <;> (go_simp; first | done | (rw [← hm4]; rfl) | (simpa using hm4) | (simpa using hm4.symm))
  go_simp
  with_reducible refine hK _ ?_
  clear hK K
  clear hm1 hm2 hm3 hm4 hb1 hb2 hb4 hmv
  refine wpQuiet_nil ?_
  rintro w18 rfl
  go_wp2
  go_ret
  exact ⟨by rw [HR2.out] <;> rfl, (Lib.hid (show StAt W (pts b3 (ropO o.code o.at_ (.slice (some ⟨g, off, none⟩) o.args.length ca) ⟨o.text.toArray⟩) * A) V b ({ s with part := 1, pre := o } : StM) _ from ⟨dv, av, _, tv, ⟨.inl HM.out, H1.out.2⟩, by have h := H5.out; rw [show (247 : Int) = ((o.code : Nat) : Int) from by rw [HC.out]; rfl] at h; exact h⟩)).out.less⟩
set_option maxRecDepth 100000 in
set_option maxHeartbeats 4000000 in
theorem st_nop {V : List (Cmd × Value)} {b : Nat} {s : StM} {a : Option Addr} {ca : Nat} (o : Cmd) (hp : s.part ≠ 0) (hc : o.code = 138) (h : StAt W A V b s w) :
    Calls Try.prog 36 #[.pointer (some ⟨b, 0, none⟩), o.val (.slice a o.args.length ca)] w fun e w' => e = .returned (.bool true) ∧ StAt W A V b s w' := by
  have hx := h.allocX (ropO o.code o.at_ (.slice a o.args.length ca) ⟨o.text.toArray⟩)
  obtain ⟨b3, hb3⟩ : ∃ b3, w.heap.size = b3 := ⟨_, rfl⟩
  rw [hb3] at hx
  obtain ⟨dv, av, pv, tv, h1, h2⟩ := hx
  have q0 := h2.r.r.r.cell (i := 0) rfl
  have q1 := h2.r.r.r.cell (i := 1) rfl
  have q2 := h2.r.r.r.cell (i := 2) rfl
  have q3 := h2.r.r.r.cell (i := 3) rfl
  have k0 := h2.cell (i := 0) rfl
  have kl := h2.lt
  have f0 := h2.free (i := 0)
  have nb : b ≠ b3 := Sat.ne3 h2
  have nb2 : ¬ b = b3 := nb
  have nb3 : ¬ b3 = b := fun h => nb h.symm
  have H1 := Lib.hid h1
  have H2 := Lib.hid h2
  have p0 : (s.part == 0) = false := by rw [beq_eq_false_iff_ne]; exact hp
  have HC := Lib.hid hc
  clear h h1 h2 hc
  unfold Cmd.val
  go_enter Try.func36, Try.ntmps36
  go_upto_region 1 with fail
  generalize w.alloc (.cells #[.int .i64 o.code, .int .i64 o.at_, .slice a o.args.length ca, .string ⟨o.text.toArray⟩] 34) = W1 at *
  clear hb3
  rw [HC.out] at q0
  have i9 : ((138 : Nat) : Int) = 138 := rfl
  go_wp2
  go_ret
  exact ⟨rfl, (Lib.hid (show StAt W (pts b3 (ropO o.code o.at_ (.slice a o.args.length ca) ⟨o.text.toArray⟩) * A) V b s _ from ⟨dv, av, pv, tv, H1.out, H2.out⟩)).out.less⟩
set_option maxRecDepth 100000 in
set_option maxHeartbeats 4000000 in
theorem st_pre {V : List (Cmd × Value)} {b : Nat} {s : StM} {a : Option Addr} {ca : Nat} (o : Cmd) (hp : s.part ≠ 0) (hc : o.code = 247) (h : StAt W A V b s w) :
    Calls Try.prog 36 #[.pointer (some ⟨b, 0, none⟩), o.val (.slice a o.args.length ca)] w fun e w' => e = .returned (.bool false) ∧ StAt W A V b s w' := by
  have hx := h.allocX (ropO o.code o.at_ (.slice a o.args.length ca) ⟨o.text.toArray⟩)
  obtain ⟨b3, hb3⟩ : ∃ b3, w.heap.size = b3 := ⟨_, rfl⟩
  rw [hb3] at hx
  obtain ⟨dv, av, pv, tv, h1, h2⟩ := hx
  have q0 := h2.r.r.r.cell (i := 0) rfl
  have q1 := h2.r.r.r.cell (i := 1) rfl
  have q2 := h2.r.r.r.cell (i := 2) rfl
  have q3 := h2.r.r.r.cell (i := 3) rfl
  have k0 := h2.cell (i := 0) rfl
  have kl := h2.lt
  have f0 := h2.free (i := 0)
  have nb : b ≠ b3 := Sat.ne3 h2
  have nb2 : ¬ b = b3 := nb
  have nb3 : ¬ b3 = b := fun h => nb h.symm
  have H1 := Lib.hid h1
  have H2 := Lib.hid h2
  have p0 : (s.part == 0) = false := by rw [beq_eq_false_iff_ne]; exact hp
  have HC := Lib.hid hc
  clear h h1 h2 hc
  unfold Cmd.val
  go_enter Try.func36, Try.ntmps36
  go_upto_region 1 with fail
  generalize w.alloc (.cells #[.int .i64 o.code, .int .i64 o.at_, .slice a o.args.length ca, .string ⟨o.text.toArray⟩] 34) = W1 at *
  clear hb3
  rw [HC.out] at q0
  have i9 : ((247 : Nat) : Int) = 247 := rfl
  go_wp2
  go_ret
  exact ⟨rfl, (Lib.hid (show StAt W (pts b3 (ropO o.code o.at_ (.slice a o.args.length ca) ⟨o.text.toArray⟩) * A) V b s _ from ⟨dv, av, pv, tv, H1.out, H2.out⟩)).out.less⟩
set_option maxRecDepth 100000 in
set_option maxHeartbeats 4000000 in
theorem st_def {V : List (Cmd × Value)} {b : Nat} {s : StM} {a : Option Addr} {ca : Nat} (o : Cmd) (hp : s.part ≠ 0) (hc : 243 ≤ o.code ∧ o.code ≤ 246) (hal : 4 ≤ o.args.length) (hl : s.defs.length ≤ 1048576) (hag : s.again.length ≤ 1048576) (hm : (o, .slice a o.args.length ca) ∈ V) (hV : ∀ w', Sat W A w' → ∀ x ∈ V, Rd w' x.2 x.1.args.length 1 (intsL x.1.args)) (h : StAt W A V b s w) :
    Calls Try.prog 36 #[.pointer (some ⟨b, 0, none⟩), o.val (.slice a o.args.length ca)] w fun e w' => e = .returned (.bool (s.fontDef o.def_).2) ∧ StAt W A V b (s.fontDef o.def_).1 w' := by
  have hx := h.allocX (ropO o.code o.at_ (.slice a o.args.length ca) ⟨o.text.toArray⟩)
  obtain ⟨b3, hb3⟩ : ∃ b3, w.heap.size = b3 := ⟨_, rfl⟩
  rw [hb3] at hx
  have hr := hV _ hx.sat.r _ hm
  simp only at hr
  obtain ⟨W1, hW1⟩ : ∃ W1, w.alloc (ropO o.code o.at_ (.slice a o.args.length ca) ⟨o.text.toArray⟩) = W1 := ⟨_, rfl⟩
  rw [hW1] at hx hr
  have HF := Lib.hid (fontDef_any o hal hr hl hag hx)
  have HW1 := Lib.hid hW1
  obtain ⟨FR, hFR⟩ : ∃ FR, s.fontDef o.def_ = FR := ⟨_, rfl⟩
  rw [hFR] at HF
  rw [hFR]
  obtain ⟨dv, av, pv, tv, h1, h2⟩ := hx
  have q0 := h2.r.r.r.cell (i := 0) rfl
  have q1 := h2.r.r.r.cell (i := 1) rfl
  have q2 := h2.r.r.r.cell (i := 2) rfl
  have q3 := h2.r.r.r.cell (i := 3) rfl
  have k0 := h2.cell (i := 0) rfl
  have kl := h2.lt
  have f0 := h2.free (i := 0)
  have nb : b ≠ b3 := Sat.ne3 h2
  have nb2 : ¬ b = b3 := nb
  have nb3 : ¬ b3 = b := fun h => nb h.symm
  have H1 := Lib.hid h1
  have H2 := Lib.hid h2
  have p0 : (s.part == 0) = false := by rw [beq_eq_false_iff_ne]; exact hp
  have c1 : (243 : Int) ≤ (o.code : Int) := by omega
  have c2 : (o.code : Int) ≤ (246 : Int) := by omega
  clear h h1 h2 hc hr hm hV hal hl hag hW1 hFR
  unfold Cmd.val at HF ⊢
  go_enter Try.func36, Try.ntmps36
  go_upto_region 1 with fail
  rw [HW1.out]
  clear hb3 HW1
  go_wp2_with fail
  with_reducible refine Calls.mono HF.out ?_
  rintro e w3 ⟨rfl, h3⟩
  have H3 := Lib.hid h3.less
  clear h3 q0 q1 q2 q3 k0 kl f0 HF
  go_wp2
  go_ret
  exact ⟨rfl, H3.out⟩
set_option maxRecDepth 100000 in
set_option maxHeartbeats 4000000 in
theorem st_bop {V : List (Cmd × Value)} {b : Nat} {s : StM} {a : Option Addr} {ca : Nat} (o : Cmd) (hp : s.part ≠ 0) (hc : o.code = 139) (hal : o.args.length = 11) (hpg : 0 ≤ s.pages ∧ s.pages ≤ 2000000) (hm : (o, .slice a o.args.length ca) ∈ V) (hV : ∀ w', Sat W A w' → ∀ x ∈ V, Rd w' x.2 x.1.args.length 1 (intsL x.1.args)) (h : StAt W A V b s w) :
    Calls Try.prog 36 #[.pointer (some ⟨b, 0, none⟩), o.val (.slice a o.args.length ca)] w fun e w' => e = .returned (.bool (s.part == 1 && o.args.getD 10 0 == s.last)) ∧ StAt W A V b ({ s with part := 2, last := o.at_, pages := s.pages + 1, font := false, deep := 0 } : StM) w' := by
  obtain ⟨x0, hx0⟩ : ∃ x, o.args.getD 10 0 = x := ⟨_, rfl⟩
  obtain ⟨R0, hR0⟩ : ∃ R0, (s.part == 1 && x0 == s.last) = R0 := ⟨_, rfl⟩
  rw [hx0, hR0]
  have HX0 := Lib.hid hx0
  have HR0 := Lib.hid hR0
  clear hx0 hR0
  have hx := h.allocX (ropO o.code o.at_ (.slice a o.args.length ca) ⟨o.text.toArray⟩)
  obtain ⟨b3, hb3⟩ : ∃ b3, w.heap.size = b3 := ⟨_, rfl⟩
  rw [hb3] at hx
  obtain ⟨dv, av, pv, tv, h1, h2⟩ := hx
  have q0 := h2.r.r.r.cell (i := 0) rfl
  have q1 := h2.r.r.r.cell (i := 1) rfl
  have q2 := h2.r.r.r.cell (i := 2) rfl
  have q3 := h2.r.r.r.cell (i := 3) rfl
  have k0 := h2.cell (i := 0) rfl
  have kl := h2.lt
  have f0 := h2.free (i := 0)
  have nb : b ≠ b3 := Sat.ne3 h2
  have nb2 : ¬ b = b3 := nb
  have nb3 : ¬ b3 = b := fun h => nb h.symm
  have H1 := Lib.hid h1
  have H2 := Lib.hid h2
  have p0 : (s.part == 0) = false := by rw [beq_eq_false_iff_ne]; exact hp
  have HC := Lib.hid hc
  have HAL := Lib.hid hal
  have HM := Lib.hid hm
  have HV := Lib.hid hV
  have HPG := Lib.hid hpg
  clear h h1 h2 hc hal hm hV hpg
  unfold Cmd.val
  go_enter Try.func36, Try.ntmps36
  go_upto_region 1 with fail
  generalize w.alloc (.cells #[.int .i64 o.code, .int .i64 o.at_, .slice a o.args.length ca, .string ⟨o.text.toArray⟩] 34) = W1 at *
  clear hb3
  rw [HC.out] at q0
  have i9 : ((139 : Nat) : Int) = 139 := rfl
  go_upto_region 13 with fail
  clear q0 q1 q2 q3 k0 kl f0
  obtain ⟨W9, hW9⟩ : ∃ W9, W1.drew = W9 := ⟨_, rfl⟩
  have h9 := H2.out.drew
  rw [hW9] at h9
  have hr := HV.out _ h9.r.r.r.r _ HM.out
  simp only at hr
  have hal := HAL.out
  obtain ⟨g, off, ha, y0⟩ := rd_arg hr 10 (by omega)
  subst ha
  rw [HX0.out] at y0
  have q1 := h9.r.r.r.cell (i := 1) rfl
  have q2 := h9.r.r.r.cell (i := 2) rfl
  have k0 := h9.cell (i := 0) rfl
  have k3 := h9.cell (i := 3) rfl
  have k4 := h9.cell (i := 4) rfl
  have H9 := Lib.hid h9
  obtain ⟨n5, hn5⟩ : ∃ n, o.args.length = n := ⟨_, rfl⟩
  rw [hn5] at q2 hal
  have l5 : 10 < n5 := by omega
  have i5 : (10 : Int) < (n5 : Int) := by omega
  have hR0 := HR0.out
  clear h9 hr hal H2 hp p0 HR0
  by_cases p1 : s.part = 1
  · have hr2 : (x0 == s.last) = R0 := by rw [← hR0, p1]; simp
    rw [p1] at k0
    clear hR0 p1
    refine wp_region_tail (fun w' => w' = W9) 16 (by kernel_rfl) (by kernel_rfl) hW9 ?_
    simp only [List.take_succ_cons, List.take_zero, List.drop_succ_cons, List.drop_zero]
    clear hW9
    iterate 16
      refine wpQuiet_val (v := ?_) ?_
      rotate_left 1
      intro K hK
      refine ⟨by kernel_rfl, fun w9 hw9 => ?_, ?_⟩
      · subst hw9; go_simp; try with_reducible rfl
      go_simp
      with_reducible refine hK _ ?_
      clear hK K
    refine wpQuiet_nil ?_
    rintro w18 rfl
    clear y0 q2 k0 k3
    have k0 := H9.out.cell (i := 0) rfl
    have k3 := H9.out.cell (i := 3) rfl
    have k5 := H9.out.cell (i := 5) rfl
    have k7 := H9.out.cell (i := 7) rfl
    have f0 := H9.out.free (i := 0)
    have f3 := H9.out.free (i := 3)
    have f4 := H9.out.free (i := 4)
    have f5 := H9.out.free (i := 5)
    have f7 := H9.out.free (i := 7)
    have kl := H9.out.lt
    have hw1 : wrap64 (s.pages + 1) = s.pages + 1 := wrap64_mid (x := s.pages + 1) (by have := HPG.out; omega) (by have := HPG.out; omega)
    have h10 := ((((H9.out.set (i := 0) (v := .int .i64 2)).set (i := 3) (v := .int .i64 o.at_)).set (i := 4) (v := .int .i64 (s.pages + 1))).set (i := 7) (v := .bool false)).set (i := 5) (v := .int .i64 0)
    have H10 := Lib.hid (show Sat W (pts b (stO ({ s with part := 2, last := o.at_, pages := s.pages + 1, font := false, deep := 0 } : StM) dv av pv tv) * _) _ from h10)
    clear h10
    go_wp2
    go_ret
    exact ⟨rfl, (Lib.hid (show StAt W (pts b3 (ropO o.code o.at_ (.slice (some ⟨g, off, none⟩) o.args.length ca) ⟨o.text.toArray⟩) * A) V b ({ s with part := 2, last := o.at_, pages := s.pages + 1, font := false, deep := 0 } : StM) _ from ⟨dv, av, pv, tv, H1.out, H10.out⟩)).out.less⟩
  · have hr2 : false = R0 := by rw [← hR0, beq_eq_false_iff_ne.2 p1]; rfl
    have p1b : (s.part == 1) = false := by rw [beq_eq_false_iff_ne]; exact p1
    subst hr2
    clear hR0
    refine wp_region_tail (fun w' => w' = W9) 16 (by kernel_rfl) (by kernel_rfl) hW9 ?_
    simp only [List.take_succ_cons, List.take_zero, List.drop_succ_cons, List.drop_zero]
    clear hW9
    iterate 6
      refine wpQuiet_val (v := ?_) ?_
      rotate_left 1
      intro K hK
      refine ⟨by kernel_rfl, fun w9 hw9 => ?_, ?_⟩
      · subst hw9; go_simp; try with_reducible rfl
      go_simp
      with_reducible refine hK _ ?_
      clear hK K
    iterate 9
      with_reducible refine wpQuiet_skip ?_
      intro K hK
      refine And.intro ?_ ?_
      · kernel_rfl
      go_simp
      with_reducible refine hK _ ?_
      clear hK K
    iterate 1
      refine wpQuiet_val (v := ?_) ?_
      rotate_left 1
      intro K hK
      refine ⟨by kernel_rfl, fun w9 hw9 => ?_, ?_⟩
      · subst hw9; go_simp; try with_reducible rfl
      go_simp
      with_reducible refine hK _ ?_
      clear hK K
    refine wpQuiet_nil ?_
    rintro w18 rfl
    clear y0 q2 k0 k3
    have k0 := H9.out.cell (i := 0) rfl
    have k3 := H9.out.cell (i := 3) rfl
    have k5 := H9.out.cell (i := 5) rfl
    have k7 := H9.out.cell (i := 7) rfl
    have f0 := H9.out.free (i := 0)
    have f3 := H9.out.free (i := 3)
    have f4 := H9.out.free (i := 4)
    have f5 := H9.out.free (i := 5)
    have f7 := H9.out.free (i := 7)
    have kl := H9.out.lt
    have hw1 : wrap64 (s.pages + 1) = s.pages + 1 := wrap64_mid (x := s.pages + 1) (by have := HPG.out; omega) (by have := HPG.out; omega)
    have h10 := ((((H9.out.set (i := 0) (v := .int .i64 2)).set (i := 3) (v := .int .i64 o.at_)).set (i := 4) (v := .int .i64 (s.pages + 1))).set (i := 7) (v := .bool false)).set (i := 5) (v := .int .i64 0)
    have H10 := Lib.hid (show Sat W (pts b (stO ({ s with part := 2, last := o.at_, pages := s.pages + 1, font := false, deep := 0 } : StM) dv av pv tv) * _) _ from h10)
    clear h10
    go_wp2
    go_ret
    exact ⟨rfl, (Lib.hid (show StAt W (pts b3 (ropO o.code o.at_ (.slice (some ⟨g, off, none⟩) o.args.length ca) ⟨o.text.toArray⟩) * A) V b ({ s with part := 2, last := o.at_, pages := s.pages + 1, font := false, deep := 0 } : StM) _ from ⟨dv, av, pv, tv, H1.out, H10.out⟩)).out.less⟩
set_option maxRecDepth 100000 in
set_option maxHeartbeats 4000000 in
theorem st_post {V : List (Cmd × Value)} {b : Nat} {s : StM} {a : Option Addr} {ca : Nat} (o : Cmd) (hp : s.part = 1) (hc : o.code = 248) (hal : o.args.length = 8) (hpl : 4 ≤ s.pre.args.length) (hm : (o, .slice a o.args.length ca) ∈ V) (hV : ∀ w', Sat W A w' → ∀ x ∈ V, Rd w' x.2 x.1.args.length 1 (intsL x.1.args)) (h : StAt W A V b s w) :
    Calls Try.prog 36 #[.pointer (some ⟨b, 0, none⟩), o.val (.slice a o.args.length ca)] w fun e w' => e = .returned (.bool (s.post_ o).2) ∧ StAt W A V b (s.post_ o).1 w' := by
  have hx := h.allocX (ropO o.code o.at_ (.slice a o.args.length ca) ⟨o.text.toArray⟩)
  obtain ⟨b3, hb3⟩ : ∃ b3, w.heap.size = b3 := ⟨_, rfl⟩
  rw [hb3] at hx
  obtain ⟨W1, hW1⟩ : ∃ W1, w.alloc (ropO o.code o.at_ (.slice a o.args.length ca) ⟨o.text.toArray⟩) = W1 := ⟨_, rfl⟩
  rw [hW1] at hx
  have hV2 : ∀ w', Sat W (pts b3 (ropO o.code o.at_ (.slice a o.args.length ca) ⟨o.text.toArray⟩) * A) w' → ∀ x ∈ V, Rd w' x.2 x.1.args.length 1 (intsL x.1.args) := fun w' h => hV w' h.r
  have HF := Lib.hid (by have hf := post_any o hal hpl hm hV2 hx; unfold Cmd.val at hf; rw [hc] at hf; exact hf)
  have HW1 := Lib.hid hW1
  obtain ⟨dv, av, pv, tv, h1, h2⟩ := hx
  have q0 := h2.r.r.r.cell (i := 0) rfl
  have q1 := h2.r.r.r.cell (i := 1) rfl
  have q2 := h2.r.r.r.cell (i := 2) rfl
  have q3 := h2.r.r.r.cell (i := 3) rfl
  have k0 := h2.cell (i := 0) rfl
  have kl := h2.lt
  have f0 := h2.free (i := 0)
  have nb : b ≠ b3 := Sat.ne3 h2
  have nb2 : ¬ b = b3 := nb
  have nb3 : ¬ b3 = b := fun h => nb h.symm
  have H1 := Lib.hid h1
  have H2 := Lib.hid h2
  have p0 : (s.part == 0) = false := by rw [beq_eq_false_iff_ne]; omega
  rw [hp] at k0
  have HC := Lib.hid hc
  clear h h1 h2 hc hm hV hV2 hal hpl hW1 p0
  unfold Cmd.val at HF ⊢
  go_enter Try.func36, Try.ntmps36
  go_upto_region 1 with fail
  rw [HW1.out]
  clear hb3 HW1
  rw [HC.out] at q0
  have i9 : ((248 : Nat) : Int) = 248 := rfl
  go_wp2_with fail
  with_reducible refine Calls.mono HF.out ?_
  rintro e w3 ⟨rfl, h3⟩
  have H3 := Lib.hid h3.less
  clear h3 q0 q1 q2 q3 k0 kl f0 HF
  go_wp2
  go_ret
  exact ⟨rfl, H3.out⟩
set_option maxRecDepth 100000 in
set_option maxHeartbeats 4000000 in
theorem st_nopost {V : List (Cmd × Value)} {b : Nat} {s : StM} {a : Option Addr} {ca : Nat} (o : Cmd) (hp : s.part ≠ 0) (hp1 : s.part ≠ 1) (hc : o.code = 248) (h : StAt W A V b s w) :
    Calls Try.prog 36 #[.pointer (some ⟨b, 0, none⟩), o.val (.slice a o.args.length ca)] w fun e w' => e = .returned (.bool false) ∧ StAt W A V b s w' := by
  have hx := h.allocX (ropO o.code o.at_ (.slice a o.args.length ca) ⟨o.text.toArray⟩)
  obtain ⟨b3, hb3⟩ : ∃ b3, w.heap.size = b3 := ⟨_, rfl⟩
  rw [hb3] at hx
  obtain ⟨dv, av, pv, tv, h1, h2⟩ := hx
  have q0 := h2.r.r.r.cell (i := 0) rfl
  have q1 := h2.r.r.r.cell (i := 1) rfl
  have q2 := h2.r.r.r.cell (i := 2) rfl
  have q3 := h2.r.r.r.cell (i := 3) rfl
  have k0 := h2.cell (i := 0) rfl
  have kl := h2.lt
  have f0 := h2.free (i := 0)
  have nb : b ≠ b3 := Sat.ne3 h2
  have nb2 : ¬ b = b3 := nb
  have nb3 : ¬ b3 = b := fun h => nb h.symm
  have H1 := Lib.hid h1
  have H2 := Lib.hid h2
  have p0 : (s.part == 0) = false := by rw [beq_eq_false_iff_ne]; exact hp
  have p1 : (s.part == 1) = false := by rw [beq_eq_false_iff_ne]; exact hp1
  have HC := Lib.hid hc
  clear h h1 h2 hc
  unfold Cmd.val
  go_enter Try.func36, Try.ntmps36
  go_upto_region 1 with fail
  generalize w.alloc (.cells #[.int .i64 o.code, .int .i64 o.at_, .slice a o.args.length ca, .string ⟨o.text.toArray⟩] 34) = W1 at *
  clear hb3
  rw [HC.out] at q0
  have i9 : ((248 : Nat) : Int) = 248 := rfl
  go_wp2
  go_ret
  exact ⟨rfl, (Lib.hid (show StAt W (pts b3 (ropO o.code o.at_ (.slice a o.args.length ca) ⟨o.text.toArray⟩) * A) V b s _ from ⟨dv, av, pv, tv, H1.out, H2.out⟩)).out.less⟩
set_option maxRecDepth 100000 in
set_option maxHeartbeats 4000000 in
theorem st_page {V : List (Cmd × Value)} {b : Nat} {s : StM} {a : Option Addr} {ca : Nat} (o : Cmd) (hp : s.part = 2) (hc : (o.code ≤ 137 ∨ (140 ≤ o.code ∧ o.code ≤ 242))) (hs : -2000000000 ≤ s.deep ∧ s.deep ≤ 2000000000) (hl : s.defs.length ≤ 4000000) (hal : 235 ≤ o.code ∧ o.code ≤ 238 → 0 < o.args.length) (hr : ∀ w', Sat W A w' → Rd w' (.slice a o.args.length ca) o.args.length 1 (intsL o.args)) (h : StAt W A V b s w) :
    Calls Try.prog 36 #[.pointer (some ⟨b, 0, none⟩), o.val (.slice a o.args.length ca)] w fun e w' => e = .returned (.bool (s.page o).2) ∧ StAt W A V b (s.page o).1 w' := by
  have hx := h.allocX (ropO o.code o.at_ (.slice a o.args.length ca) ⟨o.text.toArray⟩)
  obtain ⟨b3, hb3⟩ : ∃ b3, w.heap.size = b3 := ⟨_, rfl⟩
  rw [hb3] at hx
  obtain ⟨W1, hW1⟩ : ∃ W1, w.alloc (ropO o.code o.at_ (.slice a o.args.length ca) ⟨o.text.toArray⟩) = W1 := ⟨_, rfl⟩
  rw [hW1] at hx
  have HF := Lib.hid (page_any o (by omega) hs hl hal (hr _ hx.sat.r) hx)
  have HW1 := Lib.hid hW1
  obtain ⟨dv, av, pv, tv, h1, h2⟩ := hx
  have q0 := h2.r.r.r.cell (i := 0) rfl
  have q1 := h2.r.r.r.cell (i := 1) rfl
  have q2 := h2.r.r.r.cell (i := 2) rfl
  have q3 := h2.r.r.r.cell (i := 3) rfl
  have k0 := h2.cell (i := 0) rfl
  have kl := h2.lt
  have f0 := h2.free (i := 0)
  have nb : b ≠ b3 := Sat.ne3 h2
  have nb2 : ¬ b = b3 := nb
  have nb3 : ¬ b3 = b := fun h => nb h.symm
  have H1 := Lib.hid h1
  have H2 := Lib.hid h2
  have p0 : (s.part == 0) = false := by rw [beq_eq_false_iff_ne]; omega
  rw [hp] at k0
  have e138 : ((o.code : Int) == 138) = false := by rw [beq_eq_false_iff_ne]; omega
  have n138 : ¬ ((o.code : Int) = 138) := by omega
  have e247 : ((o.code : Int) == 247) = false := by rw [beq_eq_false_iff_ne]; omega
  have n247 : ¬ ((o.code : Int) = 247) := by omega
  have e139 : ((o.code : Int) == 139) = false := by rw [beq_eq_false_iff_ne]; omega
  have n139 : ¬ ((o.code : Int) = 139) := by omega
  have e248 : ((o.code : Int) == 248) = false := by rw [beq_eq_false_iff_ne]; omega
  have n248 : ¬ ((o.code : Int) = 248) := by omega
  have e249 : ((o.code : Int) == 249) = false := by rw [beq_eq_false_iff_ne]; omega
  have n249 : ¬ ((o.code : Int) = 249) := by omega
  have c1 : (decide ((243 : Int) ≤ (o.code : Int))) = false := by rw [decide_eq_false_iff_not]; omega
  have c2 : ¬ (243 : Int) ≤ (o.code : Int) := by omega
  clear h h1 h2 hc hr hal hs hl hW1 p0
  unfold Cmd.val at HF ⊢
  go_enter Try.func36, Try.ntmps36
  go_upto_region 1 with fail
  rw [HW1.out]
  clear hb3 HW1
  go_wp2_with fail
  with_reducible refine Calls.mono HF.out ?_
  rintro e w3 ⟨rfl, h3⟩
  have H3 := Lib.hid h3.less
  clear h3 q0 q1 q2 q3 k0 kl f0 HF
  go_wp2
  go_ret
  exact ⟨rfl, H3.out⟩
set_option maxRecDepth 100000 in
set_option maxHeartbeats 4000000 in
theorem st_nopage {V : List (Cmd × Value)} {b : Nat} {s : StM} {a : Option Addr} {ca : Nat} (o : Cmd) (hp : s.part ≠ 0) (hp2 : s.part ≠ 2) (hc : (o.code ≤ 137 ∨ (140 ≤ o.code ∧ o.code ≤ 242))) (h : StAt W A V b s w) :
    Calls Try.prog 36 #[.pointer (some ⟨b, 0, none⟩), o.val (.slice a o.args.length ca)] w fun e w' => e = .returned (.bool false) ∧ StAt W A V b s w' := by
  have hx := h.allocX (ropO o.code o.at_ (.slice a o.args.length ca) ⟨o.text.toArray⟩)
  obtain ⟨b3, hb3⟩ : ∃ b3, w.heap.size = b3 := ⟨_, rfl⟩
  rw [hb3] at hx
  obtain ⟨dv, av, pv, tv, h1, h2⟩ := hx
  have q0 := h2.r.r.r.cell (i := 0) rfl
  have q1 := h2.r.r.r.cell (i := 1) rfl
  have q2 := h2.r.r.r.cell (i := 2) rfl
  have q3 := h2.r.r.r.cell (i := 3) rfl
  have k0 := h2.cell (i := 0) rfl
  have kl := h2.lt
  have f0 := h2.free (i := 0)
  have nb : b ≠ b3 := Sat.ne3 h2
  have nb2 : ¬ b = b3 := nb
  have nb3 : ¬ b3 = b := fun h => nb h.symm
  have H1 := Lib.hid h1
  have H2 := Lib.hid h2
  have p0 : (s.part == 0) = false := by rw [beq_eq_false_iff_ne]; exact hp
  have p1 : (s.part == 2) = false := by rw [beq_eq_false_iff_ne]; exact hp2
  have e138 : ((o.code : Int) == 138) = false := by rw [beq_eq_false_iff_ne]; omega
  have n138 : ¬ ((o.code : Int) = 138) := by omega
  have e247 : ((o.code : Int) == 247) = false := by rw [beq_eq_false_iff_ne]; omega
  have n247 : ¬ ((o.code : Int) = 247) := by omega
  have e139 : ((o.code : Int) == 139) = false := by rw [beq_eq_false_iff_ne]; omega
  have n139 : ¬ ((o.code : Int) = 139) := by omega
  have e248 : ((o.code : Int) == 248) = false := by rw [beq_eq_false_iff_ne]; omega
  have n248 : ¬ ((o.code : Int) = 248) := by omega
  have e249 : ((o.code : Int) == 249) = false := by rw [beq_eq_false_iff_ne]; omega
  have n249 : ¬ ((o.code : Int) = 249) := by omega
  have c1 : (decide ((243 : Int) ≤ (o.code : Int))) = false := by rw [decide_eq_false_iff_not]; omega
  have c2 : ¬ (243 : Int) ≤ (o.code : Int) := by omega
  clear h h1 h2 hc
  unfold Cmd.val
  go_enter Try.func36, Try.ntmps36
  go_upto_region 1 with fail
  generalize w.alloc (.cells #[.int .i64 o.code, .int .i64 o.at_, .slice a o.args.length ca, .string ⟨o.text.toArray⟩] 34) = W1 at *
  clear hb3
  go_wp2
  go_ret
  exact ⟨rfl, (Lib.hid (show StAt W (pts b3 (ropO o.code o.at_ (.slice a o.args.length ca) ⟨o.text.toArray⟩) * A) V b s _ from ⟨dv, av, pv, tv, H1.out, H2.out⟩)).out.less⟩
set_option maxRecDepth 100000 in
set_option maxHeartbeats 4000000 in
theorem st_end {V : List (Cmd × Value)} {b : Nat} {s : StM} {a : Option Addr} {ca : Nat} (o : Cmd) (hp : s.part ≠ 0) (hc : o.code = 249) (hal : o.args.length = 2) (hm : (o, .slice a o.args.length ca) ∈ V) (hV : ∀ w', Sat W A w' → ∀ x ∈ V, Rd w' x.2 x.1.args.length 1 (intsL x.1.args)) (h : StAt W A V b s w) :
    Calls Try.prog 36 #[.pointer (some ⟨b, 0, none⟩), o.val (.slice a o.args.length ca)] w fun e w' => e = .returned (.bool (s.part == 3 && (o.args.getD 0 0 == s.post && (o.args.getD 1 0 == 2 && s.again.length == s.defs.length)))) ∧ StAt W A V b ({ s with part := 4 } : StM) w' := by
  obtain ⟨x0, hx0⟩ : ∃ x, o.args.getD 0 0 = x := ⟨_, rfl⟩
  obtain ⟨x1, hx1⟩ : ∃ x, o.args.getD 1 0 = x := ⟨_, rfl⟩
  obtain ⟨R0, hR0⟩ : ∃ R0, (s.part == 3 && (x0 == s.post && (x1 == 2 && s.again.length == s.defs.length))) = R0 := ⟨_, rfl⟩
  rw [hx0, hx1, hR0]
  have HX0 := Lib.hid hx0
  have HX1 := Lib.hid hx1
  have HR0 := Lib.hid hR0
  clear hx0 hx1 hR0
  have hx := h.allocX (ropO o.code o.at_ (.slice a o.args.length ca) ⟨o.text.toArray⟩)
  obtain ⟨b3, hb3⟩ : ∃ b3, w.heap.size = b3 := ⟨_, rfl⟩
  rw [hb3] at hx
  obtain ⟨dv, av, pv, tv, h1, h2⟩ := hx
  have q0 := h2.r.r.r.cell (i := 0) rfl
  have q1 := h2.r.r.r.cell (i := 1) rfl
  have q2 := h2.r.r.r.cell (i := 2) rfl
  have q3 := h2.r.r.r.cell (i := 3) rfl
  have k0 := h2.cell (i := 0) rfl
  have kl := h2.lt
  have f0 := h2.free (i := 0)
  have nb : b ≠ b3 := Sat.ne3 h2
  have nb2 : ¬ b = b3 := nb
  have nb3 : ¬ b3 = b := fun h => nb h.symm
  have H1 := Lib.hid h1
  have H2 := Lib.hid h2
  have p0 : (s.part == 0) = false := by rw [beq_eq_false_iff_ne]; exact hp
  have HC := Lib.hid hc
  have HAL := Lib.hid hal
  have HM := Lib.hid hm
  have HV := Lib.hid hV
  clear h h1 h2 hc hal hm hV
  unfold Cmd.val
  go_enter Try.func36, Try.ntmps36
  go_upto_region 1 with fail
  generalize w.alloc (.cells #[.int .i64 o.code, .int .i64 o.at_, .slice a o.args.length ca, .string ⟨o.text.toArray⟩] 34) = W1 at *
  clear hb3
  rw [HC.out] at q0
  have i9 : ((249 : Nat) : Int) = 249 := rfl
  go_upto_region 23 with fail
  clear q0 q1 q2 q3 k0 kl f0
  obtain ⟨W9, hW9⟩ : ∃ W9, W1.drew = W9 := ⟨_, rfl⟩
  have h9 := H2.out.drew
  rw [hW9] at h9
  have hr := HV.out _ h9.r.r.r.r _ HM.out
  simp only at hr
  have hal := HAL.out
  obtain ⟨g, off, ha, y0⟩ := rd_arg hr 0 (by omega)
  subst ha
  obtain ⟨g2, o2, ha2, y1⟩ := rd_arg hr 1 (by omega)
  cases ha2
  rw [Nat.add_zero] at y0
  obtain ⟨da, dc, hdv, -⟩ := h9.r.row_val
  subst hdv
  obtain ⟨aa, ac, hav, -⟩ := h9.r.r.row_val
  subst hav
  rw [HX0.out] at y0
  rw [HX1.out] at y1
  have q2 := h9.r.r.r.cell (i := 2) rfl
  have k0 := h9.cell (i := 0) rfl
  have k1 := h9.cell (i := 1) rfl
  have k2 := h9.cell (i := 2) rfl
  have k8 := h9.cell (i := 8) rfl
  have H9 := Lib.hid h9
  obtain ⟨n5, hn5⟩ : ∃ n, o.args.length = n := ⟨_, rfl⟩
  rw [hn5] at q2 hal
  have l5 : 0 < n5 := by omega
  have i5 : (0 : Int) < (n5 : Int) := by omega
  have l6 : 1 < n5 := by omega
  have i6 : (1 : Int) < (n5 : Int) := by omega
  clear h9 hr hal H2 hp p0
  by_cases p1 : s.part = 3
  · obtain ⟨m1, hm1⟩ : ∃ m : Bool, (x0 == s.post) = !m := ⟨!(x0 == s.post), by simp⟩
    obtain ⟨b1, hb1⟩ : ∃ m : Bool, (x1 == 2) = m := ⟨_, rfl⟩
    obtain ⟨b2, hb2⟩ : ∃ m : Bool, ((s.again.length : Int) == (s.defs.length : Int)) = m := ⟨_, rfl⟩
    obtain ⟨m2, hm2⟩ : ∃ m : Bool, (!m1 && b1) = !m := ⟨!(!m1 && b1), by simp⟩
    obtain ⟨m3, hm3⟩ : ∃ m : Bool, (!m2 && b2) = !m := ⟨!(!m2 && b2), by simp⟩
    have HR := Lib.hid (show R0 = !m3 from by
      rw [← HR0.out]
      have e : (s.again.length == s.defs.length) = ((s.again.length : Int) == (s.defs.length : Int)) := by
        rw [Bool.eq_iff_iff, beq_iff_eq, beq_iff_eq]
        omega
      rw [e, ← hm3, ← hm2, ← hm1, hb1, hb2, p1]
      simp [Bool.and_assoc])
    rw [p1] at k0
    have hmv := mayV_false
    clear p1
    refine wp_region_tail (fun w' => w' = W9) 36 (by kernel_rfl) (by kernel_rfl) hW9 ?_
    simp only [List.take_succ_cons, List.take_zero, List.drop_succ_cons, List.drop_zero]
    clear hW9
    iterate 17
      refine wpQuiet_val (v := ?_) ?_
      rotate_left 1
      intro K hK
      refine ⟨by kernel_rfl, fun w9 hw9 => ?_, ?_⟩
      · subst hw9; go_simp; try with_reducible rfl
      go_simp
      with_reducible refine hK _ ?_
      clear hK K
    iterate 5
      refine wpQuiet_maybe m1 (v := ?_) ?_
      rotate_left 1
      intro K hK
      refine ⟨by cases m1 <;> kernel_rfl, fun hb9 w9 hw9 => ?_, ?_⟩
      · subst hw9; go_simp; try with_reducible rfl
      go_simp
      with_reducible refine hK _ ?_
      clear hK K
    refine wpQuiet_val (v := .bool (!m2)) ?_
    intro K hK
    refine ⟨by kernel_rfl, fun w9 hw9 => ?_, ?_⟩
    · subst hw9; cases m1 <;> (go_simp; first | done | (rw [← hm2]; rfl) | (simpa using hm2) | (simpa using hm2.symm))
    go_simp
    with_reducible refine hK _ ?_
    clear hK K
    iterate 1
      refine wpQuiet_val (v := ?_) ?_
      rotate_left 1
      intro K hK
      refine ⟨by kernel_rfl, fun w9 hw9 => ?_, ?_⟩
      · subst hw9; go_simp; try with_reducible rfl
      go_simp
      with_reducible refine hK _ ?_
      clear hK K
    iterate 11
      refine wpQuiet_maybe m2 (v := ?_) ?_
      rotate_left 1
      intro K hK
      refine ⟨by cases m2 <;> kernel_rfl, fun hb9 w9 hw9 => ?_, ?_⟩
      · subst hw9; go_simp; try with_reducible rfl
      go_simp
      with_reducible refine hK _ ?_
      clear hK K
    refine wpQuiet_val (v := .bool (!m3)) ?_
    intro K hK
    refine ⟨by kernel_rfl, fun w9 hw9 => ?_, ?_⟩
    · subst hw9; cases m2 <;> (go_simp; first | done | (rw [← hm3]; rfl) | (simpa using hm3) | (simpa using hm3.symm))
    go_simp
    with_reducible refine hK _ ?_
    clear hK K
    clear hm1 hm2 hm3 hb1 hb2 hmv
    refine wpQuiet_nil ?_
    rintro w18 rfl
    clear y0 y1 q2 k0 k1 k2 k8
    have k0 := H9.out.cell (i := 0) rfl
    have f0 := H9.out.free (i := 0)
    have kl := H9.out.lt
    have h10 := H9.out.set (i := 0) (v := .int .i64 4)
    have H10 := Lib.hid (show Sat W (pts b (stO ({ s with part := 4 } : StM) (.slice da s.defs.length dc) (.slice aa s.again.length ac) pv tv) * _) _ from h10)
    clear h10
    go_wp2
    go_ret
    exact ⟨by rw [HR.out] <;> rfl, (Lib.hid (show StAt W (pts b3 (ropO o.code o.at_ (.slice (some ⟨g, off, none⟩) o.args.length ca) ⟨o.text.toArray⟩) * A) V b ({ s with part := 4 } : StM) _ from ⟨_, _, pv, tv, H1.out, H10.out⟩)).out.less⟩
  · have p1b : (s.part == 3) = false := by rw [beq_eq_false_iff_ne]; exact p1
    have HR := Lib.hid (show R0 = false from by rw [← HR0.out, p1b]; rfl)
    refine wp_region_tail (fun w' => w' = W9) 36 (by kernel_rfl) (by kernel_rfl) hW9 ?_
    simp only [List.take_succ_cons, List.take_zero, List.drop_succ_cons, List.drop_zero]
    clear hW9
    iterate 6
      refine wpQuiet_val (v := ?_) ?_
      rotate_left 1
      intro K hK
      refine ⟨by kernel_rfl, fun w9 hw9 => ?_, ?_⟩
      · subst hw9; go_simp; try with_reducible rfl
      go_simp
      with_reducible refine hK _ ?_
      clear hK K
    iterate 9
      with_reducible refine wpQuiet_skip ?_
      intro K hK
      refine And.intro ?_ ?_
      · kernel_rfl
      go_simp
      with_reducible refine hK _ ?_
      clear hK K
    iterate 2
      refine wpQuiet_val (v := ?_) ?_
      rotate_left 1
      intro K hK
      refine ⟨by kernel_rfl, fun w9 hw9 => ?_, ?_⟩
      · subst hw9; go_simp; try with_reducible rfl
      go_simp
      with_reducible refine hK _ ?_
      clear hK K
    iterate 5
      with_reducible refine wpQuiet_skip ?_
      intro K hK
      refine And.intro ?_ ?_
      · kernel_rfl
      go_simp
      with_reducible refine hK _ ?_
      clear hK K
    iterate 2
      refine wpQuiet_val (v := ?_) ?_
      rotate_left 1
      intro K hK
      refine ⟨by kernel_rfl, fun w9 hw9 => ?_, ?_⟩
      · subst hw9; go_simp; try with_reducible rfl
      go_simp
      with_reducible refine hK _ ?_
      clear hK K
    iterate 11
      with_reducible refine wpQuiet_skip ?_
      intro K hK
      refine And.intro ?_ ?_
      · kernel_rfl
      go_simp
      with_reducible refine hK _ ?_
      clear hK K
    iterate 1
      refine wpQuiet_val (v := ?_) ?_
      rotate_left 1
      intro K hK
      refine ⟨by kernel_rfl, fun w9 hw9 => ?_, ?_⟩
      · subst hw9; go_simp; try with_reducible rfl
      go_simp
      with_reducible refine hK _ ?_
      clear hK K
    clear p1 p1b
    refine wpQuiet_nil ?_
    rintro w18 rfl
    clear y0 y1 q2 k0 k1 k2 k8
    have k0 := H9.out.cell (i := 0) rfl
    have f0 := H9.out.free (i := 0)
    have kl := H9.out.lt
    have h10 := H9.out.set (i := 0) (v := .int .i64 4)
    have H10 := Lib.hid (show Sat W (pts b (stO ({ s with part := 4 } : StM) (.slice da s.defs.length dc) (.slice aa s.again.length ac) pv tv) * _) _ from h10)
    clear h10
    go_wp2
    go_ret
    exact ⟨by rw [HR.out] <;> rfl, (Lib.hid (show StAt W (pts b3 (ropO o.code o.at_ (.slice (some ⟨g, off, none⟩) o.args.length ca) ⟨o.text.toArray⟩) * A) V b ({ s with part := 4 } : StM) _ from ⟨_, _, pv, tv, H1.out, H10.out⟩)).out.less⟩

end Go.Proofs.Ytjeinldhbajknaa

/-
  The document's step, whole; bounds. Conditions: those that each theorem names.
-/
namespace Go.Proofs.Ytjeinldhbajknaa
open Go.RowKit Go.Sp Go.Conc
variable {W w w' : World} {A : HProp}

/-- what holds of a state of so many commands -/
structure StM.Fits (s : StM) (n : Nat) : Prop where
  deep : -(n : Int) ≤ s.deep ∧ s.deep ≤ n
  pages : 0 ≤ s.pages ∧ s.pages ≤ n
  defs : s.defs.length ≤ n
  again : s.again.length ≤ n
  pre : s.part ≠ 0 → s.pre.args.length = 5
  tail : s.part = 3 ∨ s.part = 4 → s.tail.args.length = 8
theorem start_fits : StM.start.Fits 0 := ⟨⟨by decide, by decide⟩, ⟨by decide, by decide⟩, Nat.le_refl _, Nat.le_refl _, fun h => absurd rfl h, fun h => by rcases h with h | h <;> cases h⟩
theorem StM.Fits.le {s : StM} {n m : Nat} (h : s.Fits n) (hm : n ≤ m) : s.Fits m :=
  ⟨⟨by have := h.deep; omega, by have := h.deep; omega⟩, ⟨h.pages.1, by have := h.pages; omega⟩, by have := h.defs; omega, by have := h.again; omega, h.pre, h.tail⟩

theorem StM.Fits.fontDef {s : StM} {n : Nat} (h : s.Fits n) (d : DefM) : (s.fontDef d).1.Fits (n + 1) := by
  have h2 := h.le (Nat.le_succ n)
  have hd := h.defs
  have ha := h.again
  unfold StM.fontDef
  split
  · exact h2
  split
  · split
    · exact h2
    · exact ⟨h2.deep, h2.pages, h2.defs, by simp only [List.length_append, List.length_singleton]; omega, h.pre, h.tail⟩
  · split
    · exact h2
    · exact ⟨h2.deep, h2.pages, by simp only [List.length_append, List.length_singleton]; omega, h2.again, h.pre, h.tail⟩
theorem StM.Fits.page {s : StM} {n : Nat} (h : s.Fits n) (hp : s.part = 2) (o : Cmd) : (s.page o).1.Fits (n + 1) := by
  have h2 := h.le (Nat.le_succ n)
  have hd := h.deep
  have hpr := h.pre (by omega)
  unfold StM.page
  split
  · exact h2
  split
  · exact ⟨h2.deep, h2.pages, h2.defs, h2.again, fun _ => hpr, fun h => by rcases h with h | h <;> cases h⟩
  split
  · exact ⟨⟨by simp only; omega, by simp only; omega⟩, h2.pages, h2.defs, h2.again, h.pre, h.tail⟩
  split
  · exact ⟨⟨by simp only; omega, by simp only; omega⟩, h2.pages, h2.defs, h2.again, h.pre, h.tail⟩
  split
  · exact ⟨h2.deep, h2.pages, h2.defs, h2.again, h.pre, h.tail⟩
  · exact h2
theorem StM.Fits.step {s : StM} {n : Nat} (h : s.Fits n) (o : Cmd) (hw : o.Wf) (hok : (s.step o).2 = true) : (s.step o).1.Fits (n + 1) := by
  have h2 := h.le (Nat.le_succ n)
  have hpg := h.pages
  unfold StM.step at hok ⊢
  split
  · rename_i hp
    rw [if_pos hp] at hok
    have h247 : o.code = 247 := by
      simp only [firstOk, Bool.and_eq_true, beq_iff_eq] at hok
      exact hok.1
    refine ⟨h2.deep, h2.pages, h2.defs, h2.again, fun _ => ?_, fun h => by rcases h with h | h <;> cases h⟩
    simp only
    rw [hw.1, h247]
    rfl
  rename_i hp
  rw [if_neg hp] at hok
  split
  · exact h.fontDef _
  rename_i c1
  rw [if_neg c1] at hok
  split
  · exact h2
  rename_i c2
  rw [if_neg c2] at hok
  split
  · exact h2
  rename_i c3
  rw [if_neg c3] at hok
  split
  · exact ⟨⟨by simp only; omega, by simp only; omega⟩, ⟨by simp only; omega, by simp only; omega⟩, h2.defs, h2.again, fun _ => h.pre hp, fun h => by rcases h with h | h <;> cases h⟩
  rename_i c4
  rw [if_neg c4] at hok
  split
  · rename_i c5
    split
    · refine ⟨h2.deep, h2.pages, h2.defs, h2.again, fun _ => h.pre hp, fun _ => ?_⟩
      unfold StM.post_
      simp only
      rw [hw.1, c5]
      rfl
    · exact h2
  rename_i c5
  rw [if_neg c5] at hok
  split
  · rename_i c6
    rw [if_pos c6] at hok
    refine ⟨h2.deep, h2.pages, h2.defs, h2.again, fun _ => h.pre hp, fun _ => ?_⟩
    simp only [Bool.and_eq_true, beq_iff_eq] at hok
    exact h.tail (.inl hok.1)
  split
  · rename_i hp2
    exact h.page hp2 o
  · exact h2

theorem step_any {V : List (Cmd × Value)} {b : Nat} {s : StM} {a : Option Addr} {ca : Nat} (o : Cmd) {n : Nat} (hn : n ≤ 1048576) (hf : s.Fits n) (hw : o.Wf) (hc : o.code ≤ 249)
    (hm : (o, .slice a o.args.length ca) ∈ V) (hV : ∀ w', Sat W A w' → ∀ x ∈ V, Rd w' x.2 x.1.args.length 1 (intsL x.1.args)) (h : StAt W A V b s w) :
    Calls Try.prog 36 #[.pointer (some ⟨b, 0, none⟩), o.val (.slice a o.args.length ca)] w fun e w' => e = .returned (.bool (s.step o).2) ∧ StAt W A V b (s.step o).1 w' := by
  have hlen : ∀ k : Nat, o.code = k → o.args.length = (sizesM k).length := fun k hk => by rw [hw.1, hk]
  have hfd := hf.deep
  have hfp := hf.pages
  have hfe := hf.defs
  have hfa := hf.again
  by_cases hp : s.part = 0
  · have e : s.step o = ({ s with part := 1, pre := o }, firstOk o) := by unfold StM.step; rw [if_pos hp]
    rw [e]
    by_cases h7 : o.code = 247
    · exact st_yes o hp h7 (hlen 247 h7) hm hV h
    · have e2 : firstOk o = false := by
        unfold firstOk
        rw [beq_eq_false_iff_ne.2 h7]
        rfl
      rw [e2]
      exact st_no o hp h7 hm hV h
  by_cases c1 : 243 ≤ o.code ∧ o.code ≤ 246
  · have e : s.step o = s.fontDef o.def_ := by unfold StM.step; rw [if_neg hp, if_pos c1]
    rw [e]
    refine st_def o hp c1 ?_ (by omega) (by omega) hm hV h
    obtain h | h | h | h : o.code = 243 ∨ o.code = 244 ∨ o.code = 245 ∨ o.code = 246 := by omega
    all_goals (rw [hlen _ h]; decide)
  by_cases c2 : o.code = 138
  · have e : s.step o = (s, true) := by unfold StM.step; rw [if_neg hp, if_neg c1, if_pos c2]
    rw [e]
    exact st_nop o hp c2 h
  by_cases c3 : o.code = 247
  · have e : s.step o = (s, false) := by unfold StM.step; rw [if_neg hp, if_neg c1, if_neg c2, if_pos c3]
    rw [e]
    exact st_pre o hp c3 h
  by_cases c4 : o.code = 139
  · have e : s.step o = ({ s with part := 2, last := o.at_, pages := s.pages + 1, font := false, deep := 0 }, s.part == 1 && o.args.getD 10 0 == s.last) := by
      unfold StM.step; rw [if_neg hp, if_neg c1, if_neg c2, if_neg c3, if_pos c4]
    rw [e]
    exact st_bop o hp c4 (hlen 139 c4) ⟨by omega, by omega⟩ hm hV h
  by_cases c5 : o.code = 248
  · by_cases hp1 : s.part = 1
    · have e : s.step o = s.post_ o := by unfold StM.step; rw [if_neg hp, if_neg c1, if_neg c2, if_neg c3, if_neg c4, if_pos c5, if_pos hp1]
      rw [e]
      exact st_post o hp1 c5 (hlen 248 c5) (by rw [hf.pre hp]; omega) hm hV h
    · have e : s.step o = (s, false) := by unfold StM.step; rw [if_neg hp, if_neg c1, if_neg c2, if_neg c3, if_neg c4, if_pos c5, if_neg hp1]
      rw [e]
      exact st_nopost o hp hp1 c5 h
  by_cases c6 : o.code = 249
  · have e : s.step o = ({ s with part := 4 }, s.part == 3 && (o.args.getD 0 0 == s.post && (o.args.getD 1 0 == 2 && s.again.length == s.defs.length))) := by
      unfold StM.step; rw [if_neg hp, if_neg c1, if_neg c2, if_neg c3, if_neg c4, if_neg c5, if_pos c6]
    rw [e]
    exact st_end o hp c6 (hlen 249 c6) hm hV h
  have hr : o.code ≤ 137 ∨ (140 ≤ o.code ∧ o.code ≤ 242) := by omega
  by_cases hp2 : s.part = 2
  · have e : s.step o = s.page o := by unfold StM.step; rw [if_neg hp, if_neg c1, if_neg c2, if_neg c3, if_neg c4, if_neg c5, if_neg c6, if_pos hp2]
    rw [e]
    refine st_page o hp2 hr (by omega) (by omega) (fun hh => ?_) (fun w' h => hV w' h _ hm) h
    obtain h | h | h | h : o.code = 235 ∨ o.code = 236 ∨ o.code = 237 ∨ o.code = 238 := by omega
    all_goals (rw [hlen _ h]; decide)
  · have e : s.step o = (s, false) := by unfold StM.step; rw [if_neg hp, if_neg c1, if_neg c2, if_neg c3, if_neg c4, if_neg c5, if_neg c6, if_neg hp2]
    rw [e]
    exact st_nopage o hp hp2 hr h

end Go.Proofs.Ytjeinldhbajknaa
