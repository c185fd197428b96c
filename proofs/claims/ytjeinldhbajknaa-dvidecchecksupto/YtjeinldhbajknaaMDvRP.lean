import Derived.Test.YtjeinldhbajknaaMRM
import Derived.Test.YtjeinldhbajknaaMDvRO
/-
  The document's fontDef. Conditions: those that each theorem names.
-/
namespace Go.Proofs.Ytjeinldhbajknaa
open Go.RowKit Go.Sp Go.Conc
variable {W w w' : World} {A : HProp}

/-- an operation that is not wanted -/
theorem wpQuiet_skip {P : Program} {ops : Array Oper} {C : World → Prop} {Q : Act → Prop} {a : Act} {o : Oper} {rest : List Oper}
    (h : ∀ K : Act → Prop, (∀ a, wpQuiet P ops C Q rest a → K a) → Region.wanted o (yielded ops a.tmps) = false ∧ K (a.put o.dst undef)) : wpQuiet P ops C Q (o :: rest) a :=
  wpQuiet_step fun K hK => by
    obtain ⟨h1, h2⟩ := h K hK
    rw [if_neg (by rw [h1]; simp)]
    exact h2
abbrev rdefO (d : DefM) : Obj := .cells #[.int .i64 d.num, .int .i64 d.sum, .int .i64 d.scale, .int .i64 d.design, .string d.name] 57
theorem load_rdef {w : World} {b o : Nat} (d : DefM) (h : ∀ (j : Nat) (v : Value), d.cells[j]? = some v → w.cell? ⟨b, o + j, none⟩ = some v) :
    (Instr.loadAt 57 (.pointer (some ⟨b, o, none⟩))).run Try.prog w = .ok (.agg #[.int .i64 d.num, .int .i64 d.sum, .int .i64 d.scale, .int .i64 d.design, .string d.name]) w :=
  run_loadAt_mid (P := Try.prog) w b o 57 d.cells _ h Try.underlying57 rfl (by kernel_rfl)
theorem load_rdefO {b : Nat} {d : DefM} (h : Sat W (pts b (rdefO d) * A) w) : (Instr.loadAt 57 (.pointer (some ⟨b, 0, none⟩))).run Try.prog w = .ok (.agg #[.int .i64 d.num, .int .i64 d.sum, .int .i64 d.scale, .int .i64 d.design, .string d.name]) w :=
  load_rdef d fun j v hj => by
    rw [Nat.zero_add]
    exact h.cell (by simpa [DefM.cells] using hj)
theorem run_eq_rdef (w : World) (a b : DefM) : (Op.equalIn 10000 57 a.val b.val).run Try.prog w = .ok (defB a b) w := by
  obtain ⟨a1, a2, a3, a4, a5⟩ := a
  obtain ⟨b1, b2, b3, b4, b5⟩ := b
  unfold defB DefM.val
  go_simp
  simp only [toListB]
  by_cases h1 : a1 = b1 <;> by_cases h2 : a2 = b2 <;> by_cases h3 : a3 = b3 <;> by_cases h4 : a4 = b4 <;> by_cases h5 : a5 = b5 <;> simp [h1, h2, h3, h4, h5]
theorem run_neq_rdef (w : World) (a b : DefM) : (binOp .neq 57 a.val b.val).run Try.prog w = .ok (.bool (!defB a b)) w := by
  have h := run_eq_rdef w a b
  unfold DefM.val at h ⊢
  simp only [binOp]
  simp [Op.equal, Op.maxDepth, h]
theorem info_rdef : (Try.prog.info? 57).map (fun i => (i.zero, i.size, i.bytes)) = some (some (.agg #[.int .i64 0, .int .i64 0, .int .i64 0, .int .i64 0, .string ByteArray.empty]), 5, 48) := by kernel_rfl
theorem exec_load_r {P : Program} {o : Oper} {a : Act} {w : World} (ty : TypeId) (x : Operand) (ho : o.op = .load ty x) (b off : Nat) (hx : a.eval x = .pointer (some ⟨b, off, none⟩)) (v : Value)
    (hld : (Instr.loadAt ty (.pointer (some ⟨b, off, none⟩))).run P w = .ok v w) : (execOp a.eval o).run P w = .ok (.value v) w := by
  unfold execOp
  simp only [ho, hx, Sem.run_bind, Result.andThen_ok, Sem.run_pure, hld]


set_option maxRecDepth 100000 in
set_option maxHeartbeats 8000000 in
theorem fontDef_any {V : List (Cmd × Value)} {b : Nat} {s : StM} {a : Option Addr} {ca : Nat} (o : Cmd) (hal : 4 ≤ o.args.length) (hr : Rd w (.slice a o.args.length ca) o.args.length 1 (intsL o.args))
    (hl : s.defs.length ≤ 1048576) (hag : s.again.length ≤ 1048576) (h : StAt W A V b s w) :
    Calls Try.prog 54 #[.pointer (some ⟨b, 0, none⟩), o.val (.slice a o.args.length ca)] w fun e w' => e = .returned (.bool (s.fontDef o.def_).2) ∧ StAt W A V b (s.fontDef o.def_).1 w' := by
  obtain ⟨b3, hb3⟩ : ∃ b3, w.heap.size = b3 := ⟨_, rfl⟩
  obtain ⟨dv, av, pv, tv, h1, h2⟩ := h
  have h3 := h2.alloc (ropO o.code o.at_ (.slice a o.args.length ca) ⟨o.text.toArray⟩)
  rw [hb3] at h3
  have hr2 := hr.ext ((Ext.refl w).alloc (o := ropO o.code o.at_ (.slice a o.args.length ca) ⟨o.text.toArray⟩))
  obtain ⟨W1, hW1⟩ : ∃ W1, w.alloc (ropO o.code o.at_ (.slice a o.args.length ca) ⟨o.text.toArray⟩) = W1 := ⟨_, rfl⟩
  rw [hW1] at h3 hr2
  have HD := Lib.hid (def_ref o hal hr2)
  unfold Cmd.val at HD ⊢
  obtain ⟨d, hd⟩ : ∃ d, o.def_ = d := ⟨_, rfl⟩
  rw [hd] at HD
  rw [hd]
  clear hal hr hr2 hd h2
  obtain ⟨oc_, hoc⟩ : ∃ x, o.code = x := ⟨_, rfl⟩
  obtain ⟨oa_, hoa⟩ : ∃ x, o.at_ = x := ⟨_, rfl⟩
  obtain ⟨on_, hon⟩ : ∃ x, o.args.length = x := ⟨_, rfl⟩
  obtain ⟨ot_, hot⟩ : ∃ x : ByteArray, ⟨o.text.toArray⟩ = x := ⟨_, rfl⟩
  obtain ⟨oda, hoda⟩ : ∃ x, a = x := ⟨_, rfl⟩
  rw [hoc, hoa, hon, hot, hoda] at h3 hW1 HD
  rw [hoc, hoa, hon, hot, hoda]
  clear hoc hoa hon hot hoda
  have q0 := h3.cell (i := 0) rfl
  have q1 := h3.cell (i := 1) rfl
  have q2 := h3.cell (i := 2) rfl
  have q3 := h3.cell (i := 3) rfl
  obtain ⟨FR, hFR⟩ : ∃ FR, s.fontDef d = FR := ⟨_, rfl⟩
  rw [hFR]
  obtain ⟨FR1, FR2⟩ := FR
  simp only
  have HFR := Lib.hid hFR
  have H1 := Lib.hid h1
  have HL := Lib.hid hl
  have HAG := Lib.hid hag
  have H3 := Lib.hid h3
  have HW1 := Lib.hid hW1
  clear hFR h1 hl hag h3 hW1
  go_enter Try.func54, Try.ntmps54
  go_upto_region 1 with fail
  rw [HW1.out]
  clear hb3 HW1
  go_wp2_with fail
  with_reducible refine Calls.mono HD.out ?_
  rintro e w2 ⟨rfl, hex⟩
  obtain ⟨d1, d2, d3, d4, d5⟩ := d
  unfold DefM.val
  simp only
  have h4 := (H3.out.ext hex).alloc (rdefO ⟨d1, d2, d3, d4, d5⟩)
  obtain ⟨b5, hb5⟩ : ∃ b5, w2.heap.size = b5 := ⟨_, rfl⟩
  rw [hb5] at h4
  obtain ⟨W5, hW5⟩ : ∃ W5, w2.alloc (rdefO ⟨d1, d2, d3, d4, d5⟩) = W5 := ⟨_, rfl⟩
  rw [hW5] at h4
  have H5 := Lib.hid h4
  have HW5 := Lib.hid hW5
  clear h4 hex H3 q0 q1 q2 q3 HD hW5
  go_upto_region 2 with fail
  rw [HW5.out]
  clear HW5 hb5
  have c2 := H5.out.cell (i := 2) rfl
  have c3 := H5.out.cell (i := 3) rfl
  by_cases j1 : d3 < 1
  · skip
    have hb : (FR1, FR2) = (s, false) := by
      rw [← HFR.out]
      unfold StM.fontDef
      rw [if_pos (by simp [wrongD, j1])]
    obtain ⟨hb1, hb2⟩ := Prod.mk.inj hb
    have HB1 := Lib.hid hb1
    have HB2 := Lib.hid hb2
    clear hb hb1 hb2
    go_wp2
    go_ret
    exact ⟨by rw [HB2.out] <;> rfl, by rw [HB1.out]; exact (show StAt W (pts b5 (rdefO ⟨d1, d2, d3, d4, d5⟩) * (pts b3 (ropO oc_ oa_ (.slice oda on_ ca) ot_) * A)) V b s _ from ⟨dv, av, pv, tv, H1.out, H5.out.of_eq (by ac_rfl)⟩).less.less⟩
  by_cases j2 : (134217727 : Int) < d3
  · have j2' : (134217728 : Int) ≤ d3 := by omega
    have hb : (FR1, FR2) = (s, false) := by
      rw [← HFR.out]
      unfold StM.fontDef
      rw [if_pos (by simp [wrongD, j2'])]
    obtain ⟨hb1, hb2⟩ := Prod.mk.inj hb
    have HB1 := Lib.hid hb1
    have HB2 := Lib.hid hb2
    clear hb hb1 hb2
    go_wp2
    go_ret
    exact ⟨by rw [HB2.out] <;> rfl, by rw [HB1.out]; exact (show StAt W (pts b5 (rdefO ⟨d1, d2, d3, d4, d5⟩) * (pts b3 (ropO oc_ oa_ (.slice oda on_ ca) ot_) * A)) V b s _ from ⟨dv, av, pv, tv, H1.out, H5.out.of_eq (by ac_rfl)⟩).less.less⟩
  by_cases j3 : d4 < 1
  · skip
    have hb : (FR1, FR2) = (s, false) := by
      rw [← HFR.out]
      unfold StM.fontDef
      rw [if_pos (by simp [wrongD, j3])]
    obtain ⟨hb1, hb2⟩ := Prod.mk.inj hb
    have HB1 := Lib.hid hb1
    have HB2 := Lib.hid hb2
    clear hb hb1 hb2
    go_wp2
    go_ret
    exact ⟨by rw [HB2.out] <;> rfl, by rw [HB1.out]; exact (show StAt W (pts b5 (rdefO ⟨d1, d2, d3, d4, d5⟩) * (pts b3 (ropO oc_ oa_ (.slice oda on_ ca) ot_) * A)) V b s _ from ⟨dv, av, pv, tv, H1.out, H5.out.of_eq (by ac_rfl)⟩).less.less⟩
  by_cases j4 : (134217727 : Int) < d4
  · have j4' : (134217728 : Int) ≤ d4 := by omega
    have hb : (FR1, FR2) = (s, false) := by
      rw [← HFR.out]
      unfold StM.fontDef
      rw [if_pos (by simp [wrongD, j4'])]
    obtain ⟨hb1, hb2⟩ := Prod.mk.inj hb
    have HB1 := Lib.hid hb1
    have HB2 := Lib.hid hb2
    clear hb hb1 hb2
    go_wp2
    go_ret
    exact ⟨by rw [HB2.out] <;> rfl, by rw [HB1.out]; exact (show StAt W (pts b5 (rdefO ⟨d1, d2, d3, d4, d5⟩) * (pts b3 (ropO oc_ oa_ (.slice oda on_ ca) ot_) * A)) V b s _ from ⟨dv, av, pv, tv, H1.out, H5.out.of_eq (by ac_rfl)⟩).less.less⟩
  have hw : ¬ wrongD ⟨d1, d2, d3, d4, d5⟩ = true := by
    simp only [wrongD, Bool.or_eq_true, decide_eq_true_eq, not_or]
    exact ⟨j1, by omega, j3, by omega⟩
  have HW := Lib.hid hw
  have k0 := H5.out.r.r.cell (i := 0) rfl
  clear hw
  by_cases hp : s.part = 3
  · have HP := Lib.hid hp
    obtain ⟨da, dc, hdv, -⟩ := H5.out.r.r.r.row_val
    obtain ⟨aa, ac, hav, -⟩ := H5.out.r.r.r.r.row_val
    subst hdv
    subst hav
    have k1 := H5.out.drew.r.r.cell (i := 1) rfl
    have c0 := H5.out.drew.cell (i := 0) rfl
    obtain ⟨fi, hfi⟩ : ∃ fi, foundM d1 s.defs = fi := ⟨_, rfl⟩
    have hfa := found_any d1 (by have := HL.out; omega) (Sat.rd H5.out.drew.r.r.r)
    rw [hfi] at hfa
    have HF := Lib.hid hfa
    have HFI := Lib.hid hfi
    clear hfa hfi
    go_upto_region 5 with fail
    obtain ⟨W9, hW9⟩ : ∃ W9, W5.drew = W9 := ⟨_, rfl⟩
    have H6 := Lib.hid (show Sat W _ W9 from hW9 ▸ H5.out.drew)
    rw [hW9] at k1 c0 HF
    clear c2 c3 k0 H5 hp j1 j2 j3 j4
    refine wp_region_tail (fun w' => w' = W9) 7 (by kernel_rfl) (by kernel_rfl) hW9 ?_
    simp only [List.take_succ_cons, List.take_zero, List.drop_succ_cons, List.drop_zero]
    clear hW9
    iterate 6
      with_reducible refine wpQuiet_val (v := ?_) ?_
      rotate_left 1
      intro K hK
      refine ⟨by kernel_rfl, fun w9 hw9 => ?_, ?_⟩
      · subst hw9; go_simp; try with_reducible rfl
      go_simp
      with_reducible refine hK _ ?_
      clear hK K
    refine wpQuiet_step (fun K hK => ?_)
    go_simp
    refine ⟨.int .i64 fi, ?_, ?_⟩
    · with_reducible refine Calls.mono HF.out ?_
      exact fun _ _ h => ⟨h.1, h.2.symm⟩
    with_reducible refine hK _ ?_
    clear hK K
    refine wpQuiet_nil ?_
    rintro w17 rfl
    clear k1 c0 HF
    go_upto_region 6 with fail
    have k1 := H6.out.drew.r.r.cell (i := 1) rfl
    have k2 := H6.out.drew.r.r.cell (i := 2) rfl
    have c0 := H6.out.drew.cell (i := 0) rfl
    have hld := load_rdefO H6.out.drew
    have hrd : Rd w17.drew (.slice da s.defs.length dc) s.defs.length 5 (flatD s.defs) := Sat.rd H6.out.drew.r.r.r
    have hfb := found_any d1 (by have := HAG.out; omega) (Sat.rd H6.out.drew.r.r.r.r)
    obtain ⟨W9, hW9⟩ : ∃ W9, w17.drew = W9 := ⟨_, rfl⟩
    have H9 := Lib.hid (show Sat W _ W9 from hW9 ▸ H6.out.drew)
    rw [hW9] at k1 k2 c0 hld hrd hfb
    clear H6
    by_cases c1 : fi = s.defs.length
    · have e1 : ((fi : Int) == (s.defs.length : Int)) = true := by rw [c1]; simp
      have HC1 := Lib.hid c1
      have HE1 := Lib.hid e1
      clear hld hrd hfb c1 e1
      refine wp_region_tail (fun w' => w' = W9) 32 (by kernel_rfl) (by kernel_rfl) hW9 ?_
      simp only [List.take_succ_cons, List.take_zero, List.drop_succ_cons, List.drop_zero]
      clear hW9
      iterate 6
        with_reducible refine wpQuiet_val (v := ?_) ?_
        rotate_left 1
        intro K hK
        refine ⟨by kernel_rfl, fun w9 hw9 => ?_, ?_⟩
        · subst hw9; go_simp; try with_reducible rfl
        go_simp
        with_reducible refine hK _ ?_
        clear hK K
      refine wpQuiet_val (v := .bool true) ?_
      intro K hK
      refine ⟨by kernel_rfl, fun w9 hw9 => ?_, ?_⟩
      · subst hw9; go_simp; rw [HC1.out]
      go_simp
      with_reducible refine hK _ ?_
      clear hK K
      refine wpQuiet_val (v := .bool true) ?_
      intro K hK
      refine ⟨by kernel_rfl, fun w9 hw9 => ?_, ?_⟩
      · subst hw9; go_simp
      go_simp
      with_reducible refine hK _ ?_
      clear hK K
      iterate 9
        with_reducible refine wpQuiet_skip ?_
        intro K hK
        refine And.intro ?_ ?_
        · kernel_rfl
        go_simp
        with_reducible refine hK _ ?_
        clear hK K
      refine wpQuiet_val (v := .bool true) ?_
      intro K hK
      refine ⟨by kernel_rfl, fun w9 hw9 => ?_, ?_⟩
      · subst hw9; go_simp
      go_simp
      with_reducible refine hK _ ?_
      clear hK K
      refine wpQuiet_val (v := .bool true) ?_
      intro K hK
      refine ⟨by kernel_rfl, fun w9 hw9 => ?_, ?_⟩
      · subst hw9; go_simp
      go_simp
      with_reducible refine hK _ ?_
      clear hK K
      iterate 13
        with_reducible refine wpQuiet_skip ?_
        intro K hK
        refine And.intro ?_ ?_
        · kernel_rfl
        go_simp
        with_reducible refine hK _ ?_
        clear hK K
      refine wpQuiet_nil ?_
      rintro w18 rfl
      clear k1 k2 c0
      have hb : (FR1, FR2) = (s, false) := by
        rw [← HFR.out]
        unfold StM.fontDef
        rw [if_neg HW.out, if_pos HP.out, if_pos (.inl (HFI.out.trans HC1.out))]
      obtain ⟨hb1, hb2⟩ := Prod.mk.inj hb
      have HB1 := Lib.hid hb1
      have HB2 := Lib.hid hb2
      clear hb hb1 hb2
      go_wp2
      go_ret
      exact ⟨by rw [HB2.out] <;> rfl, by rw [HB1.out]; exact (show StAt W (pts b5 (rdefO ⟨d1, d2, d3, d4, d5⟩) * (pts b3 (ropO oc_ oa_ (.slice oda on_ ca) ot_) * A)) V b s _ from ⟨(.slice da s.defs.length dc), (.slice aa s.again.length ac), pv, tv, H1.out, H9.out.of_eq (by ac_rfl)⟩).less.less⟩
    · have hlt : fi < s.defs.length := by have := foundM_le d1 s.defs; have := HFI.out; omega
      have e1 : ((fi : Int) == (s.defs.length : Int)) = false := by rw [beq_eq_false_iff_ne]; omega
      have n1 : ¬ ((fi : Int) = (s.defs.length : Int)) := by omega
      have i1 : (fi : Int) < (s.defs.length : Int) := by omega
      have i2 : (0 : Int) ≤ (fi : Int) := by omega
      obtain ⟨x, hx⟩ : ∃ x, s.defs[fi]? = some x := ⟨_, List.getElem?_eq_getElem hlt⟩
      obtain ⟨_, _, a', c', e, h3⟩ := hrd
      cases e
      obtain ⟨g, off, rfl, -⟩ := h3 (fi * 5 + 0) _ ((flatD_get s.defs fi 0 x (by decide) hx).trans rfl)
      have hlx := load_rdef (w := W9) (b := g) (o := off + fi * 5) x (fun j v hj => by
        have hj5 : j < 5 := by have := (List.getElem?_eq_some_iff.1 hj).1; simpa [DefM.cells] using this
        obtain ⟨g', o', e1, y⟩ := h3 (fi * 5 + j) v ((flatD_get s.defs fi j x hj5 hx).trans hj)
        cases e1
        rw [Nat.add_assoc]
        exact y)
      have hqd := fun w => run_neq_rdef w x ⟨d1, d2, d3, d4, d5⟩
      obtain ⟨x1, x2, x3, x4, x5⟩ := x
      unfold DefM.val at hqd
      simp only at hqd hlx
      have hqe : defB ((s.defs[foundM d1 s.defs]?).getD zeroD) ⟨d1, d2, d3, d4, d5⟩ = defB ⟨x1, x2, x3, x4, x5⟩ ⟨d1, d2, d3, d4, d5⟩ := by
        rw [HFI.out, hx]
        rfl
      obtain ⟨dq, hdq⟩ : ∃ dq, defB ⟨x1, x2, x3, x4, x5⟩ ⟨d1, d2, d3, d4, d5⟩ = dq := ⟨_, rfl⟩
      simp only [hdq] at hqd
      rw [hdq] at hqe
      have HQE := Lib.hid hqe
      have HLX := Lib.hid hlx
      have HLD := Lib.hid hld
      have HFJ := Lib.hid hfb
      have HLT := Lib.hid hlt
      clear hqe hlx hld h3 hx hdq hfb hlt c1
      cases dq with
      | false =>
        refine wp_region_tail (fun w' => w' = W9) 32 (by kernel_rfl) (by kernel_rfl) hW9 ?_
        simp only [List.take_succ_cons, List.take_zero, List.drop_succ_cons, List.drop_zero]
        clear hW9
        iterate 14
          with_reducible refine wpQuiet_val (v := ?_) ?_
          rotate_left 1
          intro K hK
          refine ⟨by kernel_rfl, fun w9 hw9 => ?_, ?_⟩
          · subst hw9; go_simp; try with_reducible rfl
          go_simp
          with_reducible refine hK _ ?_
          clear hK K
        refine wpQuiet_val (v := .agg #[.int .i64 x1, .int .i64 x2, .int .i64 x3, .int .i64 x4, .string x5]) ?_
        intro K hK
        refine ⟨by kernel_rfl, fun w9 hw9 => ?_, ?_⟩
        · subst hw9
          refine exec_load_r 57 (.tmp 52) rfl g (off + fi * 5) ?_ _ HLX.out
          kernel_rfl
        go_simp
        with_reducible refine hK _ ?_
        clear hK K
        refine wpQuiet_val (v := .agg #[.int .i64 d1, .int .i64 d2, .int .i64 d3, .int .i64 d4, .string d5]) ?_
        intro K hK
        refine ⟨by kernel_rfl, fun w9 hw9 => ?_, ?_⟩
        · subst hw9
          refine exec_load_r 57 (.tmp 5) rfl b5 0 ?_ _ HLD.out
          kernel_rfl
        go_simp
        with_reducible refine hK _ ?_
        clear hK K
        iterate 3
          with_reducible refine wpQuiet_val (v := ?_) ?_
          rotate_left 1
          intro K hK
          refine ⟨by kernel_rfl, fun w9 hw9 => ?_, ?_⟩
          · subst hw9; go_simp; try with_reducible rfl
          go_simp
          with_reducible refine hK _ ?_
          clear hK K
        iterate 13
          with_reducible refine wpQuiet_skip ?_
          intro K hK
          refine And.intro ?_ ?_
          · kernel_rfl
          go_simp
          with_reducible refine hK _ ?_
          clear hK K
        refine wpQuiet_nil ?_
        rintro w18 rfl
        clear k1 k2 c0 hqd e1 n1 i1 i2
        have hb : (FR1, FR2) = (s, false) := by
          rw [← HFR.out]
          unfold StM.fontDef
          rw [if_neg HW.out, if_pos HP.out, if_pos (.inr (.inl HQE.out))]
        obtain ⟨hb1, hb2⟩ := Prod.mk.inj hb
        have HB1 := Lib.hid hb1
        have HB2 := Lib.hid hb2
        clear hb hb1 hb2
        go_wp2
        go_ret
        exact ⟨by rw [HB2.out] <;> rfl, by rw [HB1.out]; exact (show StAt W (pts b5 (rdefO ⟨d1, d2, d3, d4, d5⟩) * (pts b3 (ropO oc_ oa_ (.slice oda on_ ca) ot_) * A)) V b s _ from ⟨(.slice (some ⟨g, off, none⟩) s.defs.length dc), (.slice aa s.again.length ac), pv, tv, H1.out, H9.out.of_eq (by ac_rfl)⟩).less.less⟩
      | true =>
        obtain ⟨fj, hfj⟩ : ∃ fj, foundM d1 s.again = fj := ⟨_, rfl⟩
        have hfj2 := HFJ.out
        rw [hfj] at hfj2
        have HFJ2 := Lib.hid hfj2
        have HFE := Lib.hid hfj
        clear hfj hfj2 HFJ
        refine wp_region_tail (fun w' => w' = W9) 32 (by kernel_rfl) (by kernel_rfl) hW9 ?_
        simp only [List.take_succ_cons, List.take_zero, List.drop_succ_cons, List.drop_zero]
        clear hW9
        iterate 14
          with_reducible refine wpQuiet_val (v := ?_) ?_
          rotate_left 1
          intro K hK
          refine ⟨by kernel_rfl, fun w9 hw9 => ?_, ?_⟩
          · subst hw9; go_simp; try with_reducible rfl
          go_simp
          with_reducible refine hK _ ?_
          clear hK K
        refine wpQuiet_val (v := .agg #[.int .i64 x1, .int .i64 x2, .int .i64 x3, .int .i64 x4, .string x5]) ?_
        intro K hK
        refine ⟨by kernel_rfl, fun w9 hw9 => ?_, ?_⟩
        · subst hw9
          refine exec_load_r 57 (.tmp 52) rfl g (off + fi * 5) ?_ _ HLX.out
          kernel_rfl
        go_simp
        with_reducible refine hK _ ?_
        clear hK K
        refine wpQuiet_val (v := .agg #[.int .i64 d1, .int .i64 d2, .int .i64 d3, .int .i64 d4, .string d5]) ?_
        intro K hK
        refine ⟨by kernel_rfl, fun w9 hw9 => ?_, ?_⟩
        · subst hw9
          refine exec_load_r 57 (.tmp 5) rfl b5 0 ?_ _ HLD.out
          kernel_rfl
        go_simp
        with_reducible refine hK _ ?_
        clear hK K
        iterate 9
          with_reducible refine wpQuiet_val (v := ?_) ?_
          rotate_left 1
          intro K hK
          refine ⟨by kernel_rfl, fun w9 hw9 => ?_, ?_⟩
          · subst hw9; go_simp; try with_reducible rfl
          go_simp
          with_reducible refine hK _ ?_
          clear hK K
        refine wpQuiet_step (fun K hK => ?_)
        go_simp
        refine ⟨.int .i64 fj, ?_, ?_⟩
        · with_reducible refine Calls.mono HFJ2.out ?_
          exact fun _ _ h => ⟨h.1, h.2.symm⟩
        with_reducible refine hK _ ?_
        clear hK K
        iterate 6
          with_reducible refine wpQuiet_val (v := ?_) ?_
          rotate_left 1
          intro K hK
          refine ⟨by kernel_rfl, fun w9 hw9 => ?_, ?_⟩
          · subst hw9; go_simp; try with_reducible rfl
          go_simp
          with_reducible refine hK _ ?_
          clear hK K
        refine wpQuiet_nil ?_
        rintro w18 rfl
        clear k1 k2 c0 hqd e1 n1 i1 i2
        by_cases c3 : fj < s.again.length
        · have i3 : (fj : Int) < (s.again.length : Int) := by omega
          have hb : (FR1, FR2) = (s, false) := by
            rw [← HFR.out]
            unfold StM.fontDef
            rw [if_neg HW.out, if_pos HP.out, if_pos (.inr (.inr (by rw [HFE.out]; exact c3)))]
          obtain ⟨hb1, hb2⟩ := Prod.mk.inj hb
          have HB1 := Lib.hid hb1
          have HB2 := Lib.hid hb2
          clear hb hb1 hb2
          go_wp2
          go_ret
          exact ⟨by rw [HB2.out] <;> rfl, by rw [HB1.out]; exact (show StAt W (pts b5 (rdefO ⟨d1, d2, d3, d4, d5⟩) * (pts b3 (ropO oc_ oa_ (.slice oda on_ ca) ot_) * A)) V b s _ from ⟨(.slice (some ⟨g, off, none⟩) s.defs.length dc), (.slice aa s.again.length ac), pv, tv, H1.out, H9.out.of_eq (by ac_rfl)⟩).less.less⟩
        · have i3 : ¬ (fj : Int) < (s.again.length : Int) := by omega
          have hb : (FR1, FR2) = (({ s with again := s.again ++ [⟨d1, d2, d3, d4, d5⟩] } : StM), true) := by
            rw [← HFR.out]
            unfold StM.fontDef
            rw [if_neg HW.out, if_pos HP.out, if_neg]
            simp only [not_or]
            exact ⟨by rw [HFI.out]; have := HLT.out; omega, by rw [HQE.out]; simp, by rw [HFE.out]; exact c3⟩
          obtain ⟨hb1, hb2⟩ := Prod.mk.inj hb
          have HB1 := Lib.hid hb1
          have HB2 := Lib.hid hb2
          have HLN := HAG
          obtain ⟨X, hX⟩ : ∃ X, row (.slice (some ⟨g, off, none⟩) s.defs.length dc) s.defs.length 57 5 (flatD s.defs) * (pts b3 (ropO oc_ oa_ (.slice oda on_ ca) ot_) * A) = X := ⟨_, rfl⟩
          have HXX := Lib.hid hX
          have h9 := H9.out.of_eq (show _ = pts b5 (rdefO ⟨d1, d2, d3, d4, d5⟩) * (pts b (stO s (.slice (some ⟨g, off, none⟩) s.defs.length dc) (.slice aa s.again.length ac) pv tv) * (row (.slice aa s.again.length ac) s.again.length 57 5 (flatD s.again) * X)) by rw [← hX]; ac_rfl)
          clear hb hb1 hb2 c3 hX H9
          go_upto_region 8 with fail
          have H9 := Lib.hid h9
          clear h9 i3
          generalize w18 = W9 at *
          obtain ⟨i0, hi, hz0, hz1, hz2⟩ := info_parts3 info_rdef
          have HI := Lib.hid hi
          have HZ0 := Lib.hid hz0
          have HZ1 := Lib.hid hz1
          have HZ2 := Lib.hid hz2
          obtain ⟨C, hC⟩ : ∃ C : World → Prop, C = fun w' => ∃ X, Sat W (pts b5 (rdefO ⟨d1, d2, d3, d4, d5⟩) * (pts b (stO s (.slice (some ⟨g, off, none⟩) s.defs.length dc) (.slice aa s.again.length ac) pv tv) * X)) w' := ⟨_, rfl⟩
          have HC := Lib.hid (show ∀ w', C w' → w'.cell? ⟨b, 2, none⟩ = some (.slice aa s.again.length ac) ∧ (Instr.loadAt 57 (.pointer (some ⟨b5, 0, none⟩))).run Try.prog w' = .ok (.agg #[.int .i64 d1, .int .i64 d2, .int .i64 d3, .int .i64 d4, .string d5]) w' from fun w' h => by
            rw [hC] at h
            obtain ⟨X, h⟩ := h
            exact ⟨h.r.cell rfl, load_rdefO h⟩)
          have HC2 := Lib.hid (show ∀ X w', Sat W (pts b5 (rdefO ⟨d1, d2, d3, d4, d5⟩) * (pts b (stO s (.slice (some ⟨g, off, none⟩) s.defs.length dc) (.slice aa s.again.length ac) pv tv) * X)) w' → C w' from fun X w' h => by rw [hC]; exact ⟨X, h⟩)
          clear hC hi hz0 hz1 hz2
          refine wp_region_E C (by kernel_rfl) ?_
          have H10 := Lib.hid H9.out.drew
          clear H9
          obtain ⟨W10, hW10⟩ : ∃ W10, W9.drew = W10 := ⟨_, rfl⟩
          rw [hW10] at H10
          rw [hW10]
          clear hW10
          refine wpE_take (i := 0) (q := 8) (v := ?_) rfl (by kernel_rfl) (by kernel_rfl) (by kernel_rfl) (by kernel_rfl) (by kernel_rfl) (fun _ _ _ h => h) (by kernel_rfl) ?_ ?_
          rotate_left 1
          · intro w hw; obtain ⟨q0, q1⟩ := HC.out _ hw; go_simp; try with_reducible rfl
          refine wpE_take (i := 1) (q := 2) (v := ?_) rfl (by kernel_rfl) (by kernel_rfl) (by kernel_rfl) (by kernel_rfl) (by kernel_rfl) (fun _ _ _ h => h) (by kernel_rfl) ?_ ?_
          rotate_left 1
          · intro w hw; obtain ⟨q0, q1⟩ := HC.out _ hw; go_simp; try with_reducible rfl
          refine wpE_take (i := 2) (q := 3) (v := ?_) rfl (by kernel_rfl) (by kernel_rfl) (by kernel_rfl) (by kernel_rfl) (by kernel_rfl) (fun _ _ _ h => h) (by kernel_rfl) ?_ ?_
          rotate_left 1
          · intro w hw; obtain ⟨q0, q1⟩ := HC.out _ hw; go_simp; try with_reducible rfl
          refine wpE_take (i := 3) (q := 4) (v := ?_) rfl (by kernel_rfl) (by kernel_rfl) (by kernel_rfl) (by kernel_rfl) (by kernel_rfl) (fun _ _ _ h => h) (by kernel_rfl) ?_ ?_
          rotate_left 1
          · intro w hw; obtain ⟨q0, q1⟩ := HC.out _ hw; go_simp; try with_reducible rfl
          refine wpE_take (i := 4) (q := 7) (v := ?_) rfl (by kernel_rfl) (by kernel_rfl) (by kernel_rfl) (by kernel_rfl) (by kernel_rfl) (fun _ _ _ h => h) (by kernel_rfl) ?_ ?_
          rotate_left 1
          · intro w hw; obtain ⟨q0, q1⟩ := HC.out _ hw; go_simp; try with_reducible rfl
          refine wpE_take (i := 5) (q := 6) (v := .agg #[.int .i64 d1, .int .i64 d2, .int .i64 d3, .int .i64 d4, .string d5]) rfl (by kernel_rfl) (by kernel_rfl) (by kernel_rfl) (by kernel_rfl) (by kernel_rfl) (fun _ _ _ h => h) (by kernel_rfl) (fun w hw => ?_) ?_
          · refine exec_load_r 57 (.tmp 5) rfl b5 0 ?_ _ (HC.out _ hw).2
            kernel_rfl
          refine wpE_one (i := 6) rfl (by kernel_rfl) (HC2.out _ _ H10.out) (fun K hK => ?_)
          go_simp
          refine hK _ _ ?_
          clear hK K
          have h11 := H10.out.alloc (rdefO ⟨d1, d2, d3, d4, d5⟩)
          have HRD := Lib.hid (show Rd (W10.alloc (rdefO ⟨d1, d2, d3, d4, d5⟩)) (.slice (some ⟨W10.heap.size, 0, none⟩) 1 1) 1 5 (DefM.cells ⟨d1, d2, d3, d4, d5⟩) from ⟨rfl, by simp [maxLen], _, _, rfl, fun j u hu => ⟨_, _, rfl, by
            rw [Nat.zero_add]
            exact h11.cell (by simpa [DefM.cells] using hu)⟩⟩)
          obtain ⟨b74, hb74⟩ : ∃ b74, W10.heap.size = b74 := ⟨_, rfl⟩
          rw [hb74] at h11 HRD
          rw [hb74]
          obtain ⟨W11, hW11⟩ : ∃ W11, W10.alloc (rdefO ⟨d1, d2, d3, d4, d5⟩) = W11 := ⟨_, rfl⟩
          rw [hW11] at h11 HRD
          rw [hW11]
          have H11 := Lib.hid (h11.of_eq (show _ = row (.slice aa s.again.length ac) (s.again).length 57 5 (flatD (s.again)) * (pts b74 (rdefO ⟨d1, d2, d3, d4, d5⟩) * (pts b5 (rdefO ⟨d1, d2, d3, d4, d5⟩) * (pts b (stO s (.slice (some ⟨g, off, none⟩) s.defs.length dc) (.slice aa s.again.length ac) pv tv) * X))) by ac_rfl))
          have hcw3 := HC2.out _ _ (H11.out.of_eq (show _ = pts b5 (rdefO ⟨d1, d2, d3, d4, d5⟩) * (pts b (stO s (.slice (some ⟨g, off, none⟩) s.defs.length dc) (.slice aa s.again.length ac) pv tv) * (row (.slice aa s.again.length ac) (s.again).length 57 5 (flatD (s.again)) * (pts b74 (rdefO ⟨d1, d2, d3, d4, d5⟩) * X))) by ac_rfl))
          clear h11 H10 hb74 hW11
          refine wpE_one (i := 7) rfl (by kernel_rfl) (hcw3) (fun K hK => ?_)
          refine step_append_rd rfl _ _ 48 rfl i0 _ 48 Try.underlying48 HI.out HZ0.out HZ1.out HZ2.out rfl (by omega) rfl H11.out (.slice (some ⟨b74, 0, none⟩) 1 1) 1 (DefM.cells ⟨d1, d2, d3, d4, d5⟩) rfl HRD.out (by simp [DefM.cells, Value.oneCell']) (by have := HLN.out; simp [maxLen]; omega) (by have := HLN.out; omega) ?_
          intro v1 w12 h12 _
          obtain ⟨a1, c1, hv1, -⟩ := h12.row_val
          subst hv1
          have h13 := h12.of_eq (show _ = pts b5 (rdefO ⟨d1, d2, d3, d4, d5⟩) * (pts b (stO s (.slice (some ⟨g, off, none⟩) s.defs.length dc) (.slice aa s.again.length ac) pv tv) * (row (.slice a1 ((s.again).length + 1) c1) ((s.again).length + 1) 57 5 (flatD (s.again) ++ DefM.cells ⟨d1, d2, d3, d4, d5⟩) * (pts b74 (rdefO ⟨d1, d2, d3, d4, d5⟩) * X))) by ac_rfl)
          have HCW := Lib.hid (HC2.out _ _ h13)
          have ob := h13.r.lt
          have of := h13.r.free (i := 2)
          have oc := h13.r.cell (i := 2) rfl
          have h14 := (h13.of_eq (show _ = pts b (stO s (.slice (some ⟨g, off, none⟩) s.defs.length dc) (.slice aa s.again.length ac) pv tv) * (pts b5 (rdefO ⟨d1, d2, d3, d4, d5⟩) * (row (.slice a1 ((s.again).length + 1) c1) ((s.again).length + 1) 57 5 (flatD (s.again) ++ DefM.cells ⟨d1, d2, d3, d4, d5⟩) * (pts b74 (rdefO ⟨d1, d2, d3, d4, d5⟩) * X))) by ac_rfl)).set (i := 2) (v := .slice a1 ((s.again).length + 1) c1)
          have H14 := Lib.hid h14
          clear h12 h13 h14 hcw3 H11 HRD
          go_simp
          refine hK _ _ ?_
          clear hK K
          refine wpE_take (i := 8) (q := 9) (v := ?_) rfl (by kernel_rfl) (by kernel_rfl) (by kernel_rfl) (by kernel_rfl) (by kernel_rfl) (fun _ _ _ h => h) (by kernel_rfl) ?_ ?_
          rotate_left 1
          · intro w hw; obtain ⟨q0, q1⟩ := HC.out _ hw; go_simp; try with_reducible rfl
          refine wpE_take (i := 9) (q := 10) (v := ?_) rfl (by kernel_rfl) (by kernel_rfl) (by kernel_rfl) (by kernel_rfl) (by kernel_rfl) (fun _ _ _ h => h) (by kernel_rfl) ?_ ?_
          rotate_left 1
          · intro w hw; obtain ⟨q0, q1⟩ := HC.out _ hw; go_simp; try with_reducible rfl
          refine wpE_one (i := 10) rfl (by kernel_rfl) (HCW.out) (fun K hK => ?_)
          go_simp
          refine hK _ _ ?_
          clear hK K ob of oc
          refine wpE_done (by kernel_rfl) (by kernel_rfl) ?_
          have e1 : flatD ((s.again) ++ [(⟨d1, d2, d3, d4, d5⟩ : DefM)]) = flatD (s.again) ++ DefM.cells ⟨d1, d2, d3, d4, d5⟩ := by simp [flatD]
          have H15 := Lib.hid (show StAt W (pts b5 (rdefO ⟨d1, d2, d3, d4, d5⟩) * (pts b74 (rdefO ⟨d1, d2, d3, d4, d5⟩) * (pts b3 (ropO oc_ oa_ (.slice oda on_ ca) ot_) * A))) V b ({ s with again := s.again ++ [⟨d1, d2, d3, d4, d5⟩] } : StM) _ from ⟨(.slice (some ⟨g, off, none⟩) s.defs.length dc), (.slice a1 (s.again.length + 1) c1), pv, tv, H1.out, by
            have h := H14.out
            rw [← HXX.out] at h
            simp only
            rw [e1, List.length_append, List.length_singleton]
            exact (show Sat W (pts b (stO s (.slice (some ⟨g, off, none⟩) s.defs.length dc) (.slice a1 (s.again.length + 1) c1) pv tv) * _) _ from h).of_eq (by ac_rfl)⟩)
          clear H14 HC HC2 HCW e1
          go_wp2
          go_ret
          exact ⟨by rw [HB2.out] <;> rfl, by rw [HB1.out]; exact H15.out.less.less.less⟩
  · have HP := Lib.hid hp
    have hp3 : (s.part == 3) = false := by rw [beq_eq_false_iff_ne]; exact hp
    obtain ⟨da, dc, hdv, -⟩ := H5.out.r.r.r.row_val
    subst hdv
    have k1 := H5.out.drew.r.r.cell (i := 1) rfl
    have k0' := H5.out.drew.r.r.cell (i := 0) rfl
    have c0 := H5.out.drew.cell (i := 0) rfl
    obtain ⟨fi, hfi⟩ : ∃ fi, foundM d1 s.defs = fi := ⟨_, rfl⟩
    have hfa := found_any d1 (by have := HL.out; omega) (Sat.rd H5.out.drew.r.r.r)
    rw [hfi] at hfa
    have HF := Lib.hid hfa
    have HFI := Lib.hid hfi
    clear hfa hfi
    go_upto_region 10 with fail
    clear c2 c3 k0 j1 j2 j3 j4 hp3 hp
    obtain ⟨W9, hW9⟩ : ∃ W9, W5.drew = W9 := ⟨_, rfl⟩
    have H9 := Lib.hid (show Sat W _ W9 from hW9 ▸ H5.out.drew)
    rw [hW9] at k1 k0' c0 HF
    clear H5
    by_cases p1 : s.part = 1
    · have HPP := Lib.hid (show ¬ (s.part ≠ 1 ∧ s.part ≠ 2) from fun h => h.1 p1)
      rw [p1] at k0'
      clear p1
      refine wp_region_tail (fun w' => w' = W9) 26 (by kernel_rfl) (by kernel_rfl) hW9 ?_
      simp only [List.take_succ_cons, List.take_zero, List.drop_succ_cons, List.drop_zero]
      clear hW9
      iterate 6
        with_reducible refine wpQuiet_val (v := ?_) ?_
        rotate_left 1
        intro K hK
        refine ⟨by kernel_rfl, fun w9 hw9 => ?_, ?_⟩
        · subst hw9; go_simp; try with_reducible rfl
        go_simp
        with_reducible refine hK _ ?_
        clear hK K
      iterate 5
        with_reducible refine wpQuiet_skip ?_
        intro K hK
        refine And.intro ?_ ?_
        · kernel_rfl
        go_simp
        with_reducible refine hK _ ?_
        clear hK K
      iterate 8
        with_reducible refine wpQuiet_val (v := ?_) ?_
        rotate_left 1
        intro K hK
        refine ⟨by kernel_rfl, fun w9 hw9 => ?_, ?_⟩
        · subst hw9; go_simp; try with_reducible rfl
        go_simp
        with_reducible refine hK _ ?_
        clear hK K
      refine wpQuiet_step (fun K hK => ?_)
      go_simp
      refine ⟨.int .i64 fi, ?_, ?_⟩
      · with_reducible refine Calls.mono HF.out ?_
        exact fun _ _ h => ⟨h.1, h.2.symm⟩
      with_reducible refine hK _ ?_
      clear hK K
      iterate 6
        with_reducible refine wpQuiet_val (v := ?_) ?_
        rotate_left 1
        intro K hK
        refine ⟨by kernel_rfl, fun w9 hw9 => ?_, ?_⟩
        · subst hw9; go_simp; try with_reducible rfl
        go_simp
        with_reducible refine hK _ ?_
        clear hK K
      refine wpQuiet_nil ?_
      rintro w18 rfl
      clear k1 k0' c0 HF
      by_cases c3 : fi < s.defs.length
      · have i3 : (fi : Int) < (s.defs.length : Int) := by omega
        have hb : (FR1, FR2) = (s, false) := by
          rw [← HFR.out]
          unfold StM.fontDef
          rw [if_neg HW.out, if_neg HP.out, if_pos (.inr (by rw [HFI.out]; exact c3))]
        obtain ⟨hb1, hb2⟩ := Prod.mk.inj hb
        have HB1 := Lib.hid hb1
        have HB2 := Lib.hid hb2
        clear hb hb1 hb2
        go_wp2
        go_ret
        exact ⟨by rw [HB2.out] <;> rfl, by rw [HB1.out]; exact (show StAt W (pts b5 (rdefO ⟨d1, d2, d3, d4, d5⟩) * (pts b3 (ropO oc_ oa_ (.slice oda on_ ca) ot_) * A)) V b s _ from ⟨(.slice da s.defs.length dc), av, pv, tv, H1.out, H9.out.of_eq (by ac_rfl)⟩).less.less⟩
      · have i3 : ¬ (fi : Int) < (s.defs.length : Int) := by omega
        have hb : (FR1, FR2) = (({ s with defs := s.defs ++ [⟨d1, d2, d3, d4, d5⟩] } : StM), true) := by
          rw [← HFR.out]
          unfold StM.fontDef
          rw [if_neg HW.out, if_neg HP.out, if_neg]
          simp only [not_or]
          exact ⟨HPP.out, by rw [HFI.out]; exact c3⟩
        obtain ⟨hb1, hb2⟩ := Prod.mk.inj hb
        have HB1 := Lib.hid hb1
        have HB2 := Lib.hid hb2
        have HLN := HL
        obtain ⟨X, hX⟩ : ∃ X, row av s.again.length 57 5 (flatD s.again) * (pts b3 (ropO oc_ oa_ (.slice oda on_ ca) ot_) * A) = X := ⟨_, rfl⟩
        have HXX := Lib.hid hX
        have h9 := H9.out.of_eq (show _ = pts b5 (rdefO ⟨d1, d2, d3, d4, d5⟩) * (pts b (stO s (.slice da s.defs.length dc) av pv tv) * (row (.slice da s.defs.length dc) s.defs.length 57 5 (flatD s.defs) * X)) by rw [← hX]; ac_rfl)
        clear hb hb1 hb2 c3 hX H9
        go_upto_region 12 with fail
        have H9 := Lib.hid h9
        clear h9 i3
        generalize w18 = W9 at *
        obtain ⟨i0, hi, hz0, hz1, hz2⟩ := info_parts3 info_rdef
        have HI := Lib.hid hi
        have HZ0 := Lib.hid hz0
        have HZ1 := Lib.hid hz1
        have HZ2 := Lib.hid hz2
        obtain ⟨C, hC⟩ : ∃ C : World → Prop, C = fun w' => ∃ X, Sat W (pts b5 (rdefO ⟨d1, d2, d3, d4, d5⟩) * (pts b (stO s (.slice da s.defs.length dc) av pv tv) * X)) w' := ⟨_, rfl⟩
        have HC := Lib.hid (show ∀ w', C w' → w'.cell? ⟨b, 1, none⟩ = some (.slice da s.defs.length dc) ∧ (Instr.loadAt 57 (.pointer (some ⟨b5, 0, none⟩))).run Try.prog w' = .ok (.agg #[.int .i64 d1, .int .i64 d2, .int .i64 d3, .int .i64 d4, .string d5]) w' from fun w' h => by
          rw [hC] at h
          obtain ⟨X, h⟩ := h
          exact ⟨h.r.cell rfl, load_rdefO h⟩)
        have HC2 := Lib.hid (show ∀ X w', Sat W (pts b5 (rdefO ⟨d1, d2, d3, d4, d5⟩) * (pts b (stO s (.slice da s.defs.length dc) av pv tv) * X)) w' → C w' from fun X w' h => by rw [hC]; exact ⟨X, h⟩)
        clear hC hi hz0 hz1 hz2
        refine wp_region_E C (by kernel_rfl) ?_
        have H10 := Lib.hid H9.out.drew
        clear H9
        obtain ⟨W10, hW10⟩ : ∃ W10, W9.drew = W10 := ⟨_, rfl⟩
        rw [hW10] at H10
        rw [hW10]
        clear hW10
        refine wpE_take (i := 0) (q := 8) (v := ?_) rfl (by kernel_rfl) (by kernel_rfl) (by kernel_rfl) (by kernel_rfl) (by kernel_rfl) (fun _ _ _ h => h) (by kernel_rfl) ?_ ?_
        rotate_left 1
        · intro w hw; obtain ⟨q0, q1⟩ := HC.out _ hw; go_simp; try with_reducible rfl
        refine wpE_take (i := 1) (q := 2) (v := ?_) rfl (by kernel_rfl) (by kernel_rfl) (by kernel_rfl) (by kernel_rfl) (by kernel_rfl) (fun _ _ _ h => h) (by kernel_rfl) ?_ ?_
        rotate_left 1
        · intro w hw; obtain ⟨q0, q1⟩ := HC.out _ hw; go_simp; try with_reducible rfl
        refine wpE_take (i := 2) (q := 3) (v := ?_) rfl (by kernel_rfl) (by kernel_rfl) (by kernel_rfl) (by kernel_rfl) (by kernel_rfl) (fun _ _ _ h => h) (by kernel_rfl) ?_ ?_
        rotate_left 1
        · intro w hw; obtain ⟨q0, q1⟩ := HC.out _ hw; go_simp; try with_reducible rfl
        refine wpE_take (i := 3) (q := 4) (v := ?_) rfl (by kernel_rfl) (by kernel_rfl) (by kernel_rfl) (by kernel_rfl) (by kernel_rfl) (fun _ _ _ h => h) (by kernel_rfl) ?_ ?_
        rotate_left 1
        · intro w hw; obtain ⟨q0, q1⟩ := HC.out _ hw; go_simp; try with_reducible rfl
        refine wpE_take (i := 4) (q := 7) (v := ?_) rfl (by kernel_rfl) (by kernel_rfl) (by kernel_rfl) (by kernel_rfl) (by kernel_rfl) (fun _ _ _ h => h) (by kernel_rfl) ?_ ?_
        rotate_left 1
        · intro w hw; obtain ⟨q0, q1⟩ := HC.out _ hw; go_simp; try with_reducible rfl
        refine wpE_take (i := 5) (q := 6) (v := .agg #[.int .i64 d1, .int .i64 d2, .int .i64 d3, .int .i64 d4, .string d5]) rfl (by kernel_rfl) (by kernel_rfl) (by kernel_rfl) (by kernel_rfl) (by kernel_rfl) (fun _ _ _ h => h) (by kernel_rfl) (fun w hw => ?_) ?_
        · refine exec_load_r 57 (.tmp 5) rfl b5 0 ?_ _ (HC.out _ hw).2
          kernel_rfl
        refine wpE_one (i := 6) rfl (by kernel_rfl) (HC2.out _ _ H10.out) (fun K hK => ?_)
        go_simp
        refine hK _ _ ?_
        clear hK K
        have h11 := H10.out.alloc (rdefO ⟨d1, d2, d3, d4, d5⟩)
        have HRD := Lib.hid (show Rd (W10.alloc (rdefO ⟨d1, d2, d3, d4, d5⟩)) (.slice (some ⟨W10.heap.size, 0, none⟩) 1 1) 1 5 (DefM.cells ⟨d1, d2, d3, d4, d5⟩) from ⟨rfl, by simp [maxLen], _, _, rfl, fun j u hu => ⟨_, _, rfl, by
          rw [Nat.zero_add]
          exact h11.cell (by simpa [DefM.cells] using hu)⟩⟩)
        obtain ⟨b74, hb74⟩ : ∃ b74, W10.heap.size = b74 := ⟨_, rfl⟩
        rw [hb74] at h11 HRD
        rw [hb74]
        obtain ⟨W11, hW11⟩ : ∃ W11, W10.alloc (rdefO ⟨d1, d2, d3, d4, d5⟩) = W11 := ⟨_, rfl⟩
        rw [hW11] at h11 HRD
        rw [hW11]
        have H11 := Lib.hid (h11.of_eq (show _ = row (.slice da s.defs.length dc) (s.defs).length 57 5 (flatD (s.defs)) * (pts b74 (rdefO ⟨d1, d2, d3, d4, d5⟩) * (pts b5 (rdefO ⟨d1, d2, d3, d4, d5⟩) * (pts b (stO s (.slice da s.defs.length dc) av pv tv) * X))) by ac_rfl))
        have hcw3 := HC2.out _ _ (H11.out.of_eq (show _ = pts b5 (rdefO ⟨d1, d2, d3, d4, d5⟩) * (pts b (stO s (.slice da s.defs.length dc) av pv tv) * (row (.slice da s.defs.length dc) (s.defs).length 57 5 (flatD (s.defs)) * (pts b74 (rdefO ⟨d1, d2, d3, d4, d5⟩) * X))) by ac_rfl))
        clear h11 H10 hb74 hW11
        refine wpE_one (i := 7) rfl (by kernel_rfl) (hcw3) (fun K hK => ?_)
        refine step_append_rd rfl _ _ 48 rfl i0 _ 48 Try.underlying48 HI.out HZ0.out HZ1.out HZ2.out rfl (by omega) rfl H11.out (.slice (some ⟨b74, 0, none⟩) 1 1) 1 (DefM.cells ⟨d1, d2, d3, d4, d5⟩) rfl HRD.out (by simp [DefM.cells, Value.oneCell']) (by have := HLN.out; simp [maxLen]; omega) (by have := HLN.out; omega) ?_
        intro v1 w12 h12 _
        obtain ⟨a1, c1, hv1, -⟩ := h12.row_val
        subst hv1
        have h13 := h12.of_eq (show _ = pts b5 (rdefO ⟨d1, d2, d3, d4, d5⟩) * (pts b (stO s (.slice da s.defs.length dc) av pv tv) * (row (.slice a1 ((s.defs).length + 1) c1) ((s.defs).length + 1) 57 5 (flatD (s.defs) ++ DefM.cells ⟨d1, d2, d3, d4, d5⟩) * (pts b74 (rdefO ⟨d1, d2, d3, d4, d5⟩) * X))) by ac_rfl)
        have HCW := Lib.hid (HC2.out _ _ h13)
        have ob := h13.r.lt
        have of := h13.r.free (i := 1)
        have oc := h13.r.cell (i := 1) rfl
        have h14 := (h13.of_eq (show _ = pts b (stO s (.slice da s.defs.length dc) av pv tv) * (pts b5 (rdefO ⟨d1, d2, d3, d4, d5⟩) * (row (.slice a1 ((s.defs).length + 1) c1) ((s.defs).length + 1) 57 5 (flatD (s.defs) ++ DefM.cells ⟨d1, d2, d3, d4, d5⟩) * (pts b74 (rdefO ⟨d1, d2, d3, d4, d5⟩) * X))) by ac_rfl)).set (i := 1) (v := .slice a1 ((s.defs).length + 1) c1)
        have H14 := Lib.hid h14
        clear h12 h13 h14 hcw3 H11 HRD
        go_simp
        refine hK _ _ ?_
        clear hK K
        refine wpE_take (i := 8) (q := 9) (v := ?_) rfl (by kernel_rfl) (by kernel_rfl) (by kernel_rfl) (by kernel_rfl) (by kernel_rfl) (fun _ _ _ h => h) (by kernel_rfl) ?_ ?_
        rotate_left 1
        · intro w hw; obtain ⟨q0, q1⟩ := HC.out _ hw; go_simp; try with_reducible rfl
        refine wpE_take (i := 9) (q := 10) (v := ?_) rfl (by kernel_rfl) (by kernel_rfl) (by kernel_rfl) (by kernel_rfl) (by kernel_rfl) (fun _ _ _ h => h) (by kernel_rfl) ?_ ?_
        rotate_left 1
        · intro w hw; obtain ⟨q0, q1⟩ := HC.out _ hw; go_simp; try with_reducible rfl
        refine wpE_one (i := 10) rfl (by kernel_rfl) (HCW.out) (fun K hK => ?_)
        go_simp
        refine hK _ _ ?_
        clear hK K ob of oc
        refine wpE_done (by kernel_rfl) (by kernel_rfl) ?_
        have e1 : flatD ((s.defs) ++ [(⟨d1, d2, d3, d4, d5⟩ : DefM)]) = flatD (s.defs) ++ DefM.cells ⟨d1, d2, d3, d4, d5⟩ := by simp [flatD]
        have H15 := Lib.hid (show StAt W (pts b5 (rdefO ⟨d1, d2, d3, d4, d5⟩) * (pts b74 (rdefO ⟨d1, d2, d3, d4, d5⟩) * (pts b3 (ropO oc_ oa_ (.slice oda on_ ca) ot_) * A))) V b ({ s with defs := s.defs ++ [⟨d1, d2, d3, d4, d5⟩] } : StM) _ from ⟨(.slice a1 (s.defs.length + 1) c1), av, pv, tv, H1.out, by
          have h := H14.out
          rw [← HXX.out] at h
          simp only
          rw [e1, List.length_append, List.length_singleton]
          exact (show Sat W (pts b (stO s (.slice a1 (s.defs.length + 1) c1) av pv tv) * _) _ from h).of_eq (by ac_rfl)⟩)
        clear H14 HC HC2 HCW e1
        go_wp2
        go_ret
        exact ⟨by rw [HB2.out] <;> rfl, by rw [HB1.out]; exact H15.out.less.less.less⟩
    by_cases p2 : s.part = 2
    · have HPP := Lib.hid (show ¬ (s.part ≠ 1 ∧ s.part ≠ 2) from fun h => h.2 p2)
      rw [p2] at k0'
      clear p1 p2
      refine wp_region_tail (fun w' => w' = W9) 26 (by kernel_rfl) (by kernel_rfl) hW9 ?_
      simp only [List.take_succ_cons, List.take_zero, List.drop_succ_cons, List.drop_zero]
      clear hW9
      iterate 19
        with_reducible refine wpQuiet_val (v := ?_) ?_
        rotate_left 1
        intro K hK
        refine ⟨by kernel_rfl, fun w9 hw9 => ?_, ?_⟩
        · subst hw9; go_simp; try with_reducible rfl
        go_simp
        with_reducible refine hK _ ?_
        clear hK K
      refine wpQuiet_step (fun K hK => ?_)
      go_simp
      refine ⟨.int .i64 fi, ?_, ?_⟩
      · with_reducible refine Calls.mono HF.out ?_
        exact fun _ _ h => ⟨h.1, h.2.symm⟩
      with_reducible refine hK _ ?_
      clear hK K
      iterate 6
        with_reducible refine wpQuiet_val (v := ?_) ?_
        rotate_left 1
        intro K hK
        refine ⟨by kernel_rfl, fun w9 hw9 => ?_, ?_⟩
        · subst hw9; go_simp; try with_reducible rfl
        go_simp
        with_reducible refine hK _ ?_
        clear hK K
      refine wpQuiet_nil ?_
      rintro w18 rfl
      clear k1 k0' c0 HF
      by_cases c3 : fi < s.defs.length
      · have i3 : (fi : Int) < (s.defs.length : Int) := by omega
        have hb : (FR1, FR2) = (s, false) := by
          rw [← HFR.out]
          unfold StM.fontDef
          rw [if_neg HW.out, if_neg HP.out, if_pos (.inr (by rw [HFI.out]; exact c3))]
        obtain ⟨hb1, hb2⟩ := Prod.mk.inj hb
        have HB1 := Lib.hid hb1
        have HB2 := Lib.hid hb2
        clear hb hb1 hb2
        go_wp2
        go_ret
        exact ⟨by rw [HB2.out] <;> rfl, by rw [HB1.out]; exact (show StAt W (pts b5 (rdefO ⟨d1, d2, d3, d4, d5⟩) * (pts b3 (ropO oc_ oa_ (.slice oda on_ ca) ot_) * A)) V b s _ from ⟨(.slice da s.defs.length dc), av, pv, tv, H1.out, H9.out.of_eq (by ac_rfl)⟩).less.less⟩
      · have i3 : ¬ (fi : Int) < (s.defs.length : Int) := by omega
        have hb : (FR1, FR2) = (({ s with defs := s.defs ++ [⟨d1, d2, d3, d4, d5⟩] } : StM), true) := by
          rw [← HFR.out]
          unfold StM.fontDef
          rw [if_neg HW.out, if_neg HP.out, if_neg]
          simp only [not_or]
          exact ⟨HPP.out, by rw [HFI.out]; exact c3⟩
        obtain ⟨hb1, hb2⟩ := Prod.mk.inj hb
        have HB1 := Lib.hid hb1
        have HB2 := Lib.hid hb2
        have HLN := HL
        obtain ⟨X, hX⟩ : ∃ X, row av s.again.length 57 5 (flatD s.again) * (pts b3 (ropO oc_ oa_ (.slice oda on_ ca) ot_) * A) = X := ⟨_, rfl⟩
        have HXX := Lib.hid hX
        have h9 := H9.out.of_eq (show _ = pts b5 (rdefO ⟨d1, d2, d3, d4, d5⟩) * (pts b (stO s (.slice da s.defs.length dc) av pv tv) * (row (.slice da s.defs.length dc) s.defs.length 57 5 (flatD s.defs) * X)) by rw [← hX]; ac_rfl)
        clear hb hb1 hb2 c3 hX H9
        go_upto_region 12 with fail
        have H9 := Lib.hid h9
        clear h9 i3
        generalize w18 = W9 at *
        obtain ⟨i0, hi, hz0, hz1, hz2⟩ := info_parts3 info_rdef
        have HI := Lib.hid hi
        have HZ0 := Lib.hid hz0
        have HZ1 := Lib.hid hz1
        have HZ2 := Lib.hid hz2
        obtain ⟨C, hC⟩ : ∃ C : World → Prop, C = fun w' => ∃ X, Sat W (pts b5 (rdefO ⟨d1, d2, d3, d4, d5⟩) * (pts b (stO s (.slice da s.defs.length dc) av pv tv) * X)) w' := ⟨_, rfl⟩
        have HC := Lib.hid (show ∀ w', C w' → w'.cell? ⟨b, 1, none⟩ = some (.slice da s.defs.length dc) ∧ (Instr.loadAt 57 (.pointer (some ⟨b5, 0, none⟩))).run Try.prog w' = .ok (.agg #[.int .i64 d1, .int .i64 d2, .int .i64 d3, .int .i64 d4, .string d5]) w' from fun w' h => by
          rw [hC] at h
          obtain ⟨X, h⟩ := h
          exact ⟨h.r.cell rfl, load_rdefO h⟩)
        have HC2 := Lib.hid (show ∀ X w', Sat W (pts b5 (rdefO ⟨d1, d2, d3, d4, d5⟩) * (pts b (stO s (.slice da s.defs.length dc) av pv tv) * X)) w' → C w' from fun X w' h => by rw [hC]; exact ⟨X, h⟩)
        clear hC hi hz0 hz1 hz2
        refine wp_region_E C (by kernel_rfl) ?_
        have H10 := Lib.hid H9.out.drew
        clear H9
        obtain ⟨W10, hW10⟩ : ∃ W10, W9.drew = W10 := ⟨_, rfl⟩
        rw [hW10] at H10
        rw [hW10]
        clear hW10
        refine wpE_take (i := 0) (q := 8) (v := ?_) rfl (by kernel_rfl) (by kernel_rfl) (by kernel_rfl) (by kernel_rfl) (by kernel_rfl) (fun _ _ _ h => h) (by kernel_rfl) ?_ ?_
        rotate_left 1
        · intro w hw; obtain ⟨q0, q1⟩ := HC.out _ hw; go_simp; try with_reducible rfl
        refine wpE_take (i := 1) (q := 2) (v := ?_) rfl (by kernel_rfl) (by kernel_rfl) (by kernel_rfl) (by kernel_rfl) (by kernel_rfl) (fun _ _ _ h => h) (by kernel_rfl) ?_ ?_
        rotate_left 1
        · intro w hw; obtain ⟨q0, q1⟩ := HC.out _ hw; go_simp; try with_reducible rfl
        refine wpE_take (i := 2) (q := 3) (v := ?_) rfl (by kernel_rfl) (by kernel_rfl) (by kernel_rfl) (by kernel_rfl) (by kernel_rfl) (fun _ _ _ h => h) (by kernel_rfl) ?_ ?_
        rotate_left 1
        · intro w hw; obtain ⟨q0, q1⟩ := HC.out _ hw; go_simp; try with_reducible rfl
        refine wpE_take (i := 3) (q := 4) (v := ?_) rfl (by kernel_rfl) (by kernel_rfl) (by kernel_rfl) (by kernel_rfl) (by kernel_rfl) (fun _ _ _ h => h) (by kernel_rfl) ?_ ?_
        rotate_left 1
        · intro w hw; obtain ⟨q0, q1⟩ := HC.out _ hw; go_simp; try with_reducible rfl
        refine wpE_take (i := 4) (q := 7) (v := ?_) rfl (by kernel_rfl) (by kernel_rfl) (by kernel_rfl) (by kernel_rfl) (by kernel_rfl) (fun _ _ _ h => h) (by kernel_rfl) ?_ ?_
        rotate_left 1
        · intro w hw; obtain ⟨q0, q1⟩ := HC.out _ hw; go_simp; try with_reducible rfl
        refine wpE_take (i := 5) (q := 6) (v := .agg #[.int .i64 d1, .int .i64 d2, .int .i64 d3, .int .i64 d4, .string d5]) rfl (by kernel_rfl) (by kernel_rfl) (by kernel_rfl) (by kernel_rfl) (by kernel_rfl) (fun _ _ _ h => h) (by kernel_rfl) (fun w hw => ?_) ?_
        · refine exec_load_r 57 (.tmp 5) rfl b5 0 ?_ _ (HC.out _ hw).2
          kernel_rfl
        refine wpE_one (i := 6) rfl (by kernel_rfl) (HC2.out _ _ H10.out) (fun K hK => ?_)
        go_simp
        refine hK _ _ ?_
        clear hK K
        have h11 := H10.out.alloc (rdefO ⟨d1, d2, d3, d4, d5⟩)
        have HRD := Lib.hid (show Rd (W10.alloc (rdefO ⟨d1, d2, d3, d4, d5⟩)) (.slice (some ⟨W10.heap.size, 0, none⟩) 1 1) 1 5 (DefM.cells ⟨d1, d2, d3, d4, d5⟩) from ⟨rfl, by simp [maxLen], _, _, rfl, fun j u hu => ⟨_, _, rfl, by
          rw [Nat.zero_add]
          exact h11.cell (by simpa [DefM.cells] using hu)⟩⟩)
        obtain ⟨b74, hb74⟩ : ∃ b74, W10.heap.size = b74 := ⟨_, rfl⟩
        rw [hb74] at h11 HRD
        rw [hb74]
        obtain ⟨W11, hW11⟩ : ∃ W11, W10.alloc (rdefO ⟨d1, d2, d3, d4, d5⟩) = W11 := ⟨_, rfl⟩
        rw [hW11] at h11 HRD
        rw [hW11]
        have H11 := Lib.hid (h11.of_eq (show _ = row (.slice da s.defs.length dc) (s.defs).length 57 5 (flatD (s.defs)) * (pts b74 (rdefO ⟨d1, d2, d3, d4, d5⟩) * (pts b5 (rdefO ⟨d1, d2, d3, d4, d5⟩) * (pts b (stO s (.slice da s.defs.length dc) av pv tv) * X))) by ac_rfl))
        have hcw3 := HC2.out _ _ (H11.out.of_eq (show _ = pts b5 (rdefO ⟨d1, d2, d3, d4, d5⟩) * (pts b (stO s (.slice da s.defs.length dc) av pv tv) * (row (.slice da s.defs.length dc) (s.defs).length 57 5 (flatD (s.defs)) * (pts b74 (rdefO ⟨d1, d2, d3, d4, d5⟩) * X))) by ac_rfl))
        clear h11 H10 hb74 hW11
        refine wpE_one (i := 7) rfl (by kernel_rfl) (hcw3) (fun K hK => ?_)
        refine step_append_rd rfl _ _ 48 rfl i0 _ 48 Try.underlying48 HI.out HZ0.out HZ1.out HZ2.out rfl (by omega) rfl H11.out (.slice (some ⟨b74, 0, none⟩) 1 1) 1 (DefM.cells ⟨d1, d2, d3, d4, d5⟩) rfl HRD.out (by simp [DefM.cells, Value.oneCell']) (by have := HLN.out; simp [maxLen]; omega) (by have := HLN.out; omega) ?_
        intro v1 w12 h12 _
        obtain ⟨a1, c1, hv1, -⟩ := h12.row_val
        subst hv1
        have h13 := h12.of_eq (show _ = pts b5 (rdefO ⟨d1, d2, d3, d4, d5⟩) * (pts b (stO s (.slice da s.defs.length dc) av pv tv) * (row (.slice a1 ((s.defs).length + 1) c1) ((s.defs).length + 1) 57 5 (flatD (s.defs) ++ DefM.cells ⟨d1, d2, d3, d4, d5⟩) * (pts b74 (rdefO ⟨d1, d2, d3, d4, d5⟩) * X))) by ac_rfl)
        have HCW := Lib.hid (HC2.out _ _ h13)
        have ob := h13.r.lt
        have of := h13.r.free (i := 1)
        have oc := h13.r.cell (i := 1) rfl
        have h14 := (h13.of_eq (show _ = pts b (stO s (.slice da s.defs.length dc) av pv tv) * (pts b5 (rdefO ⟨d1, d2, d3, d4, d5⟩) * (row (.slice a1 ((s.defs).length + 1) c1) ((s.defs).length + 1) 57 5 (flatD (s.defs) ++ DefM.cells ⟨d1, d2, d3, d4, d5⟩) * (pts b74 (rdefO ⟨d1, d2, d3, d4, d5⟩) * X))) by ac_rfl)).set (i := 1) (v := .slice a1 ((s.defs).length + 1) c1)
        have H14 := Lib.hid h14
        clear h12 h13 h14 hcw3 H11 HRD
        go_simp
        refine hK _ _ ?_
        clear hK K
        refine wpE_take (i := 8) (q := 9) (v := ?_) rfl (by kernel_rfl) (by kernel_rfl) (by kernel_rfl) (by kernel_rfl) (by kernel_rfl) (fun _ _ _ h => h) (by kernel_rfl) ?_ ?_
        rotate_left 1
        · intro w hw; obtain ⟨q0, q1⟩ := HC.out _ hw; go_simp; try with_reducible rfl
        refine wpE_take (i := 9) (q := 10) (v := ?_) rfl (by kernel_rfl) (by kernel_rfl) (by kernel_rfl) (by kernel_rfl) (by kernel_rfl) (fun _ _ _ h => h) (by kernel_rfl) ?_ ?_
        rotate_left 1
        · intro w hw; obtain ⟨q0, q1⟩ := HC.out _ hw; go_simp; try with_reducible rfl
        refine wpE_one (i := 10) rfl (by kernel_rfl) (HCW.out) (fun K hK => ?_)
        go_simp
        refine hK _ _ ?_
        clear hK K ob of oc
        refine wpE_done (by kernel_rfl) (by kernel_rfl) ?_
        have e1 : flatD ((s.defs) ++ [(⟨d1, d2, d3, d4, d5⟩ : DefM)]) = flatD (s.defs) ++ DefM.cells ⟨d1, d2, d3, d4, d5⟩ := by simp [flatD]
        have H15 := Lib.hid (show StAt W (pts b5 (rdefO ⟨d1, d2, d3, d4, d5⟩) * (pts b74 (rdefO ⟨d1, d2, d3, d4, d5⟩) * (pts b3 (ropO oc_ oa_ (.slice oda on_ ca) ot_) * A))) V b ({ s with defs := s.defs ++ [⟨d1, d2, d3, d4, d5⟩] } : StM) _ from ⟨(.slice a1 (s.defs.length + 1) c1), av, pv, tv, H1.out, by
          have h := H14.out
          rw [← HXX.out] at h
          simp only
          rw [e1, List.length_append, List.length_singleton]
          exact (show Sat W (pts b (stO s (.slice a1 (s.defs.length + 1) c1) av pv tv) * _) _ from h).of_eq (by ac_rfl)⟩)
        clear H14 HC HC2 HCW e1
        go_wp2
        go_ret
        exact ⟨by rw [HB2.out] <;> rfl, by rw [HB1.out]; exact H15.out.less.less.less⟩
    · have HPP := Lib.hid (show s.part ≠ 1 ∧ s.part ≠ 2 from ⟨p1, p2⟩)
      have p1b : (s.part == 1) = false := by rw [beq_eq_false_iff_ne]; exact p1
      have p2b : (s.part == 2) = false := by rw [beq_eq_false_iff_ne]; exact p2
      have p1c : (s.part != 1) = true := by rw [bne, p1b]; rfl
      have p2c : (s.part != 2) = true := by rw [bne, p2b]; rfl
      refine wp_region_tail (fun w' => w' = W9) 26 (by kernel_rfl) (by kernel_rfl) hW9 ?_
      simp only [List.take_succ_cons, List.take_zero, List.drop_succ_cons, List.drop_zero]
      clear hW9
      iterate 13
        with_reducible refine wpQuiet_val (v := ?_) ?_
        rotate_left 1
        intro K hK
        refine ⟨by kernel_rfl, fun w9 hw9 => ?_, ?_⟩
        · subst hw9; go_simp; try with_reducible rfl
        go_simp
        with_reducible refine hK _ ?_
        clear hK K
      iterate 13
        with_reducible refine wpQuiet_skip ?_
        intro K hK
        refine And.intro ?_ ?_
        · kernel_rfl
        go_simp
        with_reducible refine hK _ ?_
        clear hK K
      refine wpQuiet_nil ?_
      rintro w18 rfl
      clear k1 k0' c0
      have hb : (FR1, FR2) = (s, false) := by
        rw [← HFR.out]
        unfold StM.fontDef
        rw [if_neg HW.out, if_neg HP.out, if_pos (.inl HPP.out)]
      obtain ⟨hb1, hb2⟩ := Prod.mk.inj hb
      have HB1 := Lib.hid hb1
      have HB2 := Lib.hid hb2
      clear hb hb1 hb2
      go_wp2
      go_ret
      exact ⟨by rw [HB2.out] <;> rfl, by rw [HB1.out]; exact (show StAt W (pts b5 (rdefO ⟨d1, d2, d3, d4, d5⟩) * (pts b3 (ropO oc_ oa_ (.slice oda on_ ca) ot_) * A)) V b s _ from ⟨(.slice da s.defs.length dc), av, pv, tv, H1.out, H9.out.of_eq (by ac_rfl)⟩).less.less⟩

end Go.Proofs.Ytjeinldhbajknaa
