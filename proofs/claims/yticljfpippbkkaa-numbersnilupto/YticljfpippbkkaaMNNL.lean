import Derived.Test.YticljfpippbkkaaMNKY
/-
  Without a source, or without a table: all is refused. Conditions: those that each theorem names.
-/
namespace Go.Proofs.Yticljfpippbkkaa
open Go.RowKit Go.Sp
variable {W w w' : World} {A : HProp} {p src : Value}

/-- no table, or one that nobody made -/
def NoT (w : World) (p : Value) : Prop := p = .pointer none ∨ ∃ b, p = .pointer (some ⟨b, 0, none⟩) ∧ w.cell? ⟨b, 0, none⟩ = some (.map none)
theorem NoT.ext (h : NoT w p) (k : Ext w w') : NoT w' p := by
  rcases h with h | ⟨b, h1, h2⟩
  · exact .inl h
  · exact .inr ⟨b, h1, k.cell h2⟩

theorem good_no (h : NoT w p) : Calls Try.prog 68 #[p] w fun e w' => e = .returned (.bool false) ∧ w = w' := by
  rcases h with rfl | ⟨b, rfl, c0⟩
  · go_enter Try.func68, Try.ntmps68
    go_wp2
    go_ret
    exact ⟨rfl, rfl⟩
  · have qT : (binOp .neq 55 (.map none) (.map none)).run Try.prog w = .ok (.bool false) w := run_neq_map_nil w _ _ _ none Try.underlying55
    go_enter Try.func68, Try.ntmps68
    go_wp2
    go_ret
    exact ⟨rfl, rfl⟩
theorem wrong_no (c i : Int) (h : NoT w p) : Calls Try.prog 62 #[p, .int .i64 c, .int .i64 i] w fun e w' => e = .returned (.int .i64 1) ∧ w = w' := by
  have HG := Lib.hid (good_no h)
  clear h
  go_enter Try.func62, Try.ntmps62
  go_wp2_with fail
  refine Calls.mono HG.out ?_
  rintro e w' ⟨rfl, rfl⟩
  go_wp2
  go_ret
  exact ⟨rfl, rfl⟩
abbrev zvA : Value := .agg #[.int .i64 0, .int .i64 0, .int .i64 0, .int .i64 0, .int .i64 0, .int .i64 0, .slice none 0 0]
theorem getNo (c i : Int) (h : NoT w p) : Calls Try.prog 45 #[p, .int .i64 c, .int .i64 i] w fun e w' => e = .returned (.tuple #[zvA, .int .i64 1]) ∧ Ext w w' := by
  have hx : Ext w (w.alloc (.cells #[.int .i64 0, .int .i64 0, .int .i64 0, .int .i64 0, .int .i64 0, .int .i64 0, .slice none 0 0] 59)) := (Ext.refl w).alloc
  have HX := Lib.hid hx
  have HG := Lib.hid (wrong_no c i (h.ext hx))
  clear h hx
  go_enter Try.func45, Try.ntmps45
  go_wp2_with fail
  refine Calls.mono HG.out ?_
  rintro e w' ⟨rfl, rfl⟩
  go_wp2
  (try simp only [Exit.inBlock, Exit.then])
  exact bodyPost_ret (v := .tuple #[zvA, .int .i64 1]) (by unfold results; go_simp) rfl ⟨rfl, HX.out⟩

set_option maxRecDepth 100000 in
theorem nothing_yes (w : World) : Calls Try.prog 31 #[.nilIface] w fun e w' => e = .returned (.bool true) ∧ w = w' := by
  have hta : (Instr.typeAssert .nilIface 80 23 true).run Try.prog w = .ok (.tuple #[.pointer none, .bool false]) w := by kernel_rfl
  go_enter Try.func31, Try.ntmps31
  go_wp2
  go_ret
  exact ⟨rfl, rfl⟩
/-- open refuses -/
def OpenNo (w : World) (src p : Value) : Prop := Calls Try.prog 28 #[src, p] w fun e w' => e = .returned (.tuple #[.pointer none, .int .i64 1]) ∧ Ext w w'
theorem open_nosrc (w : World) (o : Option Addr) : OpenNo w .nilIface (.pointer o) := by
  unfold OpenNo
  go_enter Try.func28, Try.ntmps28
  go_wp2_with fail
  with_reducible refine Calls.mono (nothing_yes w) ?_
  rintro e w' ⟨rfl, rfl⟩
  go_wp2
  exact bodyPost_ret (v := .tuple #[.pointer none, .int .i64 1]) (by unfold results; go_simp) rfl ⟨rfl, Ext.refl _⟩
set_option maxRecDepth 100000 in
theorem open_notab {bs : Nat} (h : NoT w p) : OpenNo w (srcV bs) p := by
  unfold OpenNo
  rcases h with rfl | ⟨b, rfl, c0⟩
  · go_enter Try.func28, Try.ntmps28
    go_wp2_with fail
    with_reducible refine Calls.mono (nothing_no bs w) ?_
    rintro e w' ⟨rfl, rfl⟩
    go_wp2
    exact bodyPost_ret (v := .tuple #[.pointer none, .int .i64 1]) (by unfold results; go_simp) rfl ⟨rfl, Ext.refl _⟩
  · have HG := Lib.hid (getNo 1 0 (w := w) (.inr ⟨b, rfl, c0⟩))
    clear c0
    go_enter Try.func28, Try.ntmps28
    go_wp2_with fail
    with_reducible refine Calls.mono (nothing_no bs w) ?_
    rintro e w' ⟨rfl, rfl⟩
    go_wp2_with fail
    with_reducible refine Calls.mono HG.out ?_
    rintro e w1 ⟨rfl, x1⟩
    have X1 := Lib.hid (x1.alloc (o := .cells #[.int .i64 0, .int .i64 0, .int .i64 0, .int .i64 0, .int .i64 0, .int .i64 0, .slice none 0 0] 59))
    clear x1 HG
    unfold zvA
    go_wp2
    exact bodyPost_ret (v := .tuple #[.pointer none, .int .i64 1]) (by unfold results; go_simp) rfl ⟨rfl, X1.out⟩
set_option maxRecDepth 100000 in
theorem int_no (h : OpenNo w src p) : Calls Try.prog 16 #[src, p] w fun e w' => e = .returned (.tuple #[.int .i64 0, .int .i64 1]) ∧ Ext w w' := by
  have HO := Lib.hid (show Calls Try.prog 28 #[src, p] w fun e w' => e = .returned (.tuple #[.pointer none, .int .i64 1]) ∧ Ext w w' from h)
  clear h
  go_enter Try.func16, Try.ntmps16
  go_wp2_with fail
  with_reducible refine Calls.mono HO.out ?_
  rintro e w1 ⟨rfl, x1⟩
  have X1 := Lib.hid x1
  clear x1 HO
  go_wp2
  exact bodyPost_ret (v := .tuple #[.int .i64 0, .int .i64 1]) (by unfold results; go_simp) rfl ⟨rfl, X1.out⟩
set_option maxRecDepth 100000 in
theorem dimen_no (h : OpenNo w src p) : Calls Try.prog 22 #[src, p] w fun e w' => e = .returned (.tuple #[.int .i64 0, .int .i64 1]) ∧ Ext w w' := by
  have HO := Lib.hid (show Calls Try.prog 28 #[src, p] w fun e w' => e = .returned (.tuple #[.pointer none, .int .i64 1]) ∧ Ext w w' from h)
  clear h
  go_enter Try.func22, Try.ntmps22
  go_wp2_with fail
  with_reducible refine Calls.mono HO.out ?_
  rintro e w1 ⟨rfl, x1⟩
  have X1 := Lib.hid x1
  clear x1 HO
  go_wp2
  exact bodyPost_ret (v := .tuple #[.int .i64 0, .int .i64 1]) (by unfold results; go_simp) rfl ⟨rfl, X1.out⟩
set_option maxRecDepth 100000 in
theorem reg_no (h : OpenNo w src p) : Calls Try.prog 24 #[src, p] w fun e w' => e = .returned (.tuple #[.int .i64 0, .int .i64 0, .bool false, .int .i64 1]) ∧ Ext w w' := by
  have HO := Lib.hid (show Calls Try.prog 28 #[src, p] w fun e w' => e = .returned (.tuple #[.pointer none, .int .i64 1]) ∧ Ext w w' from h)
  clear h
  go_enter Try.func24, Try.ntmps24
  go_wp2_with fail
  with_reducible refine Calls.mono HO.out ?_
  rintro e w1 ⟨rfl, x1⟩
  have X1 := Lib.hid x1
  clear x1 HO
  go_wp2
  exact bodyPost_ret (v := .tuple #[.int .i64 0, .int .i64 0, .bool false, .int .i64 1]) (by unfold results; go_simp) rfl ⟨rfl, X1.out⟩
set_option maxRecDepth 100000 in
theorem keyword_no (l : List UInt8) (w : World) : Calls Try.prog 19 #[.nilIface, (.string ⟨l.toArray⟩)] w fun e w' => e = .returned (.tuple #[.bool false, .int .i64 1]) ∧ w = w' := by
  generalize (⟨l.toArray⟩ : ByteArray) = s at *
  go_enter Try.func19, Try.ntmps19
  go_wp2_with fail
  with_reducible refine Calls.mono (nothing_yes w) ?_
  rintro e w' ⟨rfl, rfl⟩
  go_wp2
  exact bodyPost_ret (v := .tuple #[.bool false, .int .i64 1]) (by unfold results; go_simp) rfl ⟨rfl, rfl⟩
abbrev zGl : Obj := .cells #[.int .i64 0, .int .i64 0, .int .i64 0, .int .i64 0, .int .i64 0] 57
abbrev zGlV : Value := .agg #[.int .i64 0, .int .i64 0, .int .i64 0, .int .i64 0, .int .i64 0]
set_option maxRecDepth 100000 in
set_option maxHeartbeats 4000000 in
theorem glue_no (h : ∀ w', Ext w w' → OpenNo w' src p) : Calls Try.prog 23 #[src, p] w fun e w' => e = .returned (.tuple #[zGlV, .int .i64 1]) ∧ Ext w w' := by
  have hx : Ext w (w.alloc zGl) := (Ext.refl w).alloc
  have HO := Lib.hid (show Calls Try.prog 28 #[src, p] (w.alloc zGl) fun e w' => e = .returned (.tuple #[.pointer none, .int .i64 1]) ∧ Ext (w.alloc zGl) w' from h _ hx)
  have hs := (Sat.start w).alloc zGl
  have HS := Lib.hid hs
  obtain ⟨b, hb⟩ : ∃ b, w.heap.size = b := ⟨_, rfl⟩
  rw [hb] at HS
  obtain ⟨w1, hw1⟩ : ∃ w1, w.alloc zGl = w1 := ⟨_, rfl⟩
  rw [hw1] at HS HO
  clear h hx hs
  go_enter Try.func23, Try.ntmps23
  go_upto_region 1 with fail
  (try rw [hw1])
  (try rw [hb])
  clear hw1 hb
  go_wp2_with fail
  with_reducible refine Calls.mono HO.out ?_
  rintro e w2 ⟨rfl, x1⟩
  have h2 := HS.out.ext x1
  have c0 := h2.cell (i := 0) rfl
  have c1 := h2.cell (i := 1) rfl
  have c2 := h2.cell (i := 2) rfl
  have c3 := h2.cell (i := 3) rfl
  have c4 := h2.cell (i := 4) rfl
  have f0 := h2.free (i := 0)
  have f1 := h2.free (i := 1)
  have f2 := h2.free (i := 2)
  have f3 := h2.free (i := 3)
  have f4 := h2.free (i := 4)
  have lb := h2.lt
  have h3 := ((((h2.set (i := 0) (v := .int .i64 0)).set (i := 1) (v := .int .i64 0)).set (i := 2) (v := .int .i64 0)).set (i := 3) (v := .int .i64 0)).set (i := 4) (v := .int .i64 0)
  have H3 := Lib.hid (show Sat w (pts b zGl * own w) _ from h3)
  clear h2 h3 x1 HS HO
  go_wp2
  clear c0 c1 c2 c3 c4 f0 f1 f2 f3 f4
  have c0 := H3.out.cell (i := 0) rfl
  have c1 := H3.out.cell (i := 1) rfl
  have c2 := H3.out.cell (i := 2) rfl
  have c3 := H3.out.cell (i := 3) rfl
  have c4 := H3.out.cell (i := 4) rfl
  have lb := H3.out.lt
  exact bodyPost_ret (v := .tuple #[zGlV, .int .i64 1]) (by unfold results; go_simp) rfl ⟨rfl, H3.out.r.toExt⟩
end Go.Proofs.Yticljfpippbkkaa

/-
  NumbersNil, the walk. Conditions: those that each theorem names.
-/
namespace Go.Proofs.Yticljfpippbkkaa
open Go.RowKit Go.Sp
variable {W w w' : World} {L : List Tok}

theorem zc_names : Try.zeroCells64[0]? = some (.map none) := by kernel_rfl
set_option maxRecDepth 1000000 in
set_option maxHeartbeats 8000000 in
theorem nil_ext {v : Value} (hv : RdT W v L) (hl : L.length ≤ 1048576) :
    Calls Try.prog 6 #[v] W fun e w' => e = .returned (.bool true) ∧ Ext W w' := by
  obtain ⟨va, vc, hvv⟩ := hv.val
  subst hvv
  have hb := (Sat.start W).alloc (.cells Try.zeroCells64 64)
  obtain ⟨b, hbb⟩ : ∃ b, W.heap.size = b := ⟨_, rfl⟩
  obtain ⟨W1, hW1⟩ : ∃ W1, W.alloc (.cells Try.zeroCells64 64) = W1 := ⟨_, rfl⟩
  rw [hbb, hW1] at hb
  have HE := Lib.hid hb.r.toExt
  have HNT := Lib.hid (show ∀ w', Ext W1 w' → NoT w' (.pointer (some ⟨b, 0, none⟩)) from fun w' h => .inr ⟨b, rfl, h.cell (hb.cell zc_names)⟩)
  obtain ⟨k, hk⟩ : ∃ k, L.length = k := ⟨_, rfl⟩
  have HK := Lib.hid hk
  rw [hk] at hv hl
  rw [hk]
  have HV := Lib.hid (show ∀ w', Sat W1 (own W1) w' → RdT w' (.slice va k vc) L from fun w' h => hv.ext (HE.out.trans h.toExt))
  have X0 := Lib.hid (Ext.refl W1)
  clear hb hv hk
  go_enter Try.func6, Try.ntmps6
  go_upto_region 2 with fail
  (try rw [hbb])
  (try rw [hW1])
  clear hW1 hbb
  go_wp2_with fail
  with_reducible refine Calls.mono (keyword_no [112, 116] W1) ?_
  rintro e w1 ⟨rfl, rfl⟩
  have HN := Lib.hid (new_any (Sat.start W1))
  go_wp2_with fail
  with_reducible refine Calls.mono HN.out ?_
  rintro e w2 ⟨bt, rfl, h2⟩
  obtain ⟨Y, h2s, -⟩ := h2.focus
  have X2 := Lib.hid h2s.l.toExt
  have HI := Lib.hid (int_no (open_nosrc w2 (some ⟨bt, 0, none⟩)))
  clear h2 h2s HN X0
  go_wp2_with fail
  with_reducible refine Calls.mono HI.out ?_
  rintro e w3 ⟨rfl, x3⟩
  have X3 := Lib.hid (X2.out.trans x3)
  clear x3 X2 HI
  have HG := Lib.hid (glist_any (W := W1) (v := .slice va k vc) (L := L) (A := own W1) HV.out (by have := HK.out; omega) (Sat.ext (Sat.start W1) X3.out))
  clear X3
  go_wp2_with fail
  with_reducible refine Calls.mono HG.out ?_
  rintro e w4 ⟨bs, rfl, h4⟩
  have X4 := Lib.hid h4.sat.toExt
  have HI := Lib.hid (int_no (open_notab (bs := bs) (w := w4) (p := .pointer none) (.inl rfl)))
  clear h4 HG
  go_wp2_with fail
  with_reducible refine Calls.mono HI.out ?_
  rintro e w5 ⟨rfl, x5⟩
  have X5 := Lib.hid (X4.out.trans x5)
  clear x5 X4 HI
  have HG := Lib.hid (glist_any (W := W1) (v := .slice va k vc) (L := L) (A := own W1) HV.out (by have := HK.out; omega) (Sat.ext (Sat.start W1) X5.out))
  clear X5
  go_wp2_with fail
  with_reducible refine Calls.mono HG.out ?_
  rintro e w6 ⟨bs6, rfl, h6⟩
  have X6 := Lib.hid h6.sat.toExt
  have HI := Lib.hid (dimen_no (open_notab (bs := bs6) (HNT.out w6 X6.out)))
  clear h6 HG
  go_wp2_with fail
  with_reducible refine Calls.mono HI.out ?_
  rintro e w7 ⟨rfl, x7⟩
  have X7 := Lib.hid (X6.out.trans x7)
  clear x7 X6 HI
  have HG := Lib.hid (glist_any (W := W1) (v := .slice va k vc) (L := L) (A := own W1) HV.out (by have := HK.out; omega) (Sat.ext (Sat.start W1) X7.out))
  clear X7
  go_wp2_with fail
  with_reducible refine Calls.mono HG.out ?_
  rintro e w8 ⟨bs8, rfl, h8⟩
  have X8 := Lib.hid h8.sat.toExt
  have HI := Lib.hid (glue_no (src := srcV bs8) (p := .pointer none) (w := w8) (fun w' _ => open_notab (.inl rfl)))
  clear h8 HG
  go_wp2_with fail
  with_reducible refine Calls.mono HI.out ?_
  rintro e w9 ⟨rfl, x9⟩
  have X9 := Lib.hid ((X8.out.trans x9).alloc (o := zGl))
  clear x9 X8 HI
  go_upto_region 7 with fail
  obtain ⟨w10, hw10⟩ : ∃ w10, w9.alloc zGl = w10 := ⟨_, rfl⟩
  rw [hw10] at X9
  (try rw [show w9.alloc (.cells #[.int .i64 0, .int .i64 0, .int .i64 0, .int .i64 0, .int .i64 0] 57) = w10 from hw10])
  clear hw10
  have HG := Lib.hid (glist_any (W := W1) (v := .slice va k vc) (L := L) (A := own W1) HV.out (by have := HK.out; omega) (Sat.ext (Sat.start W1) X9.out))
  clear X9
  go_wp2_with fail
  with_reducible refine Calls.mono HG.out ?_
  rintro e w11 ⟨bs11, rfl, h11⟩
  have X11 := Lib.hid h11.sat.toExt
  have HI := Lib.hid (reg_no (open_notab (bs := bs11) (HNT.out w11 X11.out)))
  clear h11 HG
  go_wp2_with fail
  with_reducible refine Calls.mono HI.out ?_
  rintro e w12 ⟨rfl, x12⟩
  have X12 := Lib.hid (X11.out.trans x12)
  have HKN := Lib.hid (nknows_any (Sat.ext (Sat.start W1) X12.out))
  clear x12 X11 HI X12
  go_wp2_with (first | (go_at_call 18; with_reducible refine Calls.mono (num_any _ _) ?_; rintro e _ ⟨rfl, rfl⟩) | fail)
  with_reducible refine Calls.mono HKN.out ?_
  rintro e w13 ⟨rfl, h13⟩
  have X13 := Lib.hid (HE.out.trans h13.toExt)
  clear h13 HKN
  go_wp2
  go_ret
  exact ⟨rfl, X13.out⟩
end Go.Proofs.Yticljfpippbkkaa
