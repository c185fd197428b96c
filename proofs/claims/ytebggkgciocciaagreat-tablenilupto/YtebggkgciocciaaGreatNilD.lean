
/-
  The law's looks, without a table: nothing is told, on both sides. Conditions: those that each theorem names.
-/
import Derived.Test.YtebggkgciocciaaGreatNilB
namespace Go.Proofs.YtebggkgciocciaaGreat
open Go.RowKit Go.Sp
variable {W w w' : World} {F A : HProp} {p : Value}

theorem words_nil (w : World) : Calls Tryz.prog 33 #[.slice none 0 0, .slice none 0 0] w fun e w' => e = .returned (.bool true) ∧ Ext w w' := by
  go_enter Tryz.func33, Tryz.ntmps33
  go_wp2
  go_loopw [5] (fun i wr => i = .int .i64 0 ∧ Ext w wr) (fun _ _ => 0)
  case atStart => exact ⟨rfl, Ext.refl _⟩
  case round =>
    obtain ⟨rfl, hx⟩ := hrel
    have HX := Lib.hid hx
    clear hx
    go_wp2
    go_ret
    exact ⟨rfl, HX.out⟩
theorem toks_nil (w : World) : Calls Tryz.prog 38 #[.slice none 0 0, .slice none 0 0] w fun e w' => e = .returned (.bool true) ∧ Ext w w' :=
  (sameT_any [] [] (.slice none 0 0) (.slice none 0 0) w (RdT.empty w none 0) (RdT.empty w none 0)).mono fun _ _ ⟨h1, q, h2⟩ => ⟨h1, h2 ▸ drewN_ext w q⟩
theorem same_zero (w : World) : Calls Tryz.prog 26 #[zvA, zvA] w fun e w' => e = .returned (.bool true) ∧ Ext w w' :=
  same_yes ⟨0, ⟨0, 0, 0, 0, 0⟩, []⟩ (.slice none 0 0) (.slice none 0 0) w (RdT.empty w none 0) (RdT.empty w none 0)

theorem part_intsZ (L : List Int) (i : Nat) (hi : i < L.length) (w : World) : (part 3 (L.map (Value.int .i64)).toArray i).run Tryz.prog w = .ok (.int .i64 (L[i])) w :=
  run_part_plain (P := Tryz.prog) w (e := 3) (by kernel_rfl) (by simp [hi])
theorem eq_itemsZ (L : List Int) (w : World) : ∀ (is : List Nat), (∀ i ∈ is, i < L.length) → (Op.eqItems 9999 3 1 (L.map (Value.int .i64)).toArray (L.map (Value.int .i64)).toArray is).run Tryz.prog w = .ok true w
  | [], _ => rfl
  | i :: is, h => by
    have hi := h i (.head _)
    have e1 := run_equalIn_int (P := Tryz.prog) w 9998 3 .i64 .i64 L[i] L[i] Tryz.underlying3
    have p1 := part_intsZ L i hi w
    simp only [Op.eqItems, Sem.run_bind, Nat.mul_one, p1, e1, Result.andThen_ok, beq_self_eq_true, Bool.not_true, Bool.false_eq_true, if_false]
    exact eq_itemsZ L w is (fun j hj => h j (.tail _ hj))
theorem run_neq_codes (L : List Int) (hL : L.length = 256) (w : World) : (binOp .neq 69 (codesV L) (codesV L)).run Tryz.prog w = .ok (.bool false) w := by
  obtain ⟨i, hi⟩ := infoInt
  have h1 : (Op.equal 69 (codesV L) (codesV L)).run Tryz.prog w = .ok true w := by
    show (Op.equalIn (9999 + 1) 69 (codesV L) (codesV L)).run Tryz.prog w = _
    rw [run_equalIn_array (P := Tryz.prog) w 9999 _ _ Tryz.underlying69 hi, cellsOf_int]
    exact eq_itemsZ L w _ (fun j hj => by rw [hL]; exact List.mem_range.1 hj)
  simp only [binOp]
  simp [h1]

set_option maxRecDepth 100000 in
set_option maxHeartbeats 8000000 in
theorem looks_no (o : OpS) (s : Value) (hp : NoT w p) :
    Calls Tryz.prog 5 #[p, .pointer none, o.val s] w fun e w' => e = .returned (.bool true) ∧ Ext w w' := by
  have hb := (Sat.start w).alloc (.cells (o.cells s) 42)
  obtain ⟨bo, hbo⟩ : ∃ bo, w.heap.size = bo := ⟨_, rfl⟩
  rw [hbo] at hb
  have HW1 := Lib.hid hb.r.toExt
  have HNT := Lib.hid (hp.ext hb.r.toExt)
  have hlt := hb.lt
  obtain ⟨W1, hW1⟩ : ∃ W1, w.alloc (.cells (o.cells s) 42) = W1 := ⟨_, rfl⟩
  rw [hW1] at hb HW1 HNT hlt
  have HBO := Lib.hid (show ∀ w', Ext W1 w' → w'.cell? ⟨bo, 1, none⟩ = some (.int .i64 o.cls) ∧ w'.cell? ⟨bo, 2, none⟩ = some (.int .i64 o.i) ∧ w'.cell? ⟨bo, 4, none⟩ = some (.string o.name) from fun w' h => ⟨h.cell (hb.cell rfl), h.cell (hb.cell rfl), h.cell (hb.cell rfl)⟩)
  have HLT := Lib.hid hlt
  clear hp hb hlt
  obtain ⟨fl, hfl⟩ : ∃ fl, List.replicate 256 (0 : Int) = fl := ⟨_, rfl⟩
  have hqc := run_neq_codes fl (by rw [← hfl]; simp)
  have hcn := fun (w : World) (h : NoT w p) => codes_no h
  have hrc := fun (w : World) => rcodes w
  rw [hfl] at hrc
  simp only [hfl] at hcn
  have HCN := Lib.hid hcn
  have HRC := Lib.hid hrc
  clear hcn hrc hfl
  have hqm := fun w => run_neq_mean w mean0 mean0
  rw [(meanB_eq _ _).2 rfl] at hqm
  simp only [Bool.not_true] at hqm
  go_enter Tryz.func5, Tryz.ntmps5
  go_upto_region 1 with fail
  (try rw [hW1])
  clear hW1 hbo
  refine wp_region_C (fun w' => Ext W1 w') (by kernel_rfl) ?_
  have HX := Lib.hid ((Ext.refl W1).drew)
  generalize W1.drew = W4 at *
  refine wpC_take (i := 0) (v := ?_) rfl (by kernel_rfl) (by kernel_rfl) (by kernel_rfl) (fun _ _ _ h => h) (by kernel_rfl) ?_ ?_
  rotate_left 1
  · intro w hw; go_simp; try with_reducible rfl
  refine wpC_take (i := 1) (v := ?_) rfl (by kernel_rfl) (by kernel_rfl) (by kernel_rfl) (fun _ _ _ h => h) (by kernel_rfl) ?_ ?_
  rotate_left 1
  · intro w hw; go_simp; try with_reducible rfl
  refine wpC_take (i := 2) (v := ?_) rfl (by kernel_rfl) (by kernel_rfl) (by kernel_rfl) (fun _ _ _ h => h) (by kernel_rfl) ?_ ?_
  rotate_left 1
  · intro w hw; have q0 := (HBO.out _ hw).2.2; go_simp; try with_reducible rfl
  refine wpC_take (i := 4) (v := ?_) rfl (by kernel_rfl) (by kernel_rfl) (by kernel_rfl) (fun _ _ _ h => h) (by kernel_rfl) ?_ ?_
  rotate_left 1
  · intro w hw; go_simp; try with_reducible rfl
  refine wpC_take (i := 5) (v := ?_) rfl (by kernel_rfl) (by kernel_rfl) (by kernel_rfl) (fun _ _ _ h => h) (by kernel_rfl) ?_ ?_
  rotate_left 1
  · intro w hw; go_simp; try with_reducible rfl
  refine wpC_take (i := 6) (v := ?_) rfl (by kernel_rfl) (by kernel_rfl) (by kernel_rfl) (fun _ _ _ h => h) (by kernel_rfl) ?_ ?_
  rotate_left 1
  · intro w hw; have q0 := (HBO.out _ hw).2.2; go_simp; try with_reducible rfl
  refine wpC_one (i := 3) rfl (by kernel_rfl) (HX.out) (fun K hK => ?_)
  go_simp
  refine Calls.mono (look_no o.name (HNT.out.ext HX.out)) ?_
  rintro e w4 ⟨rfl, hx4⟩
  have HX := Lib.hid (HX.out.trans hx4)
  clear hx4
  go_simp
  refine hK _ _ ?_
  clear hK K
  refine wpC_one (i := 7) rfl (by kernel_rfl) (HX.out) (fun K hK => ?_)
  go_simp
  refine Calls.mono (rlook o.name _) ?_
  rintro e w4 ⟨rfl, hx4⟩
  have HX := Lib.hid (HX.out.trans hx4)
  clear hx4
  go_simp
  refine hK _ _ ?_
  clear hK K
  refine wpC_one (i := 8) rfl (by kernel_rfl) (HX.out) (fun K hK => ?_)
  go_simp
  refine Calls.mono (meaning_any mean0 _) ?_
  rintro e w4 ⟨rfl, hx4⟩
  have HX := Lib.hid (HX.out.trans hx4)
  clear hx4
  go_simp
  refine hK _ _ ?_
  clear hK K
  refine wpC_take (i := 9) (v := ?_) rfl (by kernel_rfl) (by kernel_rfl) (by kernel_rfl) (fun _ _ _ h => h) (by kernel_rfl) ?_ ?_
  rotate_left 1
  · intro w hw; go_simp; try with_reducible rfl
  refine wpC_take (i := 10) (v := ?_) rfl (by kernel_rfl) (by kernel_rfl) (by kernel_rfl) (fun _ _ _ h => h) (by kernel_rfl) ?_ ?_
  rotate_left 1
  · intro w hw; go_simp; try with_reducible rfl
  refine wpC_take (i := 11) (v := ?_) rfl (by kernel_rfl) (by kernel_rfl) (by kernel_rfl) (fun _ _ _ h => h) (by kernel_rfl) ?_ ?_
  rotate_left 1
  · intro w hw; go_simp; try with_reducible rfl
  refine wpC_take (i := 13) (v := ?_) rfl (by kernel_rfl) (by kernel_rfl) (by kernel_rfl) (fun _ _ _ h => h) (by kernel_rfl) ?_ ?_
  rotate_left 1
  · intro w hw; go_simp; try with_reducible rfl
  refine wpC_one (i := 12) rfl (by kernel_rfl) (HX.out) (fun K hK => ?_)
  go_simp
  refine Calls.mono (depth_no (HNT.out.ext HX.out)) ?_
  rintro e w4 ⟨rfl, hx4⟩
  have HX := Lib.hid (HX.out.trans hx4)
  clear hx4
  go_simp
  refine hK _ _ ?_
  clear hK K
  refine wpC_one (i := 14) rfl (by kernel_rfl) (HX.out) (fun K hK => ?_)
  go_simp
  refine Calls.mono (rdepth _) ?_
  rintro e w4 ⟨rfl, hx4⟩
  have HX := Lib.hid (HX.out.trans hx4)
  clear hx4
  go_simp
  refine hK _ _ ?_
  clear hK K
  refine wpC_take (i := 15) (v := ?_) rfl (by kernel_rfl) (by kernel_rfl) (by kernel_rfl) (fun _ _ _ h => h) (by kernel_rfl) ?_ ?_
  rotate_left 1
  · intro w hw; go_simp; try with_reducible rfl
  refine wpC_take (i := 16) (v := ?_) rfl (by kernel_rfl) (by kernel_rfl) (by kernel_rfl) (fun _ _ _ h => h) (by kernel_rfl) ?_ ?_
  rotate_left 1
  · intro w hw; go_simp; try with_reducible rfl
  refine wpC_take (i := 17) (v := ?_) rfl (by kernel_rfl) (by kernel_rfl) (by kernel_rfl) (fun _ _ _ h => h) (by kernel_rfl) ?_ ?_
  rotate_left 1
  · intro w hw; go_simp; try with_reducible rfl
  refine wpC_take (i := 18) (v := ?_) rfl (by kernel_rfl) (by kernel_rfl) (by kernel_rfl) (fun _ _ _ h => h) (by kernel_rfl) ?_ ?_
  rotate_left 1
  · intro w hw; go_simp; try with_reducible rfl
  refine wpC_take (i := 20) (v := ?_) rfl (by kernel_rfl) (by kernel_rfl) (by kernel_rfl) (fun _ _ _ h => h) (by kernel_rfl) ?_ ?_
  rotate_left 1
  · intro w hw; go_simp; try with_reducible rfl
  refine wpC_one (i := 19) rfl (by kernel_rfl) (HX.out) (fun K hK => ?_)
  go_simp
  refine Calls.mono (HCN.out _ (HNT.out.ext HX.out)) ?_
  rintro e w4 ⟨rfl, hx4⟩
  have HX := Lib.hid (HX.out.trans hx4)
  clear hx4
  go_simp
  refine hK _ _ ?_
  clear hK K
  refine wpC_one (i := 21) rfl (by kernel_rfl) (HX.out) (fun K hK => ?_)
  go_simp
  refine Calls.mono (HRC.out _) ?_
  rintro e w4 ⟨rfl, hx4⟩
  have HX := Lib.hid (HX.out.trans hx4)
  clear hx4
  go_simp
  refine hK _ _ ?_
  clear hK K
  refine wpC_take (i := 22) (v := ?_) rfl (by kernel_rfl) (by kernel_rfl) (by kernel_rfl) (fun _ _ _ h => h) (by kernel_rfl) ?_ ?_
  rotate_left 1
  · intro w hw; go_simp; try with_reducible rfl
  refine wpC_take (i := 23) (v := ?_) rfl (by kernel_rfl) (by kernel_rfl) (by kernel_rfl) (fun _ _ _ h => h) (by kernel_rfl) ?_ ?_
  rotate_left 1
  · intro w hw; go_simp; try with_reducible rfl
  refine wpC_take (i := 24) (v := ?_) rfl (by kernel_rfl) (by kernel_rfl) (by kernel_rfl) (fun _ _ _ h => h) (by kernel_rfl) ?_ ?_
  rotate_left 1
  · intro w hw; go_simp; try with_reducible rfl
  refine wpC_take (i := 25) (v := ?_) rfl (by kernel_rfl) (by kernel_rfl) (by kernel_rfl) (fun _ _ _ h => h) (by kernel_rfl) ?_ ?_
  rotate_left 1
  · intro w hw; go_simp; try with_reducible rfl
  refine wpC_take (i := 27) (v := ?_) rfl (by kernel_rfl) (by kernel_rfl) (by kernel_rfl) (fun _ _ _ h => h) (by kernel_rfl) ?_ ?_
  rotate_left 1
  · intro w hw; go_simp; try with_reducible rfl
  refine wpC_one (i := 26) rfl (by kernel_rfl) (HX.out) (fun K hK => ?_)
  go_simp
  refine Calls.mono (names_no (HNT.out.ext HX.out)) ?_
  rintro e w4 ⟨rfl, hx4⟩
  have HX := Lib.hid (HX.out.trans hx4)
  clear hx4
  go_simp
  refine hK _ _ ?_
  clear hK K
  refine wpC_one (i := 28) rfl (by kernel_rfl) (HX.out) (fun K hK => ?_)
  go_simp
  refine Calls.mono (rnames _) ?_
  rintro e w4 ⟨rfl, hx4⟩
  have HX := Lib.hid (HX.out.trans hx4)
  clear hx4
  go_simp
  refine hK _ _ ?_
  clear hK K
  refine wpC_one (i := 29) rfl (by kernel_rfl) (HX.out) (fun K hK => ?_)
  go_simp
  refine Calls.mono (words_nil _) ?_
  rintro e w4 ⟨rfl, hx4⟩
  have HX := Lib.hid (HX.out.trans hx4)
  clear hx4
  go_simp
  refine hK _ _ ?_
  clear hK K
  refine wpC_take (i := 30) (v := ?_) rfl (by kernel_rfl) (by kernel_rfl) (by kernel_rfl) (fun _ _ _ h => h) (by kernel_rfl) ?_ ?_
  rotate_left 1
  · intro w hw; go_simp; try with_reducible rfl
  refine wpC_take (i := 31) (v := ?_) rfl (by kernel_rfl) (by kernel_rfl) (by kernel_rfl) (fun _ _ _ h => h) (by kernel_rfl) ?_ ?_
  rotate_left 1
  · intro w hw; go_simp; try with_reducible rfl
  refine wpC_done (by kernel_rfl) (HX.out) ?_
  clear hqm hqc HCN HRC
  have q1 := (HBO.out _ HX.out).1
  have q2 := (HBO.out _ HX.out).2.1
  have lt := HX.out.lt HLT.out
  go_wp2_with fail
  refine Calls.mono (getNo o.cls o.i (HNT.out.ext HX.out)) ?_
  rintro e w5 ⟨rfl, hx5⟩
  have h6 := (HX.out.trans hx5).toSat.alloc (.cells #[.int .i64 0, .int .i64 0, .int .i64 0, .int .i64 0, .int .i64 0, .int .i64 0, .slice none 0 0] 29)
  obtain ⟨b7, hb7⟩ : ∃ b7, w5.heap.size = b7 := ⟨_, rfl⟩
  rw [hb7] at h6
  have H6 := Lib.hid h6
  clear h6 hx5 q1 q2 lt HX
  go_upto_region 4 with fail
  generalize w5.alloc (.cells #[.int .i64 0, .int .i64 0, .int .i64 0, .int .i64 0, .int .i64 0, .int .i64 0, .slice none 0 0] 29) = W6 at *
  clear hb7
  have q1 := (HBO.out _ H6.out.r.toExt).1
  have q2 := (HBO.out _ H6.out.r.toExt).2.1
  have lt := H6.out.r.toExt.lt HLT.out
  go_wp2_with fail
  refine Calls.mono (rget o.cls o.i _) ?_
  rintro e w7 ⟨rfl, hx7⟩
  have h8 := (H6.out.ext hx7).alloc (.cells #[.int .i64 0, .int .i64 0, .int .i64 0, .int .i64 0, .int .i64 0, .int .i64 0, .slice none 0 0] 38)
  obtain ⟨b9, hb9⟩ : ∃ b9, w7.heap.size = b9 := ⟨_, rfl⟩
  rw [hb9] at h8
  have H8 := Lib.hid h8
  clear h8 hx7 q1 q2 lt H6
  go_upto_region 5 with fail
  generalize w7.alloc (.cells #[.int .i64 0, .int .i64 0, .int .i64 0, .int .i64 0, .int .i64 0, .int .i64 0, .slice none 0 0] 38) = W8 at *
  clear hb9
  have x0 := H8.out.cell (i := 0) rfl
  have x1 := H8.out.cell (i := 1) rfl
  have x2 := H8.out.cell (i := 2) rfl
  have x3 := H8.out.cell (i := 3) rfl
  have x4 := H8.out.cell (i := 4) rfl
  have x5 := H8.out.cell (i := 5) rfl
  have x6 := H8.out.cell (i := 6) rfl
  have y0 := H8.out.r.cell (i := 0) rfl
  have y1 := H8.out.r.cell (i := 1) rfl
  have y2 := H8.out.r.cell (i := 2) rfl
  have y3 := H8.out.r.cell (i := 3) rfl
  have y4 := H8.out.r.cell (i := 4) rfl
  have y5 := H8.out.r.cell (i := 5) rfl
  have y6 := H8.out.r.cell (i := 6) rfl
  have l1 := H8.out.lt
  have l2 := H8.out.r.lt
  go_wp2_with fail
  refine Calls.mono (same_zero _) ?_
  rintro e w9 ⟨rfl, hx9⟩
  have H9 := Lib.hid (H8.out.ext hx9)
  clear hx9 H8 l1 l2 x0 x1 x2 x3 x4 x5 x6 y0 y1 y2 y3 y4 y5 y6
  go_wp2_with (go_at_call 8; with_reducible refine Calls.mono (num_any _ _) ?_; rintro e w' ⟨rfl, rfl⟩)
  refine Calls.mono (laterNo (HNT.out.ext H9.out.r.r.toExt)) ?_
  rintro e w10 ⟨rfl, hx⟩
  have H10 := Lib.hid (H9.out.ext hx)
  clear hx H9
  go_wp2_with fail
  refine Calls.mono (rlater _) ?_
  rintro e w11 ⟨rfl, hx⟩
  have H11 := Lib.hid (H10.out.ext hx)
  clear hx H10
  go_wp2_with fail
  refine Calls.mono (toks_nil _) ?_
  rintro e w12 ⟨rfl, hx⟩
  have H12 := Lib.hid (H11.out.ext hx)
  clear hx H11
  go_wp2_with fail
  go_loopg [11] 0 (fun gg s11 wx => gg = 0 ∧ s11 = .int .i64 0 ∧ w12 = wx)
  case atStart => exact ⟨rfl, rfl, rfl⟩
  case round =>
    obtain ⟨rfl, rfl, rfl⟩ := hrel
    have y6 := H12.out.r.cell (i := 6) rfl
    have l2 := H12.out.r.lt
    go_wp2_with fail
    refine Calls.mono (laterNo (HNT.out.ext H12.out.r.r.toExt)) ?_
    rintro e w13 ⟨rfl, hx⟩
    have H13 := Lib.hid (H12.out.ext hx)
    clear hx H12 y6 l2
    go_wp2_with fail
    go_loopg [13] 0 (fun gg s13 wx => gg = 0 ∧ s13 = .int .i64 0 ∧ w13 = wx)
    case atStart => exact ⟨rfl, rfl, rfl⟩
    case round =>
      obtain ⟨rfl, rfl, rfl⟩ := hrel
      have q1 := (HBO.out _ H13.out.r.r.toExt).1
      have q2 := (HBO.out _ H13.out.r.r.toExt).2.1
      have lt := H13.out.r.r.toExt.lt HLT.out
      go_wp2_with fail
      refine Calls.mono (getNo o.cls o.i (HNT.out.ext H13.out.r.r.toExt)) ?_
      rintro e w14 ⟨rfl, hx⟩
      have h15 := (H13.out.ext hx).alloc (.cells #[.int .i64 0, .int .i64 0, .int .i64 0, .int .i64 0, .int .i64 0, .int .i64 0, .slice none 0 0] 29)
      obtain ⟨b14, hb14⟩ : ∃ b14, w14.heap.size = b14 := ⟨_, rfl⟩
      rw [hb14] at h15
      have H15 := Lib.hid h15
      clear h15 hx q1 q2 lt H13
      go_upto_region 17 with fail
      generalize w14.alloc (.cells #[.int .i64 0, .int .i64 0, .int .i64 0, .int .i64 0, .int .i64 0, .int .i64 0, .slice none 0 0] 29) = W15 at *
      clear hb14
      have x0 := H15.out.cell (i := 0) rfl
      have x1 := H15.out.cell (i := 1) rfl
      have x2 := H15.out.cell (i := 2) rfl
      have x3 := H15.out.cell (i := 3) rfl
      have x4 := H15.out.cell (i := 4) rfl
      have x5 := H15.out.cell (i := 5) rfl
      have x6 := H15.out.cell (i := 6) rfl
      have y0 := H15.out.r.cell (i := 0) rfl
      have y1 := H15.out.r.cell (i := 1) rfl
      have y2 := H15.out.r.cell (i := 2) rfl
      have y3 := H15.out.r.cell (i := 3) rfl
      have y4 := H15.out.r.cell (i := 4) rfl
      have y5 := H15.out.r.cell (i := 5) rfl
      have y6 := H15.out.r.cell (i := 6) rfl
      have l1 := H15.out.lt
      have l2 := H15.out.r.lt
      go_wp2_with fail
      refine Calls.mono (same_zero _) ?_
      rintro e w16 ⟨rfl, hx⟩
      have H16 := Lib.hid (H15.out.ext hx)
      clear hx H15 l1 l2 x0 x1 x2 x3 x4 x5 x6 y0 y1 y2 y3 y4 y5 y6
      go_wp2_with fail
      refine Calls.mono (laterNo (HNT.out.ext H16.out.r.r.r.toExt)) ?_
      rintro e w17 ⟨rfl, hx⟩
      have H17 := Lib.hid (H16.out.ext hx)
      clear hx H16
      go_wp2_with fail
      refine Calls.mono (rlater _) ?_
      rintro e w18 ⟨rfl, hx⟩
      have H18 := Lib.hid (H17.out.ext hx)
      clear hx H17
      go_wp2_with fail
      refine Calls.mono (toks_nil _) ?_
      rintro e w19 ⟨rfl, hx⟩
      have HE := Lib.hid (HW1.out.trans (H18.out.ext hx).r.r.r.toExt)
      clear hx H18
      go_wp2
      go_ret
      exact ⟨rfl, HE.out⟩

end Go.Proofs.YtebggkgciocciaaGreat
