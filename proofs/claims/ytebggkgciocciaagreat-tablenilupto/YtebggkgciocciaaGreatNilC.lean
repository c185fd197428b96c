
/-
  The law's changes, without a table: all is refused, on both sides. Conditions: those that each theorem names.
-/
import Derived.Test.YtebggkgciocciaaGreatNilB
import Derived.Deep.MidRow
namespace Go.Proofs.YtebggkgciocciaaGreat
open Go.RowKit Go.Sp
variable {W w w' : World} {F A : HProp} {p : Value}

theorem flat_set (L : List Tok) (t : Tok) : ∀ i, i < L.length → flat (L.set i t) = (((flat L).set (i * 3) (.int .i64 t.cat)).set (i * 3 + 1) (.int .u8 t.chr.toNat)).set (i * 3 + 2) (.string t.name) := by
  induction L with
  | nil => intro i h; simp at h
  | cons x L ih =>
    intro i h
    cases i with
    | zero => rfl
    | succ i =>
      have e1 : (i + 1) * 3 = i * 3 + 3 := by omega
      rw [List.set_cons_succ, flat_cons, ih i (by simpa using h), flat_cons, e1]
      simp only [Tok.cells, List.cons_append, List.nil_append, List.set_cons_succ, Nat.add_assoc, Nat.reduceAdd]
theorem rowT_at {a : Option Addr} {n c i : Nat} {L : List Tok} (h : Sat W (rowT (.slice a n c) L * F) w) (hi : i < L.length) :
    ∃ g, a = some ⟨g, 0, none⟩ ∧ n = L.length ∧ At w g (i * 3) L[i] ∧ (∀ j, w.frozen? ⟨g, j, none⟩ = false) ∧ g < w.heap.size := by
  have hr := rowT_rd h
  obtain ⟨b, off, rfl, hat, hb⟩ := hr.at hi
  obtain ⟨hn, _⟩ := hr.cap
  obtain ⟨_, hc⟩ := h.row_cases
  rcases hc with ⟨h0, _⟩ | ⟨g, cap, cur, h0, _⟩
  · simp at h0
  · simp only [Value.slice.injEq, Option.some.injEq, Addr.mk.injEq, and_true] at h0
    obtain ⟨⟨rfl, rfl⟩, rfl, rfl⟩ := h0
    exact ⟨b, rfl, rfl, by simpa using hat, fun j => Sat.row_free h, hb⟩
theorem rowT_set {g n c i : Nat} {L : List Tok} (h : Sat W (rowT (.slice (some ⟨g, 0, none⟩) n c) L * F) w) (hi : i < L.length) (t : Tok) :
    Sat W (rowT (.slice (some ⟨g, 0, none⟩) n c) (L.set i t) * F) (((w.setCell ⟨g, i * 3, none⟩ (.int .i64 t.cat)).setCell ⟨g, i * 3 + 1, none⟩ (.int .u8 t.chr.toNat)).setCell ⟨g, i * 3 + 2, none⟩ (.string t.name)) := by
  have hn : n = L.length := (rowT_rd h).cap.1
  unfold rowT at h ⊢
  rw [List.length_set, flat_set L t i hi]
  rw [← hn] at h ⊢
  exact ((h.row_set).row_set).row_set

/-- cells that hold a list, from a place on -/
theorem range_of {w : World} {b : Nat} {cs : Array Value} {ty : TypeId} {f : Nat × Nat} (hb : w.heap[b]? = some (.cells cs ty f)) (o : Nat) (l : List Value) (h : ∀ (j : Nat) v, l[j]? = some v → cs[o + j]? = some v) : w.rangeAt b o l :=
  fun j v hj => by simp [World.cell?, hb, h j v hj]

/-- a call's block, and its value's -/
structure ChF (w : World) (bo bv : Nat) (o : OpS) (s u : Value) : Prop where
  ob : w.heap[bo]? = some (.cells (o.cells s) 42 (0, 0))
  vb : w.heap[bv]? = some (.cells #[.int .i64 o.v.n, .int .i64 o.v.g.nat, .int .i64 o.v.g.stretch, .int .i64 o.v.g.shrink, .int .i64 o.v.g.so, .int .i64 o.v.g.ko, u] 29 (0, 0))
theorem ChF.ext {bo bv : Nat} {o : OpS} {s u : Value} (h : ChF w bo bv o s u) (k : Ext w w') : ChF w' bo bv o s u := ⟨k.2 _ _ h.ob, k.2 _ _ h.vb⟩
theorem ChF.cell {bo bv : Nat} {o : OpS} {s u : Value} (h : ChF w bo bv o s u) {i : Nat} {x : Value} (hx : (o.cells s)[i]? = some x) : w.cell? ⟨bo, i, none⟩ = some x := by
  simp [World.cell?, h.ob, hx]
theorem ChF.mean {bo bv : Nat} {o : OpS} {s u : Value} (h : ChF w bo bv o s u) : (Instr.loadAt 37 (.pointer (some ⟨bo, 5, none⟩))).run Tryz.prog w = .ok (.agg #[.int .i64 o.m.kind, .int .i64 o.m.cls, .int .i64 o.m.code, .int .i64 o.m.cat, .string o.m.text]) w :=
  run_loadAt_mid (P := Tryz.prog) w bo 5 37 [.int .i64 o.m.kind, .int .i64 o.m.cls, .int .i64 o.m.code, .int .i64 o.m.cat, .string o.m.text] _ (range_of h.ob 5 _ fun j v hj => by
    rcases j with _ | _ | _ | _ | _ | j <;> simp at hj <;> subst hj <;> rfl) Tryz.underlying37 rfl (by kernel_rfl)
theorem ChF.val {bo bv : Nat} {o : OpS} {s u : Value} (h : ChF w bo bv o s u) : (Instr.loadAt 38 (.pointer (some ⟨bo, 10, none⟩))).run Tryz.prog w = .ok (valA o.v s) w :=
  run_loadAt_mid (P := Tryz.prog) w bo 10 38 [.int .i64 o.v.n, .int .i64 o.v.g.nat, .int .i64 o.v.g.stretch, .int .i64 o.v.g.shrink, .int .i64 o.v.g.so, .int .i64 o.v.g.ko, s] _ (range_of h.ob 10 _ fun j v hj => by
    rcases j with _ | _ | _ | _ | _ | _ | _ | j <;> simp at hj <;> subst hj <;> rfl) Tryz.underlying38 rfl (by kernel_rfl)
theorem ChF.own {bo bv : Nat} {o : OpS} {s u : Value} (h : ChF w bo bv o s u) : (Instr.loadAt 29 (.pointer (some ⟨bv, 0, none⟩))).run Tryz.prog w = .ok (valA o.v u) w :=
  run_loadAt_mid (P := Tryz.prog) w bv 0 29 [.int .i64 o.v.n, .int .i64 o.v.g.nat, .int .i64 o.v.g.stretch, .int .i64 o.v.g.shrink, .int .i64 o.v.g.so, .int .i64 o.v.g.ko, u] _ (range_of h.vb 0 _ fun j v hj => by
    rcases j with _ | _ | _ | _ | _ | _ | _ | j <;> simp at hj <;> subst hj <;> rfl) Tryz.underlying29 rfl (by kernel_rfl)
theorem ChF.tok {bo bv : Nat} {o : OpS} {s u : Value} (h : ChF w bo bv o s u) : (Instr.loadAt 40 (.pointer (some ⟨bo, 17, none⟩))).run Tryz.prog w = .ok (Tok.val o.x) w :=
  run_loadAt_mid (P := Tryz.prog) w bo 17 40 [.int .i64 o.x.cat, .int .u8 o.x.chr.toNat, .string o.x.name] _ (range_of h.ob 17 _ fun j v hj => by
    rcases j with _ | _ | _ | j <;> simp at hj <;> subst hj <;> rfl) Tryz.underlying40 rfl (by kernel_rfl)

/-- a load whose run is known -/
theorem exec_load_m {P : Program} {o : Oper} {a : Act} {w : World} (ty : TypeId) (x : Operand) (ho : o.op = .load ty x) (b off : Nat) (hx : a.eval x = .pointer (some ⟨b, off, none⟩)) (v : Value)
    (hld : (Instr.loadAt ty (.pointer (some ⟨b, off, none⟩))).run P w = .ok v w) : (execOp a.eval o).run P w = .ok (.value v) w := by
  unfold execOp
  simp only [ho, hx, Sem.run_bind, Result.andThen_ok, Sem.run_pure, hld]

set_option maxRecDepth 100000 in
set_option maxHeartbeats 8000000 in
theorem changes_no (o : OpS) (s : Value) (hs : RdT w s o.v.toks) (hl : o.v.toks.length ≤ 1000000000) (hp : NoT w p) :
    Calls Tryz.prog 4 #[p, .pointer none, o.val s] w fun e w' => e = .returned (.bool true) ∧ Ext w w' := by
  have hb := (Sat.start w).alloc (.cells (o.cells s) 42)
  obtain ⟨bo, hbo⟩ : ∃ bo, w.heap.size = bo := ⟨_, rfl⟩
  rw [hbo] at hb
  have HGV := Lib.hid (given_any o.v s _ (hs.ext hb.r.toExt) hl)
  have HS := Lib.hid hs
  have HP := Lib.hid hp
  have HLN := Lib.hid hl
  have HB := Lib.hid hb
  have HW1 := Lib.hid hb.r.toExt
  obtain ⟨W1, hW1⟩ : ∃ W1, w.alloc (.cells (o.cells s) 42) = W1 := ⟨_, rfl⟩
  rw [hW1] at HGV HB HW1
  clear hs hl hp hb
  go_enter Tryz.func4, Tryz.ntmps4
  go_upto_region 1 with fail
  (try rw [hW1])
  clear hW1
  have e10 : W1.cell? ⟨bo, 10, none⟩ = some (.int .i64 o.v.n) := HB.out.cell rfl
  have e11 : W1.cell? ⟨bo, 11, none⟩ = some (.int .i64 o.v.g.nat) := HB.out.cell rfl
  have e12 : W1.cell? ⟨bo, 12, none⟩ = some (.int .i64 o.v.g.stretch) := HB.out.cell rfl
  have e13 : W1.cell? ⟨bo, 13, none⟩ = some (.int .i64 o.v.g.shrink) := HB.out.cell rfl
  have e14 : W1.cell? ⟨bo, 14, none⟩ = some (.int .i64 o.v.g.so) := HB.out.cell rfl
  have e15 : W1.cell? ⟨bo, 15, none⟩ = some (.int .i64 o.v.g.ko) := HB.out.cell rfl
  have e16 : W1.cell? ⟨bo, 16, none⟩ = some (s) := HB.out.cell rfl
  go_wp2_with fail
  refine Calls.mono HGV.out ?_
  rintro e w2 ⟨u, rfl, hx⟩
  obtain ⟨ua, uc, rfl⟩ := hx.rowT_value
  have h3 := hx.alloc (.cells #[.int .i64 o.v.n, .int .i64 o.v.g.nat, .int .i64 o.v.g.stretch, .int .i64 o.v.g.shrink, .int .i64 o.v.g.so, .int .i64 o.v.g.ko, .slice ua o.v.toks.length uc] 29)
  obtain ⟨bv, hbv⟩ : ∃ bv, w2.heap.size = bv := ⟨_, rfl⟩
  rw [hbv] at h3
  have H3 := Lib.hid h3
  have HNT := Lib.hid ((HP.out.ext HB.out.r.toExt).ext h3.r.r.toExt)
  have HRS := Lib.hid ((HS.out.ext HB.out.r.toExt).ext h3.r.r.toExt)
  have HRU := Lib.hid (rowT_rd h3.r)
  have HCF := Lib.hid (show ChF _ bo bv o s (.slice ua o.v.toks.length uc) from ⟨h3.r.r.toExt.2 _ _ HB.out.blk, h3.blk⟩)
  have HW0 := Lib.hid (HB.out.r.toExt.trans h3.r.r.toExt)
  clear hx h3 e10 e11 e12 e13 e14 e15 e16 HGV HS HP
  simp only [valA]
  go_upto_region 2 with fail
  generalize w2.alloc (.cells #[.int .i64 o.v.n, .int .i64 o.v.g.nat, .int .i64 o.v.g.stretch, .int .i64 o.v.g.shrink, .int .i64 o.v.g.so, .int .i64 o.v.g.ko, .slice ua o.v.toks.length uc] 29) = W3 at *
  clear hbv HB
  obtain ⟨n, hn⟩ : ∃ n, o.v.toks.length = n := ⟨_, rfl⟩
  rw [hn] at H3 HRU HCF
  have HN := Lib.hid hn
  have hn9 : n ≤ 1000000000 := by rw [← hn]; exact HLN.out
  clear hn
  have c0 : W3.cell? ⟨bo, 0, none⟩ = some (.int .i64 o.kind) := HCF.out.cell (i := 0) rfl
  have lb := (Array.getElem?_eq_some_iff.1 HCF.out.ob).1
  go_upto_block 0 with fail
  go_cut [8] from 8 to 180 (fun s8 wx => s8 = .bool true ∧ Ext W3 wx)
  case first =>
    by_cases h1 : o.kind = 1
    · rw [h1] at c0
      go_upto_region 5 with fail
      refine wp_region_C (fun w' => Ext W3 w') (by kernel_rfl) ?_
      have HX := Lib.hid ((Ext.refl W3).drew)
      generalize W3.drew = W4 at *
      clear c0
      refine wpC_take (i := 0) (v := ?_) rfl (by kernel_rfl) (by kernel_rfl) (by kernel_rfl) (fun _ _ _ h => h) (by kernel_rfl) ?_ ?_
      rotate_left 1
      · intro w hw; go_simp; try with_reducible rfl
      refine wpC_take (i := 1) (v := ?_) rfl (by kernel_rfl) (by kernel_rfl) (by kernel_rfl) (fun _ _ _ h => h) (by kernel_rfl) ?_ ?_
      rotate_left 1
      · intro w hw; go_simp; try with_reducible rfl
      refine wpC_take (i := 2) (v := ?_) rfl (by kernel_rfl) (by kernel_rfl) (by kernel_rfl) (fun _ _ _ h => h) (by kernel_rfl) ?_ ?_
      rotate_left 1
      · intro w hw; have q0 : w.cell? ⟨bo, 3, none⟩ = some (.int .i64 o.n) := (HCF.out.ext hw).cell (i := 3) rfl; go_simp; try with_reducible rfl
      refine wpC_take (i := 5) (v := ?_) rfl (by kernel_rfl) (by kernel_rfl) (by kernel_rfl) (fun _ _ _ h => h) (by kernel_rfl) ?_ ?_
      rotate_left 1
      · intro w hw; go_simp; try with_reducible rfl
      refine wpC_take (i := 6) (v := ?_) rfl (by kernel_rfl) (by kernel_rfl) (by kernel_rfl) (fun _ _ _ h => h) (by kernel_rfl) ?_ ?_
      rotate_left 1
      · intro w hw; go_simp; try with_reducible rfl
      refine wpC_take (i := 7) (v := ?_) rfl (by kernel_rfl) (by kernel_rfl) (by kernel_rfl) (fun _ _ _ h => h) (by kernel_rfl) ?_ ?_
      rotate_left 1
      · intro w hw; have q0 : w.cell? ⟨bo, 3, none⟩ = some (.int .i64 o.n) := (HCF.out.ext hw).cell (i := 3) rfl; go_simp; try with_reducible rfl
      refine wpC_one (i := 3) rfl (by kernel_rfl) (HX.out) (fun K hK => ?_)
      go_simp
      refine Calls.mono (begin_no o.n (HNT.out.ext HX.out)) ?_
      rintro e w4 ⟨rfl, hx4⟩
      have HX := Lib.hid (HX.out.trans hx4)
      clear hx4
      go_simp
      refine hK _ _ ?_
      clear hK K
      refine wpC_one (i := 4) rfl (by kernel_rfl) (HX.out) (fun K hK => ?_)
      go_simp
      refine Calls.mono (num_any _ _) ?_
      rintro e w4 ⟨rfl, rfl⟩
      go_simp
      refine hK _ _ ?_
      clear hK K
      refine wpC_one (i := 8) rfl (by kernel_rfl) (HX.out) (fun K hK => ?_)
      go_simp
      refine Calls.mono (rbegin o.n _) ?_
      rintro e w4 ⟨rfl, hx4⟩
      have HX := Lib.hid (HX.out.trans hx4)
      clear hx4
      go_simp
      refine hK _ _ ?_
      clear hK K
      refine wpC_take (i := 9) (v := ?_) rfl (by kernel_rfl) (by kernel_rfl) (by kernel_rfl) (fun _ _ _ h => h) (by kernel_rfl) ?_ ?_
      rotate_left 1
      · intro w hw; go_simp; try with_reducible rfl
      refine wpC_one (i := 10) rfl (by kernel_rfl) (HX.out) (fun K hK => ?_)
      go_simp
      refine hK _ _ ?_
      clear hK K
      refine wpC_done (by kernel_rfl) (HX.out) ?_
      go_wp2
      go_meet
      exact ⟨rfl, HX.out⟩
    · have k1 : (o.kind == 1) = false := by rw [beq_eq_false_iff_ne]; exact h1
      by_cases h2 : o.kind = 2
      · rw [h2] at c0
        go_wp2_with fail
        refine Calls.mono (end_no HNT.out) ?_
        rintro e w4 ⟨rfl, hx4⟩
        have HX := Lib.hid hx4
        clear hx4
        go_wp2_with fail
        refine Calls.mono (rend _) ?_
        rintro e w5 ⟨rfl, hx5⟩
        have HX := Lib.hid (HX.out.trans hx5)
        clear hx5
        go_wp2_with (go_at_call 8; with_reducible refine Calls.mono (num_any _ _) ?_; rintro e w' ⟨rfl, rfl⟩)
        go_meet
        exact ⟨rfl, HX.out⟩
      · have k2 : (o.kind == 2) = false := by rw [beq_eq_false_iff_ne]; exact h2
        by_cases h3 : o.kind = 3
        · rw [h3] at c0
          go_upto_region 11 with fail
          refine wp_region_C (fun w' => Ext W3 w') (by kernel_rfl) ?_
          have HX := Lib.hid ((Ext.refl W3).drew)
          generalize W3.drew = W4 at *
          clear c0
          refine wpC_take (i := 0) (v := ?_) rfl (by kernel_rfl) (by kernel_rfl) (by kernel_rfl) (fun _ _ _ h => h) (by kernel_rfl) ?_ ?_
          rotate_left 1
          · intro w hw; go_simp; try with_reducible rfl
          refine wpC_take (i := 1) (v := ?_) rfl (by kernel_rfl) (by kernel_rfl) (by kernel_rfl) (fun _ _ _ h => h) (by kernel_rfl) ?_ ?_
          rotate_left 1
          · intro w hw; go_simp; try with_reducible rfl
          refine wpC_take (i := 2) (v := ?_) rfl (by kernel_rfl) (by kernel_rfl) (by kernel_rfl) (fun _ _ _ h => h) (by kernel_rfl) ?_ ?_
          rotate_left 1
          · intro w hw; have q0 : w.cell? ⟨bo, 4, none⟩ = some (.string o.name) := (HCF.out.ext hw).cell (i := 4) rfl; go_simp; try with_reducible rfl
          refine wpC_take (i := 3) (v := ?_) rfl (by kernel_rfl) (by kernel_rfl) (by kernel_rfl) (fun _ _ _ h => h) (by kernel_rfl) ?_ ?_
          rotate_left 1
          · intro w hw; go_simp; try with_reducible rfl
          refine wpC_take (i := 4) (v := (.agg #[.int .i64 o.m.kind, .int .i64 o.m.cls, .int .i64 o.m.code, .int .i64 o.m.cat, .string o.m.text])) rfl (by kernel_rfl) (by kernel_rfl) (by kernel_rfl) (fun _ _ _ h => h) (by kernel_rfl) (fun w hw => ?_) ?_
          · refine exec_load_m 37 (.tmp 58) rfl bo 5 ?_ (.agg #[.int .i64 o.m.kind, .int .i64 o.m.cls, .int .i64 o.m.code, .int .i64 o.m.cat, .string o.m.text]) (HCF.out.ext hw).mean
            kernel_rfl
          refine wpC_take (i := 6) (v := ?_) rfl (by kernel_rfl) (by kernel_rfl) (by kernel_rfl) (fun _ _ _ h => h) (by kernel_rfl) ?_ ?_
          rotate_left 1
          · intro w hw; go_simp; try with_reducible rfl
          refine wpC_take (i := 7) (v := ?_) rfl (by kernel_rfl) (by kernel_rfl) (by kernel_rfl) (fun _ _ _ h => h) (by kernel_rfl) ?_ ?_
          rotate_left 1
          · intro w hw; have q0 : w.cell? ⟨bo, 20, none⟩ = some (.bool o.glob) := (HCF.out.ext hw).cell (i := 20) rfl; go_simp; try with_reducible rfl
          refine wpC_take (i := 10) (v := ?_) rfl (by kernel_rfl) (by kernel_rfl) (by kernel_rfl) (fun _ _ _ h => h) (by kernel_rfl) ?_ ?_
          rotate_left 1
          · intro w hw; go_simp; try with_reducible rfl
          refine wpC_take (i := 11) (v := ?_) rfl (by kernel_rfl) (by kernel_rfl) (by kernel_rfl) (fun _ _ _ h => h) (by kernel_rfl) ?_ ?_
          rotate_left 1
          · intro w hw; go_simp; try with_reducible rfl
          refine wpC_take (i := 12) (v := ?_) rfl (by kernel_rfl) (by kernel_rfl) (by kernel_rfl) (fun _ _ _ h => h) (by kernel_rfl) ?_ ?_
          rotate_left 1
          · intro w hw; have q0 : w.cell? ⟨bo, 4, none⟩ = some (.string o.name) := (HCF.out.ext hw).cell (i := 4) rfl; go_simp; try with_reducible rfl
          refine wpC_take (i := 13) (v := ?_) rfl (by kernel_rfl) (by kernel_rfl) (by kernel_rfl) (fun _ _ _ h => h) (by kernel_rfl) ?_ ?_
          rotate_left 1
          · intro w hw; go_simp; try with_reducible rfl
          refine wpC_take (i := 14) (v := (.agg #[.int .i64 o.m.kind, .int .i64 o.m.cls, .int .i64 o.m.code, .int .i64 o.m.cat, .string o.m.text])) rfl (by kernel_rfl) (by kernel_rfl) (by kernel_rfl) (fun _ _ _ h => h) (by kernel_rfl) (fun w hw => ?_) ?_
          · refine exec_load_m 37 (.tmp 68) rfl bo 5 ?_ (.agg #[.int .i64 o.m.kind, .int .i64 o.m.cls, .int .i64 o.m.code, .int .i64 o.m.cat, .string o.m.text]) (HCF.out.ext hw).mean
            kernel_rfl
          refine wpC_take (i := 15) (v := ?_) rfl (by kernel_rfl) (by kernel_rfl) (by kernel_rfl) (fun _ _ _ h => h) (by kernel_rfl) ?_ ?_
          rotate_left 1
          · intro w hw; go_simp; try with_reducible rfl
          refine wpC_take (i := 16) (v := ?_) rfl (by kernel_rfl) (by kernel_rfl) (by kernel_rfl) (fun _ _ _ h => h) (by kernel_rfl) ?_ ?_
          rotate_left 1
          · intro w hw; have q0 : w.cell? ⟨bo, 20, none⟩ = some (.bool o.glob) := (HCF.out.ext hw).cell (i := 20) rfl; go_simp; try with_reducible rfl
          refine wpC_one (i := 5) rfl (by kernel_rfl) (HX.out) (fun K hK => ?_)
          go_simp
          refine Calls.mono (meaning_any o.m _) ?_
          rintro e w4 ⟨rfl, hx4⟩
          have HX := Lib.hid (HX.out.trans hx4)
          clear hx4
          go_simp
          refine hK _ _ ?_
          clear hK K
          refine wpC_one (i := 8) rfl (by kernel_rfl) (HX.out) (fun K hK => ?_)
          go_simp
          refine Calls.mono (define_no o.name o.m o.glob (HNT.out.ext HX.out)) ?_
          rintro e w4 ⟨rfl, hx4⟩
          have HX := Lib.hid (HX.out.trans hx4)
          clear hx4
          go_simp
          refine hK _ _ ?_
          clear hK K
          refine wpC_one (i := 9) rfl (by kernel_rfl) (HX.out) (fun K hK => ?_)
          go_simp
          refine Calls.mono (num_any _ _) ?_
          rintro e w4 ⟨rfl, rfl⟩
          go_simp
          refine hK _ _ ?_
          clear hK K
          refine wpC_one (i := 17) rfl (by kernel_rfl) (HX.out) (fun K hK => ?_)
          go_simp
          refine Calls.mono (rdefine o.name o.m o.glob _) ?_
          rintro e w4 ⟨rfl, hx4⟩
          have HX := Lib.hid (HX.out.trans hx4)
          clear hx4
          go_simp
          refine hK _ _ ?_
          clear hK K
          refine wpC_take (i := 18) (v := ?_) rfl (by kernel_rfl) (by kernel_rfl) (by kernel_rfl) (fun _ _ _ h => h) (by kernel_rfl) ?_ ?_
          rotate_left 1
          · intro w hw; go_simp; try with_reducible rfl
          refine wpC_one (i := 19) rfl (by kernel_rfl) (HX.out) (fun K hK => ?_)
          go_simp
          refine hK _ _ ?_
          clear hK K
          refine wpC_done (by kernel_rfl) (HX.out) ?_
          go_wp2
          go_meet
          exact ⟨rfl, HX.out⟩
        · have k3 : (o.kind == 3) = false := by rw [beq_eq_false_iff_ne]; exact h3
          by_cases h4 : o.kind = 4
          · rw [h4] at c0
            go_upto_region 13 with fail
            refine wp_region_C (fun w' => Ext W3 w') (by kernel_rfl) ?_
            have HX := Lib.hid ((Ext.refl W3).drew)
            generalize W3.drew = W4 at *
            clear c0
            refine wpC_take (i := 0) (v := ?_) rfl (by kernel_rfl) (by kernel_rfl) (by kernel_rfl) (fun _ _ _ h => h) (by kernel_rfl) ?_ ?_
            rotate_left 1
            · intro w hw; go_simp; try with_reducible rfl
            refine wpC_take (i := 1) (v := ?_) rfl (by kernel_rfl) (by kernel_rfl) (by kernel_rfl) (fun _ _ _ h => h) (by kernel_rfl) ?_ ?_
            rotate_left 1
            · intro w hw; go_simp; try with_reducible rfl
            refine wpC_take (i := 2) (v := ?_) rfl (by kernel_rfl) (by kernel_rfl) (by kernel_rfl) (fun _ _ _ h => h) (by kernel_rfl) ?_ ?_
            rotate_left 1
            · intro w hw; have q0 : w.cell? ⟨bo, 1, none⟩ = some (.int .i64 o.cls) := (HCF.out.ext hw).cell (i := 1) rfl; go_simp; try with_reducible rfl
            refine wpC_take (i := 3) (v := ?_) rfl (by kernel_rfl) (by kernel_rfl) (by kernel_rfl) (fun _ _ _ h => h) (by kernel_rfl) ?_ ?_
            rotate_left 1
            · intro w hw; go_simp; try with_reducible rfl
            refine wpC_take (i := 4) (v := ?_) rfl (by kernel_rfl) (by kernel_rfl) (by kernel_rfl) (fun _ _ _ h => h) (by kernel_rfl) ?_ ?_
            rotate_left 1
            · intro w hw; have q0 : w.cell? ⟨bo, 2, none⟩ = some (.int .i64 o.i) := (HCF.out.ext hw).cell (i := 2) rfl; go_simp; try with_reducible rfl
            refine wpC_take (i := 5) (v := (valA o.v (.slice ua n uc))) rfl (by kernel_rfl) (by kernel_rfl) (by kernel_rfl) (fun _ _ _ h => h) (by kernel_rfl) (fun w hw => ?_) ?_
            · refine exec_load_m 29 (.tmp 7) rfl bv 0 ?_ (valA o.v (.slice ua n uc)) (HCF.out.ext hw).own
              kernel_rfl
            refine wpC_take (i := 6) (v := ?_) rfl (by kernel_rfl) (by kernel_rfl) (by kernel_rfl) (fun _ _ _ h => h) (by kernel_rfl) ?_ ?_
            rotate_left 1
            · intro w hw; go_simp; try with_reducible rfl
            refine wpC_take (i := 7) (v := ?_) rfl (by kernel_rfl) (by kernel_rfl) (by kernel_rfl) (fun _ _ _ h => h) (by kernel_rfl) ?_ ?_
            rotate_left 1
            · intro w hw; have q0 : w.cell? ⟨bo, 20, none⟩ = some (.bool o.glob) := (HCF.out.ext hw).cell (i := 20) rfl; go_simp; try with_reducible rfl
            refine wpC_take (i := 10) (v := ?_) rfl (by kernel_rfl) (by kernel_rfl) (by kernel_rfl) (fun _ _ _ h => h) (by kernel_rfl) ?_ ?_
            rotate_left 1
            · intro w hw; go_simp; try with_reducible rfl
            refine wpC_take (i := 11) (v := ?_) rfl (by kernel_rfl) (by kernel_rfl) (by kernel_rfl) (fun _ _ _ h => h) (by kernel_rfl) ?_ ?_
            rotate_left 1
            · intro w hw; go_simp; try with_reducible rfl
            refine wpC_take (i := 12) (v := ?_) rfl (by kernel_rfl) (by kernel_rfl) (by kernel_rfl) (fun _ _ _ h => h) (by kernel_rfl) ?_ ?_
            rotate_left 1
            · intro w hw; have q0 : w.cell? ⟨bo, 1, none⟩ = some (.int .i64 o.cls) := (HCF.out.ext hw).cell (i := 1) rfl; go_simp; try with_reducible rfl
            refine wpC_take (i := 13) (v := ?_) rfl (by kernel_rfl) (by kernel_rfl) (by kernel_rfl) (fun _ _ _ h => h) (by kernel_rfl) ?_ ?_
            rotate_left 1
            · intro w hw; go_simp; try with_reducible rfl
            refine wpC_take (i := 14) (v := ?_) rfl (by kernel_rfl) (by kernel_rfl) (by kernel_rfl) (fun _ _ _ h => h) (by kernel_rfl) ?_ ?_
            rotate_left 1
            · intro w hw; have q0 : w.cell? ⟨bo, 2, none⟩ = some (.int .i64 o.i) := (HCF.out.ext hw).cell (i := 2) rfl; go_simp; try with_reducible rfl
            refine wpC_take (i := 15) (v := ?_) rfl (by kernel_rfl) (by kernel_rfl) (by kernel_rfl) (fun _ _ _ h => h) (by kernel_rfl) ?_ ?_
            rotate_left 1
            · intro w hw; go_simp; try with_reducible rfl
            refine wpC_take (i := 16) (v := (valA o.v s)) rfl (by kernel_rfl) (by kernel_rfl) (by kernel_rfl) (fun _ _ _ h => h) (by kernel_rfl) (fun w hw => ?_) ?_
            · refine exec_load_m 38 (.tmp 91) rfl bo 10 ?_ (valA o.v s) (HCF.out.ext hw).val
              kernel_rfl
            refine wpC_take (i := 17) (v := ?_) rfl (by kernel_rfl) (by kernel_rfl) (by kernel_rfl) (fun _ _ _ h => h) (by kernel_rfl) ?_ ?_
            rotate_left 1
            · intro w hw; go_simp; try with_reducible rfl
            refine wpC_take (i := 18) (v := ?_) rfl (by kernel_rfl) (by kernel_rfl) (by kernel_rfl) (fun _ _ _ h => h) (by kernel_rfl) ?_ ?_
            rotate_left 1
            · intro w hw; have q0 : w.cell? ⟨bo, 20, none⟩ = some (.bool o.glob) := (HCF.out.ext hw).cell (i := 20) rfl; go_simp; try with_reducible rfl
            refine wpC_one (i := 8) rfl (by kernel_rfl) (HX.out) (fun K hK => ?_)
            go_simp
            refine Calls.mono (set_no o.cls o.i o.v _ o.glob (HRU.out.ext HX.out) (HNT.out.ext HX.out)) ?_
            rintro e w4 ⟨rfl, hx4⟩
            have HX := Lib.hid (HX.out.trans hx4)
            clear hx4
            go_simp
            refine hK _ _ ?_
            clear hK K
            refine wpC_one (i := 9) rfl (by kernel_rfl) (HX.out) (fun K hK => ?_)
            go_simp
            refine Calls.mono (num_any _ _) ?_
            rintro e w4 ⟨rfl, rfl⟩
            go_simp
            refine hK _ _ ?_
            clear hK K
            refine wpC_one (i := 19) rfl (by kernel_rfl) (HX.out) (fun K hK => ?_)
            go_simp
            refine Calls.mono (rset o.cls o.i o.v s o.glob (HRS.out.ext HX.out)) ?_
            rintro e w4 ⟨rfl, hx4⟩
            have HX := Lib.hid (HX.out.trans hx4)
            clear hx4
            go_simp
            refine hK _ _ ?_
            clear hK K
            refine wpC_take (i := 20) (v := ?_) rfl (by kernel_rfl) (by kernel_rfl) (by kernel_rfl) (fun _ _ _ h => h) (by kernel_rfl) ?_ ?_
            rotate_left 1
            · intro w hw; go_simp; try with_reducible rfl
            refine wpC_one (i := 21) rfl (by kernel_rfl) (HX.out) (fun K hK => ?_)
            go_simp
            refine hK _ _ ?_
            clear hK K
            refine wpC_done (by kernel_rfl) (HX.out) ?_
            go_wp2
            go_meet
            exact ⟨rfl, HX.out⟩
          · have k4 : (o.kind == 4) = false := by rw [beq_eq_false_iff_ne]; exact h4
            by_cases h5 : o.kind = 5
            · rw [h5] at c0
              go_upto_region 15 with fail
              refine wp_region_C (fun w' => Ext W3 w') (by kernel_rfl) ?_
              have HX := Lib.hid ((Ext.refl W3).drew)
              generalize W3.drew = W4 at *
              clear c0
              refine wpC_take (i := 0) (v := ?_) rfl (by kernel_rfl) (by kernel_rfl) (by kernel_rfl) (fun _ _ _ h => h) (by kernel_rfl) ?_ ?_
              rotate_left 1
              · intro w hw; go_simp; try with_reducible rfl
              refine wpC_take (i := 1) (v := ?_) rfl (by kernel_rfl) (by kernel_rfl) (by kernel_rfl) (fun _ _ _ h => h) (by kernel_rfl) ?_ ?_
              rotate_left 1
              · intro w hw; go_simp; try with_reducible rfl
              refine wpC_take (i := 2) (v := ?_) rfl (by kernel_rfl) (by kernel_rfl) (by kernel_rfl) (fun _ _ _ h => h) (by kernel_rfl) ?_ ?_
              rotate_left 1
              · intro w hw; have q0 : w.cell? ⟨bo, 1, none⟩ = some (.int .i64 o.cls) := (HCF.out.ext hw).cell (i := 1) rfl; go_simp; try with_reducible rfl
              refine wpC_take (i := 3) (v := ?_) rfl (by kernel_rfl) (by kernel_rfl) (by kernel_rfl) (fun _ _ _ h => h) (by kernel_rfl) ?_ ?_
              rotate_left 1
              · intro w hw; go_simp; try with_reducible rfl
              refine wpC_take (i := 4) (v := ?_) rfl (by kernel_rfl) (by kernel_rfl) (by kernel_rfl) (fun _ _ _ h => h) (by kernel_rfl) ?_ ?_
              rotate_left 1
              · intro w hw; have q0 : w.cell? ⟨bo, 2, none⟩ = some (.int .i64 o.i) := (HCF.out.ext hw).cell (i := 2) rfl; go_simp; try with_reducible rfl
              refine wpC_take (i := 5) (v := (valA o.v (.slice ua n uc))) rfl (by kernel_rfl) (by kernel_rfl) (by kernel_rfl) (fun _ _ _ h => h) (by kernel_rfl) (fun w hw => ?_) ?_
              · refine exec_load_m 29 (.tmp 7) rfl bv 0 ?_ (valA o.v (.slice ua n uc)) (HCF.out.ext hw).own
                kernel_rfl
              refine wpC_take (i := 6) (v := ?_) rfl (by kernel_rfl) (by kernel_rfl) (by kernel_rfl) (fun _ _ _ h => h) (by kernel_rfl) ?_ ?_
              rotate_left 1
              · intro w hw; go_simp; try with_reducible rfl
              refine wpC_take (i := 7) (v := ?_) rfl (by kernel_rfl) (by kernel_rfl) (by kernel_rfl) (fun _ _ _ h => h) (by kernel_rfl) ?_ ?_
              rotate_left 1
              · intro w hw; have q0 : w.cell? ⟨bo, 20, none⟩ = some (.bool o.glob) := (HCF.out.ext hw).cell (i := 20) rfl; go_simp; try with_reducible rfl
              refine wpC_take (i := 10) (v := ?_) rfl (by kernel_rfl) (by kernel_rfl) (by kernel_rfl) (fun _ _ _ h => h) (by kernel_rfl) ?_ ?_
              rotate_left 1
              · intro w hw; go_simp; try with_reducible rfl
              refine wpC_take (i := 11) (v := ?_) rfl (by kernel_rfl) (by kernel_rfl) (by kernel_rfl) (fun _ _ _ h => h) (by kernel_rfl) ?_ ?_
              rotate_left 1
              · intro w hw; go_simp; try with_reducible rfl
              refine wpC_take (i := 12) (v := ?_) rfl (by kernel_rfl) (by kernel_rfl) (by kernel_rfl) (fun _ _ _ h => h) (by kernel_rfl) ?_ ?_
              rotate_left 1
              · intro w hw; have q0 : w.cell? ⟨bo, 1, none⟩ = some (.int .i64 o.cls) := (HCF.out.ext hw).cell (i := 1) rfl; go_simp; try with_reducible rfl
              refine wpC_take (i := 13) (v := ?_) rfl (by kernel_rfl) (by kernel_rfl) (by kernel_rfl) (fun _ _ _ h => h) (by kernel_rfl) ?_ ?_
              rotate_left 1
              · intro w hw; go_simp; try with_reducible rfl
              refine wpC_take (i := 14) (v := ?_) rfl (by kernel_rfl) (by kernel_rfl) (by kernel_rfl) (fun _ _ _ h => h) (by kernel_rfl) ?_ ?_
              rotate_left 1
              · intro w hw; have q0 : w.cell? ⟨bo, 2, none⟩ = some (.int .i64 o.i) := (HCF.out.ext hw).cell (i := 2) rfl; go_simp; try with_reducible rfl
              refine wpC_take (i := 15) (v := ?_) rfl (by kernel_rfl) (by kernel_rfl) (by kernel_rfl) (fun _ _ _ h => h) (by kernel_rfl) ?_ ?_
              rotate_left 1
              · intro w hw; go_simp; try with_reducible rfl
              refine wpC_take (i := 16) (v := (valA o.v s)) rfl (by kernel_rfl) (by kernel_rfl) (by kernel_rfl) (fun _ _ _ h => h) (by kernel_rfl) (fun w hw => ?_) ?_
              · refine exec_load_m 38 (.tmp 114) rfl bo 10 ?_ (valA o.v s) (HCF.out.ext hw).val
                kernel_rfl
              refine wpC_take (i := 17) (v := ?_) rfl (by kernel_rfl) (by kernel_rfl) (by kernel_rfl) (fun _ _ _ h => h) (by kernel_rfl) ?_ ?_
              rotate_left 1
              · intro w hw; go_simp; try with_reducible rfl
              refine wpC_take (i := 18) (v := ?_) rfl (by kernel_rfl) (by kernel_rfl) (by kernel_rfl) (fun _ _ _ h => h) (by kernel_rfl) ?_ ?_
              rotate_left 1
              · intro w hw; have q0 : w.cell? ⟨bo, 20, none⟩ = some (.bool o.glob) := (HCF.out.ext hw).cell (i := 20) rfl; go_simp; try with_reducible rfl
              refine wpC_one (i := 8) rfl (by kernel_rfl) (HX.out) (fun K hK => ?_)
              go_simp
              refine Calls.mono (advance_no o.cls o.i o.v _ o.glob (HRU.out.ext HX.out) (HNT.out.ext HX.out)) ?_
              rintro e w4 ⟨rfl, hx4⟩
              have HX := Lib.hid (HX.out.trans hx4)
              clear hx4
              go_simp
              refine hK _ _ ?_
              clear hK K
              refine wpC_one (i := 9) rfl (by kernel_rfl) (HX.out) (fun K hK => ?_)
              go_simp
              refine Calls.mono (num_any _ _) ?_
              rintro e w4 ⟨rfl, rfl⟩
              go_simp
              refine hK _ _ ?_
              clear hK K
              refine wpC_one (i := 19) rfl (by kernel_rfl) (HX.out) (fun K hK => ?_)
              go_simp
              refine Calls.mono (radvance o.cls o.i o.v s o.glob (HRS.out.ext HX.out)) ?_
              rintro e w4 ⟨rfl, hx4⟩
              have HX := Lib.hid (HX.out.trans hx4)
              clear hx4
              go_simp
              refine hK _ _ ?_
              clear hK K
              refine wpC_take (i := 20) (v := ?_) rfl (by kernel_rfl) (by kernel_rfl) (by kernel_rfl) (fun _ _ _ h => h) (by kernel_rfl) ?_ ?_
              rotate_left 1
              · intro w hw; go_simp; try with_reducible rfl
              refine wpC_one (i := 21) rfl (by kernel_rfl) (HX.out) (fun K hK => ?_)
              go_simp
              refine hK _ _ ?_
              clear hK K
              refine wpC_done (by kernel_rfl) (HX.out) ?_
              go_wp2
              go_meet
              exact ⟨rfl, HX.out⟩
            · have k5 : (o.kind == 5) = false := by rw [beq_eq_false_iff_ne]; exact h5
              by_cases h6 : o.kind = 6
              · rw [h6] at c0
                go_upto_region 17 with fail
                refine wp_region_C (fun w' => Ext W3 w') (by kernel_rfl) ?_
                have HX := Lib.hid ((Ext.refl W3).drew)
                generalize W3.drew = W4 at *
                clear c0
                refine wpC_take (i := 0) (v := ?_) rfl (by kernel_rfl) (by kernel_rfl) (by kernel_rfl) (fun _ _ _ h => h) (by kernel_rfl) ?_ ?_
                rotate_left 1
                · intro w hw; go_simp; try with_reducible rfl
                refine wpC_take (i := 1) (v := ?_) rfl (by kernel_rfl) (by kernel_rfl) (by kernel_rfl) (fun _ _ _ h => h) (by kernel_rfl) ?_ ?_
                rotate_left 1
                · intro w hw; go_simp; try with_reducible rfl
                refine wpC_take (i := 2) (v := ?_) rfl (by kernel_rfl) (by kernel_rfl) (by kernel_rfl) (fun _ _ _ h => h) (by kernel_rfl) ?_ ?_
                rotate_left 1
                · intro w hw; have q0 : w.cell? ⟨bo, 1, none⟩ = some (.int .i64 o.cls) := (HCF.out.ext hw).cell (i := 1) rfl; go_simp; try with_reducible rfl
                refine wpC_take (i := 3) (v := ?_) rfl (by kernel_rfl) (by kernel_rfl) (by kernel_rfl) (fun _ _ _ h => h) (by kernel_rfl) ?_ ?_
                rotate_left 1
                · intro w hw; go_simp; try with_reducible rfl
                refine wpC_take (i := 4) (v := ?_) rfl (by kernel_rfl) (by kernel_rfl) (by kernel_rfl) (fun _ _ _ h => h) (by kernel_rfl) ?_ ?_
                rotate_left 1
                · intro w hw; have q0 : w.cell? ⟨bo, 2, none⟩ = some (.int .i64 o.i) := (HCF.out.ext hw).cell (i := 2) rfl; go_simp; try with_reducible rfl
                refine wpC_take (i := 5) (v := ?_) rfl (by kernel_rfl) (by kernel_rfl) (by kernel_rfl) (fun _ _ _ h => h) (by kernel_rfl) ?_ ?_
                rotate_left 1
                · intro w hw; go_simp; try with_reducible rfl
                refine wpC_take (i := 6) (v := ?_) rfl (by kernel_rfl) (by kernel_rfl) (by kernel_rfl) (fun _ _ _ h => h) (by kernel_rfl) ?_ ?_
                rotate_left 1
                · intro w hw; have q0 : w.cell? ⟨bo, 3, none⟩ = some (.int .i64 o.n) := (HCF.out.ext hw).cell (i := 3) rfl; go_simp; try with_reducible rfl
                refine wpC_take (i := 7) (v := ?_) rfl (by kernel_rfl) (by kernel_rfl) (by kernel_rfl) (fun _ _ _ h => h) (by kernel_rfl) ?_ ?_
                rotate_left 1
                · intro w hw; go_simp; try with_reducible rfl
                refine wpC_take (i := 8) (v := ?_) rfl (by kernel_rfl) (by kernel_rfl) (by kernel_rfl) (fun _ _ _ h => h) (by kernel_rfl) ?_ ?_
                rotate_left 1
                · intro w hw; have q0 : w.cell? ⟨bo, 20, none⟩ = some (.bool o.glob) := (HCF.out.ext hw).cell (i := 20) rfl; go_simp; try with_reducible rfl
                refine wpC_take (i := 11) (v := ?_) rfl (by kernel_rfl) (by kernel_rfl) (by kernel_rfl) (fun _ _ _ h => h) (by kernel_rfl) ?_ ?_
                rotate_left 1
                · intro w hw; go_simp; try with_reducible rfl
                refine wpC_take (i := 12) (v := ?_) rfl (by kernel_rfl) (by kernel_rfl) (by kernel_rfl) (fun _ _ _ h => h) (by kernel_rfl) ?_ ?_
                rotate_left 1
                · intro w hw; go_simp; try with_reducible rfl
                refine wpC_take (i := 13) (v := ?_) rfl (by kernel_rfl) (by kernel_rfl) (by kernel_rfl) (fun _ _ _ h => h) (by kernel_rfl) ?_ ?_
                rotate_left 1
                · intro w hw; have q0 : w.cell? ⟨bo, 1, none⟩ = some (.int .i64 o.cls) := (HCF.out.ext hw).cell (i := 1) rfl; go_simp; try with_reducible rfl
                refine wpC_take (i := 14) (v := ?_) rfl (by kernel_rfl) (by kernel_rfl) (by kernel_rfl) (fun _ _ _ h => h) (by kernel_rfl) ?_ ?_
                rotate_left 1
                · intro w hw; go_simp; try with_reducible rfl
                refine wpC_take (i := 15) (v := ?_) rfl (by kernel_rfl) (by kernel_rfl) (by kernel_rfl) (fun _ _ _ h => h) (by kernel_rfl) ?_ ?_
                rotate_left 1
                · intro w hw; have q0 : w.cell? ⟨bo, 2, none⟩ = some (.int .i64 o.i) := (HCF.out.ext hw).cell (i := 2) rfl; go_simp; try with_reducible rfl
                refine wpC_take (i := 16) (v := ?_) rfl (by kernel_rfl) (by kernel_rfl) (by kernel_rfl) (fun _ _ _ h => h) (by kernel_rfl) ?_ ?_
                rotate_left 1
                · intro w hw; go_simp; try with_reducible rfl
                refine wpC_take (i := 17) (v := ?_) rfl (by kernel_rfl) (by kernel_rfl) (by kernel_rfl) (fun _ _ _ h => h) (by kernel_rfl) ?_ ?_
                rotate_left 1
                · intro w hw; have q0 : w.cell? ⟨bo, 3, none⟩ = some (.int .i64 o.n) := (HCF.out.ext hw).cell (i := 3) rfl; go_simp; try with_reducible rfl
                refine wpC_take (i := 18) (v := ?_) rfl (by kernel_rfl) (by kernel_rfl) (by kernel_rfl) (fun _ _ _ h => h) (by kernel_rfl) ?_ ?_
                rotate_left 1
                · intro w hw; go_simp; try with_reducible rfl
                refine wpC_take (i := 19) (v := ?_) rfl (by kernel_rfl) (by kernel_rfl) (by kernel_rfl) (fun _ _ _ h => h) (by kernel_rfl) ?_ ?_
                rotate_left 1
                · intro w hw; have q0 : w.cell? ⟨bo, 20, none⟩ = some (.bool o.glob) := (HCF.out.ext hw).cell (i := 20) rfl; go_simp; try with_reducible rfl
                refine wpC_one (i := 9) rfl (by kernel_rfl) (HX.out) (fun K hK => ?_)
                go_simp
                refine Calls.mono (multiply_no o.cls o.i o.n o.glob (HNT.out.ext HX.out)) ?_
                rintro e w4 ⟨rfl, hx4⟩
                have HX := Lib.hid (HX.out.trans hx4)
                clear hx4
                go_simp
                refine hK _ _ ?_
                clear hK K
                refine wpC_one (i := 10) rfl (by kernel_rfl) (HX.out) (fun K hK => ?_)
                go_simp
                refine Calls.mono (num_any _ _) ?_
                rintro e w4 ⟨rfl, rfl⟩
                go_simp
                refine hK _ _ ?_
                clear hK K
                refine wpC_one (i := 20) rfl (by kernel_rfl) (HX.out) (fun K hK => ?_)
                go_simp
                refine Calls.mono (rmultiply o.cls o.i o.n o.glob _) ?_
                rintro e w4 ⟨rfl, hx4⟩
                have HX := Lib.hid (HX.out.trans hx4)
                clear hx4
                go_simp
                refine hK _ _ ?_
                clear hK K
                refine wpC_take (i := 21) (v := ?_) rfl (by kernel_rfl) (by kernel_rfl) (by kernel_rfl) (fun _ _ _ h => h) (by kernel_rfl) ?_ ?_
                rotate_left 1
                · intro w hw; go_simp; try with_reducible rfl
                refine wpC_one (i := 22) rfl (by kernel_rfl) (HX.out) (fun K hK => ?_)
                go_simp
                refine hK _ _ ?_
                clear hK K
                refine wpC_done (by kernel_rfl) (HX.out) ?_
                go_wp2
                go_meet
                exact ⟨rfl, HX.out⟩
              · have k6 : (o.kind == 6) = false := by rw [beq_eq_false_iff_ne]; exact h6
                by_cases h7 : o.kind = 7
                · rw [h7] at c0
                  go_upto_region 19 with fail
                  refine wp_region_C (fun w' => Ext W3 w') (by kernel_rfl) ?_
                  have HX := Lib.hid ((Ext.refl W3).drew)
                  generalize W3.drew = W4 at *
                  clear c0
                  refine wpC_take (i := 0) (v := ?_) rfl (by kernel_rfl) (by kernel_rfl) (by kernel_rfl) (fun _ _ _ h => h) (by kernel_rfl) ?_ ?_
                  rotate_left 1
                  · intro w hw; go_simp; try with_reducible rfl
                  refine wpC_take (i := 1) (v := ?_) rfl (by kernel_rfl) (by kernel_rfl) (by kernel_rfl) (fun _ _ _ h => h) (by kernel_rfl) ?_ ?_
                  rotate_left 1
                  · intro w hw; go_simp; try with_reducible rfl
                  refine wpC_take (i := 2) (v := ?_) rfl (by kernel_rfl) (by kernel_rfl) (by kernel_rfl) (fun _ _ _ h => h) (by kernel_rfl) ?_ ?_
                  rotate_left 1
                  · intro w hw; have q0 : w.cell? ⟨bo, 1, none⟩ = some (.int .i64 o.cls) := (HCF.out.ext hw).cell (i := 1) rfl; go_simp; try with_reducible rfl
                  refine wpC_take (i := 3) (v := ?_) rfl (by kernel_rfl) (by kernel_rfl) (by kernel_rfl) (fun _ _ _ h => h) (by kernel_rfl) ?_ ?_
                  rotate_left 1
                  · intro w hw; go_simp; try with_reducible rfl
                  refine wpC_take (i := 4) (v := ?_) rfl (by kernel_rfl) (by kernel_rfl) (by kernel_rfl) (fun _ _ _ h => h) (by kernel_rfl) ?_ ?_
                  rotate_left 1
                  · intro w hw; have q0 : w.cell? ⟨bo, 2, none⟩ = some (.int .i64 o.i) := (HCF.out.ext hw).cell (i := 2) rfl; go_simp; try with_reducible rfl
                  refine wpC_take (i := 5) (v := ?_) rfl (by kernel_rfl) (by kernel_rfl) (by kernel_rfl) (fun _ _ _ h => h) (by kernel_rfl) ?_ ?_
                  rotate_left 1
                  · intro w hw; go_simp; try with_reducible rfl
                  refine wpC_take (i := 6) (v := ?_) rfl (by kernel_rfl) (by kernel_rfl) (by kernel_rfl) (fun _ _ _ h => h) (by kernel_rfl) ?_ ?_
                  rotate_left 1
                  · intro w hw; have q0 : w.cell? ⟨bo, 3, none⟩ = some (.int .i64 o.n) := (HCF.out.ext hw).cell (i := 3) rfl; go_simp; try with_reducible rfl
                  refine wpC_take (i := 7) (v := ?_) rfl (by kernel_rfl) (by kernel_rfl) (by kernel_rfl) (fun _ _ _ h => h) (by kernel_rfl) ?_ ?_
                  rotate_left 1
                  · intro w hw; go_simp; try with_reducible rfl
                  refine wpC_take (i := 8) (v := ?_) rfl (by kernel_rfl) (by kernel_rfl) (by kernel_rfl) (fun _ _ _ h => h) (by kernel_rfl) ?_ ?_
                  rotate_left 1
                  · intro w hw; have q0 : w.cell? ⟨bo, 20, none⟩ = some (.bool o.glob) := (HCF.out.ext hw).cell (i := 20) rfl; go_simp; try with_reducible rfl
                  refine wpC_take (i := 11) (v := ?_) rfl (by kernel_rfl) (by kernel_rfl) (by kernel_rfl) (fun _ _ _ h => h) (by kernel_rfl) ?_ ?_
                  rotate_left 1
                  · intro w hw; go_simp; try with_reducible rfl
                  refine wpC_take (i := 12) (v := ?_) rfl (by kernel_rfl) (by kernel_rfl) (by kernel_rfl) (fun _ _ _ h => h) (by kernel_rfl) ?_ ?_
                  rotate_left 1
                  · intro w hw; go_simp; try with_reducible rfl
                  refine wpC_take (i := 13) (v := ?_) rfl (by kernel_rfl) (by kernel_rfl) (by kernel_rfl) (fun _ _ _ h => h) (by kernel_rfl) ?_ ?_
                  rotate_left 1
                  · intro w hw; have q0 : w.cell? ⟨bo, 1, none⟩ = some (.int .i64 o.cls) := (HCF.out.ext hw).cell (i := 1) rfl; go_simp; try with_reducible rfl
                  refine wpC_take (i := 14) (v := ?_) rfl (by kernel_rfl) (by kernel_rfl) (by kernel_rfl) (fun _ _ _ h => h) (by kernel_rfl) ?_ ?_
                  rotate_left 1
                  · intro w hw; go_simp; try with_reducible rfl
                  refine wpC_take (i := 15) (v := ?_) rfl (by kernel_rfl) (by kernel_rfl) (by kernel_rfl) (fun _ _ _ h => h) (by kernel_rfl) ?_ ?_
                  rotate_left 1
                  · intro w hw; have q0 : w.cell? ⟨bo, 2, none⟩ = some (.int .i64 o.i) := (HCF.out.ext hw).cell (i := 2) rfl; go_simp; try with_reducible rfl
                  refine wpC_take (i := 16) (v := ?_) rfl (by kernel_rfl) (by kernel_rfl) (by kernel_rfl) (fun _ _ _ h => h) (by kernel_rfl) ?_ ?_
                  rotate_left 1
                  · intro w hw; go_simp; try with_reducible rfl
                  refine wpC_take (i := 17) (v := ?_) rfl (by kernel_rfl) (by kernel_rfl) (by kernel_rfl) (fun _ _ _ h => h) (by kernel_rfl) ?_ ?_
                  rotate_left 1
                  · intro w hw; have q0 : w.cell? ⟨bo, 3, none⟩ = some (.int .i64 o.n) := (HCF.out.ext hw).cell (i := 3) rfl; go_simp; try with_reducible rfl
                  refine wpC_take (i := 18) (v := ?_) rfl (by kernel_rfl) (by kernel_rfl) (by kernel_rfl) (fun _ _ _ h => h) (by kernel_rfl) ?_ ?_
                  rotate_left 1
                  · intro w hw; go_simp; try with_reducible rfl
                  refine wpC_take (i := 19) (v := ?_) rfl (by kernel_rfl) (by kernel_rfl) (by kernel_rfl) (fun _ _ _ h => h) (by kernel_rfl) ?_ ?_
                  rotate_left 1
                  · intro w hw; have q0 : w.cell? ⟨bo, 20, none⟩ = some (.bool o.glob) := (HCF.out.ext hw).cell (i := 20) rfl; go_simp; try with_reducible rfl
                  refine wpC_one (i := 9) rfl (by kernel_rfl) (HX.out) (fun K hK => ?_)
                  go_simp
                  refine Calls.mono (divide_no o.cls o.i o.n o.glob (HNT.out.ext HX.out)) ?_
                  rintro e w4 ⟨rfl, hx4⟩
                  have HX := Lib.hid (HX.out.trans hx4)
                  clear hx4
                  go_simp
                  refine hK _ _ ?_
                  clear hK K
                  refine wpC_one (i := 10) rfl (by kernel_rfl) (HX.out) (fun K hK => ?_)
                  go_simp
                  refine Calls.mono (num_any _ _) ?_
                  rintro e w4 ⟨rfl, rfl⟩
                  go_simp
                  refine hK _ _ ?_
                  clear hK K
                  refine wpC_one (i := 20) rfl (by kernel_rfl) (HX.out) (fun K hK => ?_)
                  go_simp
                  refine Calls.mono (rdivide o.cls o.i o.n o.glob _) ?_
                  rintro e w4 ⟨rfl, hx4⟩
                  have HX := Lib.hid (HX.out.trans hx4)
                  clear hx4
                  go_simp
                  refine hK _ _ ?_
                  clear hK K
                  refine wpC_take (i := 21) (v := ?_) rfl (by kernel_rfl) (by kernel_rfl) (by kernel_rfl) (fun _ _ _ h => h) (by kernel_rfl) ?_ ?_
                  rotate_left 1
                  · intro w hw; go_simp; try with_reducible rfl
                  refine wpC_one (i := 22) rfl (by kernel_rfl) (HX.out) (fun K hK => ?_)
                  go_simp
                  refine hK _ _ ?_
                  clear hK K
                  refine wpC_done (by kernel_rfl) (HX.out) ?_
                  go_wp2
                  go_meet
                  exact ⟨rfl, HX.out⟩
                · have k7 : (o.kind == 7) = false := by rw [beq_eq_false_iff_ne]; exact h7
                  by_cases h8 : o.kind = 8
                  · rw [h8] at c0
                    go_upto_region 21 with fail
                    refine wp_region_C (fun w' => Ext W3 w') (by kernel_rfl) ?_
                    have HX := Lib.hid ((Ext.refl W3).drew)
                    generalize W3.drew = W4 at *
                    clear c0
                    refine wpC_take (i := 0) (v := ?_) rfl (by kernel_rfl) (by kernel_rfl) (by kernel_rfl) (fun _ _ _ h => h) (by kernel_rfl) ?_ ?_
                    rotate_left 1
                    · intro w hw; go_simp; try with_reducible rfl
                    refine wpC_take (i := 1) (v := ?_) rfl (by kernel_rfl) (by kernel_rfl) (by kernel_rfl) (fun _ _ _ h => h) (by kernel_rfl) ?_ ?_
                    rotate_left 1
                    · intro w hw; go_simp; try with_reducible rfl
                    refine wpC_take (i := 2) (v := (Tok.val o.x)) rfl (by kernel_rfl) (by kernel_rfl) (by kernel_rfl) (fun _ _ _ h => h) (by kernel_rfl) (fun w hw => ?_) ?_
                    · refine exec_load_m 40 (.tmp 171) rfl bo 17 ?_ (Tok.val o.x) (HCF.out.ext hw).tok
                      kernel_rfl
                    refine wpC_take (i := 5) (v := ?_) rfl (by kernel_rfl) (by kernel_rfl) (by kernel_rfl) (fun _ _ _ h => h) (by kernel_rfl) ?_ ?_
                    rotate_left 1
                    · intro w hw; go_simp; try with_reducible rfl
                    refine wpC_take (i := 6) (v := ?_) rfl (by kernel_rfl) (by kernel_rfl) (by kernel_rfl) (fun _ _ _ h => h) (by kernel_rfl) ?_ ?_
                    rotate_left 1
                    · intro w hw; go_simp; try with_reducible rfl
                    refine wpC_take (i := 7) (v := (Tok.val o.x)) rfl (by kernel_rfl) (by kernel_rfl) (by kernel_rfl) (fun _ _ _ h => h) (by kernel_rfl) (fun w hw => ?_) ?_
                    · refine exec_load_m 40 (.tmp 176) rfl bo 17 ?_ (Tok.val o.x) (HCF.out.ext hw).tok
                      kernel_rfl
                    refine wpC_one (i := 3) rfl (by kernel_rfl) (HX.out) (fun K hK => ?_)
                    go_simp
                    refine Calls.mono (after_no o.x (HNT.out.ext HX.out)) ?_
                    rintro e w4 ⟨rfl, hx4⟩
                    have HX := Lib.hid (HX.out.trans hx4)
                    clear hx4
                    go_simp
                    refine hK _ _ ?_
                    clear hK K
                    refine wpC_one (i := 4) rfl (by kernel_rfl) (HX.out) (fun K hK => ?_)
                    go_simp
                    refine Calls.mono (num_any _ _) ?_
                    rintro e w4 ⟨rfl, rfl⟩
                    go_simp
                    refine hK _ _ ?_
                    clear hK K
                    refine wpC_one (i := 8) rfl (by kernel_rfl) (HX.out) (fun K hK => ?_)
                    go_simp
                    refine Calls.mono (rafter o.x _) ?_
                    rintro e w4 ⟨rfl, hx4⟩
                    have HX := Lib.hid (HX.out.trans hx4)
                    clear hx4
                    go_simp
                    refine hK _ _ ?_
                    clear hK K
                    refine wpC_take (i := 9) (v := ?_) rfl (by kernel_rfl) (by kernel_rfl) (by kernel_rfl) (fun _ _ _ h => h) (by kernel_rfl) ?_ ?_
                    rotate_left 1
                    · intro w hw; go_simp; try with_reducible rfl
                    refine wpC_one (i := 10) rfl (by kernel_rfl) (HX.out) (fun K hK => ?_)
                    go_simp
                    refine hK _ _ ?_
                    clear hK K
                    refine wpC_done (by kernel_rfl) (HX.out) ?_
                    go_wp2
                    go_meet
                    exact ⟨rfl, HX.out⟩
                  · have k8 : (o.kind == 8) = false := by rw [beq_eq_false_iff_ne]; exact h8
                    go_wp2
                    go_meet
                    exact ⟨rfl, Ext.refl _⟩
  case rest =>
    obtain ⟨rfl, hx⟩ := hcut
    have H4 := Lib.hid (H3.out.ext hx)
    have e10 : wc.cell? ⟨bo, 10, none⟩ = some (.int .i64 o.v.n) := (HCF.out.ext hx).cell (i := 10) rfl
    have e11 : wc.cell? ⟨bo, 11, none⟩ = some (.int .i64 o.v.g.nat) := (HCF.out.ext hx).cell (i := 11) rfl
    have e12 : wc.cell? ⟨bo, 12, none⟩ = some (.int .i64 o.v.g.stretch) := (HCF.out.ext hx).cell (i := 12) rfl
    have e13 : wc.cell? ⟨bo, 13, none⟩ = some (.int .i64 o.v.g.shrink) := (HCF.out.ext hx).cell (i := 13) rfl
    have e14 : wc.cell? ⟨bo, 14, none⟩ = some (.int .i64 o.v.g.so) := (HCF.out.ext hx).cell (i := 14) rfl
    have e15 : wc.cell? ⟨bo, 15, none⟩ = some (.int .i64 o.v.g.ko) := (HCF.out.ext hx).cell (i := 15) rfl
    have e16 : wc.cell? ⟨bo, 16, none⟩ = some (s) := (HCF.out.ext hx).cell (i := 16) rfl
    have v0 := H4.out.cell (i := 0) rfl
    have v1 := H4.out.cell (i := 1) rfl
    have v2 := H4.out.cell (i := 2) rfl
    have v3 := H4.out.cell (i := 3) rfl
    have v4 := H4.out.cell (i := 4) rfl
    have v5 := H4.out.cell (i := 5) rfl
    have v6 := H4.out.cell (i := 6) rfl
    have lv := H4.out.lt
    have lb4 := hx.lt lb
    have HSM := Lib.hid (same_yes o.v (.slice ua n uc) s wc (HRU.out.ext hx) (HRS.out.ext hx))
    clear hx H3 c0
    go_wp2_with fail
    refine Calls.mono HSM.out ?_
    rintro e w5 ⟨rfl, hx5⟩
    have H5 := Lib.hid (H4.out.ext hx5)
    clear hx5 HSM e10 e11 e12 e13 e14 e15 e16 v0 v1 v2 v3 v4 v5 v6 lv lb4 H4 lb
    go_wp2_with fail
    by_cases hz : n = 0
    · subst hz
      go_loopg [14] 0 (fun gg s14 wx => gg = 0 ∧ s14 = .int .i64 0 ∧ w5 = wx)
      case atStart => exact ⟨rfl, rfl, rfl⟩
      case round =>
        obtain ⟨rfl, rfl, rfl⟩ := hrel
        have c6 := H5.out.cell (i := 6) rfl
        have lb := H5.out.lt
        have HE := Lib.hid (HW1.out.trans H5.out.r.r.toExt)
        clear HCF HRU HNT HRS
        go_wp2
        go_ret
        exact ⟨rfl, HE.out⟩
    · have hpos : 0 < n := by omega
      obtain ⟨g, rfl, -, -⟩ := rowT_at H5.out.r (i := 0) (by rw [HN.out]; exact hpos)
      go_loopg [14] n (fun gg s14 wx => ∃ (k : Nat) (L : List Tok), k ≤ n ∧ gg = n - k ∧ s14 = .int .i64 k ∧ L.length = n ∧ Sat W1 (pts bv (.cells #[.int .i64 o.v.n, .int .i64 o.v.g.nat, .int .i64 o.v.g.stretch, .int .i64 o.v.g.shrink, .int .i64 o.v.g.so, .int .i64 o.v.g.ko, .slice (some ⟨g, 0, none⟩) n uc] 29) * (rowT (.slice (some ⟨g, 0, none⟩) n uc) L * own W1)) wx)
      case atStart => exact ⟨0, o.v.toks, by omega, rfl, rfl, HN.out, H5.out⟩
      case round =>
        obtain ⟨k, L, hk, rfl, rfl, hl, hx⟩ := hrel
        have HX := Lib.hid hx
        have HLL := Lib.hid hl
        clear hx hl H5
        have c6 := HX.out.cell (i := 6) rfl
        have lb := HX.out.lt
        by_cases hlt : k < n
        · have i1 : (k : Int) < (n : Int) := by omega
          obtain ⟨_, hq, -, ⟨e0, e1, e2⟩, hf, hb⟩ := rowT_at HX.out.r (i := k) (by rw [HLL.out]; exact hlt)
          cases hq
          have f0 := hf (k * 3)
          have f1 := hf (k * 3 + 1)
          have f2 := hf (k * 3 + 2)
          have HS2 := Lib.hid (rowT_set HX.out.rot (i := k) (by rw [HLL.out]; exact hlt) ⟨99, 0, ByteArray.empty⟩).rot
          clear hf
          go_wp2
          go_roundg (n - (k + 1))
          case measure => omega
          case rel => exact ⟨k + 1, L.set k ⟨99, 0, ByteArray.empty⟩, by omega, rfl, by go_num, by rw [List.length_set]; exact HLL.out, HS2.out⟩
        · obtain rfl : n = k := by omega
          have HE := Lib.hid (HW1.out.trans HX.out.r.r.toExt)
          clear HCF HRU HNT HRS HX
          go_wp2
          go_ret
          exact ⟨rfl, HE.out⟩
