import Derived.Test.YtjeinldhbajknaaMRS
/-
  The document's Whole. Conditions: those that each theorem names.
-/
namespace Go.Proofs.Ytjeinldhbajknaa
open Go.RowKit Go.Sp Go.Conc
variable {W w w' : World} {A : HProp}

/-- a state's cells -/
abbrev stC (s : StM) (dv av pv tv : Value) : Array Value := #[.int .i64 s.part, dv, av, .int .i64 s.last, .int .i64 s.pages, .int .i64 s.deep, .int .i64 s.most, .bool s.font, .int .i64 s.post,
  .int .i64 s.pre.code, .int .i64 s.pre.at_, pv, .string ⟨s.pre.text.toArray⟩, .int .i64 s.tail.code, .int .i64 s.tail.at_, tv, .string ⟨s.tail.text.toArray⟩]
def IsSt (cs : Array Value) : Prop := ∃ s dv av pv tv, ((∃ a n c, dv = Value.slice a n c) ∧ (∃ a n c, av = Value.slice a n c) ∧ (∃ a n c, pv = Value.slice a n c) ∧ (∃ a n c, tv = Value.slice a n c)) ∧ cs = stC s dv av pv tv
theorem IsSt.one {cs : Array Value} (h : IsSt cs) : cs.all (·.oneCell') = true := by
  obtain ⟨s, dv, av, pv, tv, ⟨⟨_, _, _, rfl⟩, ⟨_, _, _, rfl⟩, ⟨_, _, _, rfl⟩, ⟨_, _, _, rfl⟩⟩, rfl⟩ := h
  simp [Value.oneCell']
theorem IsSt.size {cs : Array Value} (h : IsSt cs) : cs.size = 17 := by
  obtain ⟨s, dv, av, pv, tv, _, rfl⟩ := h
  rfl
theorem InV.slice {V : List (Cmd × Value)} {o : Cmd} {v : Value} (hV : ∀ x ∈ V, Rd w x.2 x.1.args.length 1 (intsL x.1.args)) (h : InV V o v) : ∃ a n c, v = Value.slice a n c := by
  rcases h with h | h
  · obtain ⟨_, _, a, c, h, -⟩ := hV _ h
    exact ⟨_, _, _, h⟩
  · exact ⟨_, _, _, h.2⟩
theorem StAt.isSt {V : List (Cmd × Value)} {b : Nat} {s : StM} (hV : ∀ x ∈ V, Rd w x.2 x.1.args.length 1 (intsL x.1.args)) (h : StAt W A V b s w) :
    ∃ cs, IsSt cs ∧ Sat W (pts b (.cells cs 80) * A) w := by
  obtain ⟨dv, av, pv, tv, h1, h2⟩ := h
  obtain ⟨_, _, e1, -⟩ := h2.r.row_val
  obtain ⟨_, _, e2, -⟩ := h2.r.r.row_val
  refine ⟨stC s dv av pv tv, ⟨s, dv, av, pv, tv, ⟨⟨_, _, _, e1⟩, ⟨_, _, _, e2⟩, h1.1.slice hV, h1.2.slice hV⟩, rfl⟩, ?_⟩
  have h3 := h2.of_eq (show _ = row dv s.defs.length 57 5 (flatD s.defs) * (row av s.again.length 57 5 (flatD s.again) * (pts b (stO s dv av pv tv) * A)) by ac_rfl)
  exact h3.r.r
theorem _root_.Go.Sp.Sat.setRowO {b : Nat} {cs cs2 : Array Value} {e : TypeId} (h : Sat W (pts b (.cells cs e) * A) w) : Sat W (pts b (.cells cs2 e) * A) (w.setRow b cs2) :=
  h.upd ⟨rfl, rfl, rfl⟩ (setRow_heap w b _ _ e _ h.blk) fun k _ hk hx => by rw [setRow_other w b k _ hk]; exact hx
theorem results_tct {P : Program} {fn : Func} {t p u : Tmp} {ty : TypeId} (h : fn.results = #[.tmp t, .cell p ty, .tmp u]) (tmps : Array Value) (w : World) (g : Nat) (tt : TypeId) (cs : Array Value) (fr : Nat × Nat) (d : TypeDesc)
    (hp : tmps.getD p undef = .pointer (some ⟨g, 0, none⟩)) (hg : w.heap[g]? = some (.cells cs tt fr))
    (hu : P.underlying ty = some d) (hd : (match d with | .struct _ | .array _ _ => true | _ => false) = true) (hi : (P.info? ty).map (·.size) = some cs.size) :
    (results fn tmps).run P w = .ok (.tuple #[tmps.getD t undef, .agg cs, tmps.getD u undef]) w := by
  have hp' : tmps[p]?.getD undef = .pointer (some ⟨g, 0, none⟩) := by simpa using hp
  simp [results, h, hp', asAddr, run_loadVar_row w g tt ty cs fr d hg hu hd hi]

set_option maxRecDepth 100000 in
theorem commands_nil {a : Option Addr} {c : Nat} (h : Sat W A w) : Calls Try.prog 35 #[.slice a 0 c] w fun e w' => e = .returned (.tuple #[.slice none 0 0, .int .i64 0, .bool false]) ∧ Sat W A w' := by
  have H := Lib.hid h
  clear h
  go_enter Try.func35, Try.ntmps35
  go_wp2_with fail
  refine wp_loop_once ?_
  go_wp2
  go_ret3
  exact ⟨rfl, H.out⟩
theorem commands_all {v : Value} {l : List UInt8} (hl : l.length ≤ 1048576) (hv : ∀ w', Sat W A w' → Rd w' v l.length 1 (l.map byteV)) (hcap : ∀ a n c, v = .slice a n c → l.length ≤ c) (h : Sat W A w) :
    Calls Try.prog 35 #[v] w fun e w' => CmdsPost W A l e w' := by
  obtain ⟨_, _, a, c, rfl, h4⟩ := hv w h
  cases l with
  | nil =>
    refine (commands_nil h).mono ?_
    rintro e w2 ⟨rfl, h2⟩
    exact .inl ⟨by rw [cmdsM_succ, if_pos]; exact feedAt_end [], rfl, h2⟩
  | cons x l =>
    obtain ⟨g, off, rfl, -⟩ := h4 0 (byteV x) rfl
    exact commands_any hl (hcap _ _ _ rfl) hv h

theorem cmdsM_feed (l : List UInt8) : ∀ (n p : Nat) (acc os : List Cmd) (g : Fd), p ≤ l.length → cmdsM n (feedAt l p) acc = some (os, g) → g = feedAt l g.at_ ∧ g.at_ ≤ l.length
  | 0, _, _, _, _, _, h => by cases h
  | n + 1, p, acc, os, g, hp, h => by
    unfold cmdsM at h
    split at h
    · cases h
    · rename_i hlo
      obtain ⟨h1, h2, h3⟩ := feedAt_next l p hp (by simpa using hlo)
      split at h
      · cases h
        exact ⟨h1, h3⟩
      · rw [h1] at h
        exact cmdsM_feed l n _ _ _ _ h3 h
theorem cmdsM_wf : ∀ (n : Nat) (f : Fd) (acc os : List Cmd) (g : Fd), (∀ o ∈ acc, o.Wf ∧ o.code ≤ 249) → cmdsM n f acc = some (os, g) → ∀ o ∈ os, o.Wf ∧ o.code ≤ 249
  | 0, _, _, _, _, _, h => by cases h
  | n + 1, f, acc, os, g, ha, h => by
    unfold cmdsM at h
    split at h
    · cases h
    · rename_i hlo
      have h2 : ∀ o ∈ acc ++ [f.cmd.1], o.Wf ∧ o.code ≤ 249 := fun o ho => by
        rcases List.mem_append.1 ho with h | h
        · exact ha o h
        · obtain rfl := List.mem_singleton.1 h
          exact ⟨cmd_wf f, code_small _ (by simpa using hlo)⟩
      split at h
      · cases h
        exact h2
      · exact cmdsM_wf n _ _ _ _ h2 h
theorem cmdsM_count : ∀ (n : Nat) (f : Fd) (acc os : List Cmd) (g : Fd), cmdsM n f acc = some (os, g) → os.length ≤ acc.length + f.l.length
  | 0, _, _, _, _, h => by cases h
  | n + 1, f, acc, os, g, h => by
    unfold cmdsM at h
    split at h
    · cases h
    · rename_i hlo
      have hl : f.cmd.2.l.length < f.l.length := by
        rcases cmd_less f with h | h
        · exact absurd h hlo
        · exact h
      split at h
      · cases h
        simp only [List.length_append, List.length_singleton]; omega
      · have := cmdsM_count n _ _ _ _ h
        simp only [List.length_append, List.length_singleton] at this
        omega

/-- what the document's reading gives -/
def WholeRPost (W : World) (A : HProp) (l : List UInt8) (e : Ending) (w' : World) : Prop :=
  (1048576 < l.length ∧ ∃ cs, IsSt cs ∧ e = .returned (.tuple #[.slice none 0 0, .agg cs, .int .i64 6]) ∧ Sat W A w') ∨
  (l.length ≤ 1048576 ∧ wholeR l = none ∧ ∃ cs, IsSt cs ∧ e = .returned (.tuple #[.slice none 0 0, .agg cs, .int .i64 240]) ∧ Sat W A w') ∨
  (l.length ≤ 1048576 ∧ ∃ os s V oa oc dv av pv tv, wholeR l = some (os, s) ∧ V.map Prod.fst = os ∧ (InV V s.pre pv ∧ InV V s.tail tv) ∧ (∃ n, s.Fits n) ∧ e = .returned (.tuple #[.slice oa V.length oc, .agg (stC s dv av pv tv), .int .i64 0]) ∧
    Sat W (row (.slice oa V.length oc) V.length 34 4 (flatO V) * (argsH V * (row dv s.defs.length 57 5 (flatD s.defs) * (row av s.again.length 57 5 (flatD s.again) * A)))) w')
theorem argsH_rd {V : List (Cmd × Value)} {B : HProp} (h : Sat W (argsH V * B) w) {x : Cmd × Value} (hx : x ∈ V) : Rd w x.2 x.1.args.length 1 (intsL x.1.args) := by
  obtain ⟨C, hC⟩ := argsH_mem hx
  rw [hC] at h
  exact Sat.rd (A := C * B) (h.of_eq (by ac_rfl))
theorem start_at {V : List (Cmd × Value)} {b : Nat} (h : Sat W (pts b (.cells #[.int .i64 0, .slice none 0 0, .slice none 0 0, .int .i64 (-1), .int .i64 0, .int .i64 0, .int .i64 0, .bool false, .int .i64 0, .int .i64 0, .int .i64 0, .slice none 0 0, .string ⟨#[]⟩, .int .i64 0, .int .i64 0, .slice none 0 0, .string ⟨#[]⟩] 80) * A) w) :
    StAt W A V b StM.start w := by
  have h2 := Sat.row_nil (e := 57) (size := 5) (Sat.row_nil (e := 57) (size := 5) h)
  exact ⟨_, _, _, _, ⟨.inr ⟨rfl, rfl⟩, .inr ⟨rfl, rfl⟩⟩, h2.of_eq (by simp only [StM.start, flatD, List.flatMap_nil, List.length_nil]; ac_rfl)⟩
abbrev zC : Array Value := #[.int .i64 0, .slice none 0 0, .slice none 0 0, .int .i64 0, .int .i64 0, .int .i64 0, .int .i64 0, .bool false, .int .i64 0, .int .i64 0, .int .i64 0, .slice none 0 0, .string ⟨#[]⟩, .int .i64 0, .int .i64 0, .slice none 0 0, .string ⟨#[]⟩]
abbrev sC : Array Value := #[.int .i64 0, .slice none 0 0, .slice none 0 0, .int .i64 (-1), .int .i64 0, .int .i64 0, .int .i64 0, .bool false, .int .i64 0, .int .i64 0, .int .i64 0, .slice none 0 0, .string ⟨#[]⟩, .int .i64 0, .int .i64 0, .slice none 0 0, .string ⟨#[]⟩]
theorem sC_is : IsSt sC := ⟨StM.start, _, _, _, _, ⟨⟨_, _, _, rfl⟩, ⟨_, _, _, rfl⟩, ⟨_, _, _, rfl⟩, ⟨_, _, _, rfl⟩⟩, rfl⟩
theorem state_size {cs : Array Value} (h : IsSt cs) : (Try.prog.info? 80).map (·.size) = some cs.size := by rw [h.size]; exact info_state
set_option maxRecDepth 100000 in
set_option maxHeartbeats 8000000 in
theorem wholeR_any {v : Value} {l : List UInt8} (hv : ∀ w', Sat W A w' → Rd w' v l.length 1 (l.map byteV)) (hcap : ∀ a n c, v = .slice a n c → l.length ≤ c) (h : Sat W A w) :
    Calls Try.prog 24 #[v] w fun e w' => WholeRPost W A l e w' := by
  obtain ⟨b3, hb3⟩ : ∃ b, w.heap.size = b := ⟨_, rfl⟩
  have h1 := h.alloc (.cells zC 80)
  rw [hb3] at h1
  obtain ⟨W1, hW1⟩ : ∃ W1, w.alloc (.cells zC 80) = W1 := ⟨_, rfl⟩
  rw [hW1] at h1
  have h2 := h1.alloc (.cells sC 80)
  obtain ⟨b5, hb5⟩ : ∃ b, W1.heap.size = b := ⟨_, rfl⟩
  rw [hb5] at h2
  obtain ⟨W2, hW2⟩ : ∃ W2, W1.alloc (.cells sC 80) = W2 := ⟨_, rfl⟩
  rw [hW2] at h2
  have H2 := Lib.hid h2
  have HV := Lib.hid hv
  have HCAP := Lib.hid hcap
  obtain ⟨va, vc, hvv⟩ : ∃ va vc, v = .slice va l.length vc := by
    obtain ⟨_, _, a, c, e, -⟩ := hv w h
    exact ⟨a, c, e⟩
  subst hvv
  have HW1 := Lib.hid hW1
  have HW2 := Lib.hid hW2
  clear h h1 h2 hv hcap hW1 hW2
  go_enter Try.func24, Try.ntmps24
  go_upto_region 1 with fail
  rw [HW1.out]
  clear hb3 HW1
  go_upto_region 2 with fail
  rw [HW2.out]
  clear hb5 HW2
  by_cases hbig : 1048576 < l.length
  · have i1 : (1048576 : Int) < (l.length : Int) := by omega
    have HBIG := Lib.hid hbig
    go_upto_region 3 with fail
    have HST := H2
    have HIS := Lib.hid sC_is
    clear H2 hbig i1
    obtain ⟨W9, hW9⟩ : ∃ W9, W2.drew = W9 := ⟨_, rfl⟩
    have h9 := HST.out.drew
    rw [hW9] at h9
    have H9 := Lib.hid h9
    have hbk := h9.blk
    have HBK := Lib.hid hbk
    clear h9 hbk HST
    refine wp_region_tail (fun w' => w' = W9) 2 (by kernel_rfl) (by kernel_rfl) hW9 ?_
    simp only [List.take_succ_cons, List.take_zero, List.drop_succ_cons, List.drop_zero]
    clear hW9
    with_reducible refine wpQuiet_val (v := .agg sC) ?_
    intro K hK
    refine ⟨by kernel_rfl, fun w9 hw9 => ?_, ?_⟩
    · subst hw9
      exact exec_load_row 80 (.tmp 5) rfl b5 rfl 80 sC (0, 0) _ HBK.out Try.underlying80 rfl (state_size HIS.out)
    go_simp
    with_reducible refine hK _ ?_
    clear hK K
    iterate 1
      with_reducible refine wpQuiet_val (v := ?_) ?_
      rotate_left 1
      intro K hK
      refine ⟨by kernel_rfl, fun w9 hw9 => ?_, ?_⟩
      · subst hw9; go_simp; try with_reducible rfl
      go_simp
      with_reducible refine hK _ ?_
      clear hK K
    refine wpQuiet_nil ?_
    rintro w17 rfl
    refine wpList_store_row rfl 80 (.tmp 3) (.tmp 16) rfl b3 sC rfl rfl 80 zC H9.out.r.blk (state_size HIS.out) (by rw [HIS.out.size] <;> rfl) HIS.out.one ?_
    have HE := Lib.hid (Sat.setRowO (cs2 := sC) (H9.out.of_eq (show _ = pts b3 (.cells zC 80) * (pts b5 (.cells (sC) 80) * A) by ac_rfl)))
    go_wp2
    (try simp only [Exit.inBlock, Exit.then])
    refine bodyPost_ret (results_tct rfl _ _ b3 80 sC (0, 0) _ rfl HE.out.blk Try.underlying80 rfl (state_size HIS.out)) rfl ?_
    exact .inl ⟨HBIG.out, _, sC_is, rfl, HE.out.r.r⟩
  have i1 : ¬ (1048576 : Int) < (l.length : Int) := by omega
  have hle : l.length ≤ 1048576 := by omega
  have HLE := Lib.hid hle
  have HC := Lib.hid (commands_all hle (fun w' h => HV.out w' h.r.r) HCAP.out H2.out)
  clear hbig hle
  go_wp2_with fail
  with_reducible refine Calls.mono HC.out ?_
  clear HC
  rintro e w5 (⟨hn, rfl, h5⟩ | ⟨os, g, V, oa, oc, hs, hmap, rfl, h5⟩)
  · have HWN := Lib.hid (show wholeR l = none by unfold wholeR; rw [hn])
    have HST := Lib.hid h5
    have HIS := Lib.hid sC_is
    have HEX := Lib.hid (show wrap64 ((l.length : Int) - 0) = (l.length : Int) from wrap64_mid (by have := HLE.out; omega) (by have := HLE.out; omega))
    clear H2 h5 hn i1
    go_upto_region 6 with fail
    refine wp_region_quiet (fun w' => w' = w5) 16 rfl ?_
    simp only [List.take_succ_cons, List.take_zero, List.drop_succ_cons, List.drop_zero]
    iterate 3
      with_reducible refine wpQuiet_val (v := ?_) ?_
      rotate_left 1
      intro K hK
      refine ⟨by kernel_rfl, fun w9 hw9 => ?_, ?_⟩
      · subst hw9; go_simp; try with_reducible rfl
      go_simp
      with_reducible refine hK _ ?_
      clear hK K
    iterate 2
      with_reducible refine wpQuiet_skip ?_
      intro K hK
      refine And.intro ?_ ?_
      · kernel_rfl
      go_simp
      with_reducible refine hK _ ?_
      clear hK K
    iterate 2
      with_reducible refine wpQuiet_val (v := ?_) ?_
      rotate_left 1
      intro K hK
      refine ⟨by kernel_rfl, fun w9 hw9 => ?_, ?_⟩
      · subst hw9; go_simp; try with_reducible rfl
      go_simp
      with_reducible refine hK _ ?_
      clear hK K
    iterate 2
      with_reducible refine wpQuiet_skip ?_
      intro K hK
      refine And.intro ?_ ?_
      · kernel_rfl
      go_simp
      with_reducible refine hK _ ?_
      clear hK K
    iterate 2
      with_reducible refine wpQuiet_val (v := ?_) ?_
      rotate_left 1
      intro K hK
      refine ⟨by kernel_rfl, fun w9 hw9 => ?_, ?_⟩
      · subst hw9; go_simp; try with_reducible rfl
      go_simp
      with_reducible refine hK _ ?_
      clear hK K
    iterate 4
      with_reducible refine wpQuiet_skip ?_
      intro K hK
      refine And.intro ?_ ?_
      · kernel_rfl
      go_simp
      with_reducible refine hK _ ?_
      clear hK K
    iterate 1
      with_reducible refine wpQuiet_val (v := ?_) ?_
      rotate_left 1
      intro K hK
      refine ⟨by kernel_rfl, fun w9 hw9 => ?_, ?_⟩
      · subst hw9; go_simp; try with_reducible rfl
      go_simp
      with_reducible refine hK _ ?_
      clear hK K
    refine wpQuiet_nil ?_
    rintro w6 rfl
    go_upto_region 7 with fail
    obtain ⟨W9, hW9⟩ : ∃ W9, w6.drew = W9 := ⟨_, rfl⟩
    have h9 := HST.out.drew
    rw [hW9] at h9
    have H9 := Lib.hid h9
    have hbk := h9.blk
    have HBK := Lib.hid hbk
    clear h9 hbk HST
    refine wp_region_tail (fun w' => w' = W9) 2 (by kernel_rfl) (by kernel_rfl) hW9 ?_
    simp only [List.take_succ_cons, List.take_zero, List.drop_succ_cons, List.drop_zero]
    clear hW9
    with_reducible refine wpQuiet_val (v := .agg sC) ?_
    intro K hK
    refine ⟨by kernel_rfl, fun w9 hw9 => ?_, ?_⟩
    · subst hw9
      exact exec_load_row 80 (.tmp 5) rfl b5 rfl 80 sC (0, 0) _ HBK.out Try.underlying80 rfl (state_size HIS.out)
    go_simp
    with_reducible refine hK _ ?_
    clear hK K
    iterate 1
      with_reducible refine wpQuiet_val (v := ?_) ?_
      rotate_left 1
      intro K hK
      refine ⟨by kernel_rfl, fun w9 hw9 => ?_, ?_⟩
      · subst hw9; go_simp; try with_reducible rfl
      go_simp
      with_reducible refine hK _ ?_
      clear hK K
    refine wpQuiet_nil ?_
    rintro w17 rfl
    refine wpList_store_row rfl 80 (.tmp 3) (.tmp 43) rfl b3 sC rfl rfl 80 zC H9.out.r.blk (state_size HIS.out) (by rw [HIS.out.size] <;> rfl) HIS.out.one ?_
    have HE := Lib.hid (Sat.setRowO (cs2 := sC) (H9.out.of_eq (show _ = pts b3 (.cells zC 80) * (pts b5 (.cells (sC) 80) * A) by ac_rfl)))
    go_wp2
    (try simp only [Exit.inBlock, Exit.then])
    refine bodyPost_ret (results_tct rfl _ _ b3 80 sC (0, 0) _ rfl HE.out.blk Try.underlying80 rfl (state_size HIS.out)) rfl ?_
    exact .inr (.inl ⟨HLE.out, HWN.out, _, sC_is, rfl, HE.out.r.r⟩)
  · obtain ⟨hg, hql⟩ := cmdsM_feed l _ 0 [] os g (Nat.zero_le _) hs
    obtain ⟨q, hq⟩ : ∃ q, g.at_ = q := ⟨_, rfl⟩
    rw [hq] at hg hql ⊢
    have hgl : g.l = l.drop q := by rw [hg]; rfl
    have hwf := cmdsM_wf _ _ _ _ _ (fun o h => by cases h) hs
    have hct := cmdsM_count _ _ _ _ _ hs
    obtain ⟨r, hr⟩ : ∃ r, l.length - q = r := ⟨_, rfl⟩
    have hgn : g.l.length = r := by rw [hgl, List.length_drop, hr]
    have hwr : wrap64 ((l.length : Int) - (q : Int)) = (r : Int) := by
      have e : (l.length : Int) - (q : Int) = (r : Int) := by omega
      rw [e]
      exact wrap64_mid (by have := HLE.out; omega) (by have := HLE.out; omega)
    obtain ⟨m1, hm1⟩ : ∃ m, decide ((r : Int) < 4) = m := ⟨_, rfl⟩
    obtain ⟨b2, hb2⟩ : ∃ m, decide ((7 : Int) < (r : Int)) = m := ⟨_, rfl⟩
    obtain ⟨b4, hb4⟩ : ∃ m, ((l.length : Int).tmod 4 != 0) = m := ⟨_, rfl⟩
    obtain ⟨m2, hm2⟩ : ∃ m, (m1 || b2) = m := ⟨_, rfl⟩
    obtain ⟨m3, hm3⟩ : ∃ m, (m2 || b4) = m := ⟨_, rfl⟩
    have hfb : fillBad g.l.length l.length = m3 := by
      have e1 : decide (r < 4) = m1 := by rw [← hm1]; exact decide_eq_decide.2 (by omega)
      have e2 : decide (7 < r) = b2 := by rw [← hb2]; exact decide_eq_decide.2 (by omega)
      have e3 : (!(l.length % 4 == 0)) = b4 := by
        rw [← hb4, bne, show (l.length : Int).tmod 4 = ((l.length % 4 : Nat) : Int) from rfl]
        congr 1
        rw [Bool.eq_iff_iff, beq_iff_eq, beq_iff_eq]
        omega
      unfold fillBad
      rw [hgn, e1, e2, e3, ← hm3, ← hm2, Bool.or_assoc]
    have HFB := Lib.hid hfb
    have HS := Lib.hid hs
    have HGL := Lib.hid hgl
    have HMAP := Lib.hid hmap
    have HWF := Lib.hid hwf
    have HCT := Lib.hid hct
    have H5 := Lib.hid h5
    have HR := Lib.hid hr
    have HQL := Lib.hid hql
    have hmv := mayV_false
    clear hs hgl hmap hwf hct h5 hg hgn hfb hr hql hq H2 i1
    go_upto_region 6 with fail
    refine wp_region_quiet (fun w' => w' = w5) 16 rfl ?_
    simp only [List.take_succ_cons, List.take_zero, List.drop_succ_cons, List.drop_zero]
    iterate 7
      with_reducible refine wpQuiet_val (v := ?_) ?_
      rotate_left 1
      intro K hK
      refine ⟨by kernel_rfl, fun w9 hw9 => ?_, ?_⟩
      · subst hw9; go_simp; try with_reducible rfl
      go_simp
      with_reducible refine hK _ ?_
      clear hK K
    iterate 2
      with_reducible refine wpQuiet_maybe m1 (v := ?_) ?_
      rotate_left 1
      intro K hK
      refine ⟨by cases m1 <;> kernel_rfl, fun hb9 w9 hw9 => ?_, ?_⟩
      · subst hw9; go_simp; try with_reducible rfl
      go_simp
      with_reducible refine hK _ ?_
      clear hK K
    with_reducible refine wpQuiet_val (v := .bool m2) ?_
    intro K hK
    refine ⟨by kernel_rfl, fun w9 hw9 => ?_, ?_⟩
    · subst hw9; cases m1 <;> (go_simp; first | done | (rw [← hm2]; rfl) | (simpa using hm2) | (simpa using hm2.symm))
    go_simp
    with_reducible refine hK _ ?_
    clear hK K
    iterate 1
      with_reducible refine wpQuiet_val (v := ?_) ?_
      rotate_left 1
      intro K hK
      refine ⟨by kernel_rfl, fun w9 hw9 => ?_, ?_⟩
      · subst hw9; go_simp; try with_reducible rfl
      go_simp
      with_reducible refine hK _ ?_
      clear hK K
    iterate 4
      with_reducible refine wpQuiet_maybe m2 (v := ?_) ?_
      rotate_left 1
      intro K hK
      refine ⟨by cases m2 <;> kernel_rfl, fun hb9 w9 hw9 => ?_, ?_⟩
      · subst hw9; go_simp; try with_reducible rfl
      go_simp
      with_reducible refine hK _ ?_
      clear hK K
    with_reducible refine wpQuiet_val (v := .bool m3) ?_
    intro K hK
    refine ⟨by kernel_rfl, fun w9 hw9 => ?_, ?_⟩
    · subst hw9; cases m2 <;> (go_simp; first | done | (rw [← hm3]; rfl) | (simpa using hm3) | (simpa using hm3.symm))
    go_simp
    with_reducible refine hK _ ?_
    clear hK K
    refine wpQuiet_nil ?_
    rintro w6 rfl
    clear hm1 hm2 hm3 hb2 hb4 hmv hwr
    have h6 := H5.out.of_eq (show _ = pts b5 (.cells sC 80) * (pts b3 (.cells zC 80) * (row (.slice oa V.length oc) V.length 34 4 (flatO V) * (argsH V * A))) by ac_rfl)
    have H6 := Lib.hid h6
    clear h6 H5
    cases m3 with
    | true =>
      have HWN := Lib.hid (show wholeR l = none by unfold wholeR; rw [HS.out]; simp only; rw [if_pos (.inl HFB.out)])
      have HST := H6
      have HIS := Lib.hid sC_is
      clear H6
      go_upto_region 7 with fail
      obtain ⟨W9, hW9⟩ : ∃ W9, w6.drew = W9 := ⟨_, rfl⟩
      have h9 := HST.out.drew
      rw [hW9] at h9
      have H9 := Lib.hid h9
      have hbk := h9.blk
      have HBK := Lib.hid hbk
      clear h9 hbk HST
      refine wp_region_tail (fun w' => w' = W9) 2 (by kernel_rfl) (by kernel_rfl) hW9 ?_
      simp only [List.take_succ_cons, List.take_zero, List.drop_succ_cons, List.drop_zero]
      clear hW9
      with_reducible refine wpQuiet_val (v := .agg sC) ?_
      intro K hK
      refine ⟨by kernel_rfl, fun w9 hw9 => ?_, ?_⟩
      · subst hw9
        exact exec_load_row 80 (.tmp 5) rfl b5 rfl 80 sC (0, 0) _ HBK.out Try.underlying80 rfl (state_size HIS.out)
      go_simp
      with_reducible refine hK _ ?_
      clear hK K
      iterate 1
        with_reducible refine wpQuiet_val (v := ?_) ?_
        rotate_left 1
        intro K hK
        refine ⟨by kernel_rfl, fun w9 hw9 => ?_, ?_⟩
        · subst hw9; go_simp; try with_reducible rfl
        go_simp
        with_reducible refine hK _ ?_
        clear hK K
      refine wpQuiet_nil ?_
      rintro w17 rfl
      refine wpList_store_row rfl 80 (.tmp 3) (.tmp 43) rfl b3 sC rfl rfl 80 zC H9.out.r.blk (state_size HIS.out) (by rw [HIS.out.size] <;> rfl) HIS.out.one ?_
      have HE := Lib.hid (Sat.setRowO (cs2 := sC) (H9.out.of_eq (show _ = pts b3 (.cells zC 80) * (pts b5 (.cells (sC) 80) * (row (.slice oa V.length oc) V.length 34 4 (flatO V) * (argsH V * A))) by ac_rfl)))
      go_wp2
      (try simp only [Exit.inBlock, Exit.then])
      refine bodyPost_ret (results_tct rfl _ _ b3 80 sC (0, 0) _ rfl HE.out.blk Try.underlying80 rfl (state_size HIS.out)) rfl ?_
      exact .inr (.inl ⟨HLE.out, HWN.out, _, sC_is, rfl, HE.out.r.r.r.r⟩)
    | false =>
      obtain ⟨AN, hAN⟩ : ∃ AN, ((l.drop q).any fun x => !(x == 223)) = AN := ⟨_, rfl⟩
      have HAN := Lib.hid hAN
      clear hAN
      go_wp2_with fail
      go_loopg [10] r (fun gg s10 wx => ∃ i : Nat, i ≤ l.length ∧ gg = l.length - i ∧ s10 = .int .i64 i ∧ ((l.drop i).any fun x => !(x == 223)) = AN ∧ wx = w6)
      case atStart => exact ⟨q, HQL.out, HR.out.symm, rfl, HAN.out, rfl⟩
      case round =>
        obtain ⟨i, hi, rfl, rfl, han, rfl⟩ := hrel
        by_cases hlt : i < l.length
        · obtain ⟨_, _, a', c', e, h3⟩ := HV.out wr H6.out.r.r.r.r
          obtain ⟨x, hx⟩ : ∃ x, l[i] = x := ⟨_, rfl⟩
          obtain ⟨g', o', e1, y0⟩ := h3 i (byteV x) (by rw [List.getElem?_map, List.getElem?_eq_getElem hlt, hx]; rfl)
          cases e
          subst e1
          rw [List.drop_eq_getElem_cons hlt, hx, List.any_cons] at han
          have j1 : (i : Int) < (l.length : Int) := by omega
          have j2 : (0 : Int) ≤ (i : Int) := by omega
          have HLT := Lib.hid hlt
          have j3 : wrap64 ((i : Int) + 1) = (i : Int) + 1 := wrap64_mid (by have := HLE.out; omega) (by have := HLE.out; omega)
          unfold byteV at y0
          by_cases hx3 : x = 223
          · have HAN2 := Lib.hid (show ((l.drop (i + 1)).any fun x => !(x == 223)) = AN by rw [← han, hx3]; simp)
            subst hx3
            have e223 : ((((223 : UInt8)).toNat : Nat) : Int) = 223 := rfl
            rw [e223] at y0
            clear h3 han hx hlt
            go_wp2
            go_roundg (l.length - (i + 1))
            case measure => have := HLT.out; omega
            case rel => exact ⟨i + 1, HLT.out, rfl, by go_num, HAN2.out, rfl⟩
          · have ht : AN = true := by rw [← han]; simp [hx3]
            have hn : ¬ ((x.toNat : Int) = 223) := fun h => hx3 (UInt8.toNat_inj.1 (by show x.toNat = 223; omega))
            have hb : ((x.toNat : Int) == 223) = false := by rw [beq_eq_false_iff_ne]; exact hn
            have hb2 : ((x.toNat : Int) != 223) = true := by rw [bne, hb]; rfl
            have HWN := Lib.hid (show wholeR l = none by
              unfold wholeR
              rw [HS.out]
              simp only
              rw [if_pos (.inr (by rw [HGL.out, HAN.out]; exact ht))])
            have HST := H6
            have HIS := Lib.hid sC_is
            clear H6 h3 han hx hlt ht hx3
            go_upto_region 12 with fail
            clear hn hb hb2 y0 j1 j2 j3
            obtain ⟨W9, hW9⟩ : ∃ W9, wr.drew = W9 := ⟨_, rfl⟩
            have h9 := HST.out.drew
            rw [hW9] at h9
            have H9 := Lib.hid h9
            have hbk := h9.blk
            have HBK := Lib.hid hbk
            clear h9 hbk HST
            refine wp_region_tail (fun w' => w' = W9) 2 (by kernel_rfl) (by kernel_rfl) hW9 ?_
            simp only [List.take_succ_cons, List.take_zero, List.drop_succ_cons, List.drop_zero]
            clear hW9
            with_reducible refine wpQuiet_val (v := .agg sC) ?_
            intro K hK
            refine ⟨by kernel_rfl, fun w9 hw9 => ?_, ?_⟩
            · subst hw9
              exact exec_load_row 80 (.tmp 5) rfl b5 rfl 80 sC (0, 0) _ HBK.out Try.underlying80 rfl (state_size HIS.out)
            go_simp
            with_reducible refine hK _ ?_
            clear hK K
            iterate 1
              with_reducible refine wpQuiet_val (v := ?_) ?_
              rotate_left 1
              intro K hK
              refine ⟨by kernel_rfl, fun w9 hw9 => ?_, ?_⟩
              · subst hw9; go_simp; try with_reducible rfl
              go_simp
              with_reducible refine hK _ ?_
              clear hK K
            refine wpQuiet_nil ?_
            rintro w17 rfl
            refine wpList_store_row rfl 80 (.tmp 3) (.tmp 56) rfl b3 sC rfl rfl 80 zC H9.out.r.blk (state_size HIS.out) (by rw [HIS.out.size] <;> rfl) HIS.out.one ?_
            have HE := Lib.hid (Sat.setRowO (cs2 := sC) (H9.out.of_eq (show _ = pts b3 (.cells zC 80) * (pts b5 (.cells (sC) 80) * (row (.slice oa V.length oc) V.length 34 4 (flatO V) * (argsH V * A))) by ac_rfl)))
            go_wp2
            (try simp only [Exit.inBlock, Exit.then])
            refine bodyPost_ret (results_tct rfl _ _ b3 80 sC (0, 0) _ rfl HE.out.blk Try.underlying80 rfl (state_size HIS.out)) rfl ?_
            exact .inr (.inl ⟨HLE.out, HWN.out, _, sC_is, rfl, HE.out.r.r.r.r⟩)
        · have hil : i = l.length := by omega
          subst hil
          rw [List.drop_length] at han
          have HFA := Lib.hid (show AN = false from han.symm)
          have j1 : ¬ ((l.length : Int) < (l.length : Int)) := by omega
          obtain ⟨RES, hRES⟩ : ∃ RES, stepsM StM.start os = RES := ⟨_, rfl⟩
          have HWR := Lib.hid (show wholeR l = RES.map fun s => (os, s) by
            unfold wholeR
            rw [HS.out]
            simp only
            rw [if_neg, hRES]
            rw [HFB.out, HGL.out, HAN.out, HFA.out]
            simp)
          have HRES := Lib.hid hRES
          have h7 := start_at (V := V) H6.out
          obtain ⟨F, hF⟩ : ∃ F, pts b3 (.cells zC 80) * (row (.slice oa V.length oc) V.length 34 4 (flatO V) * (argsH V * A)) = F := ⟨_, rfl⟩
          rw [hF] at h7
          have HF := Lib.hid hF
          have H7 := Lib.hid h7
          have HVL := Lib.hid (show V.length = os.length by rw [← HMAP.out, List.length_map])
          have HN := Lib.hid (show os.length ≤ 1048576 by
            have h1 := HCT.out
            have h2 : (feedAt l 0).l.length = l.length := by unfold feedAt; simp
            have := HLE.out
            simp only [List.length_nil] at h1
            omega)
          have HVF := Lib.hid (show ∀ w', Sat W F w' → ∀ x ∈ V, Rd w' x.2 x.1.args.length 1 (intsL x.1.args) from fun w' h x hx => by
            rw [← HF.out] at h
            exact argsH_rd h.r.r hx)
          clear han hRES h7 hF H6 hlt hi
          go_wp2_with fail
          go_loopg [11] V.length (fun gg s11 wx => ∃ (i : Nat) (s : StM), i ≤ V.length ∧ gg = V.length - i ∧ s11 = .int .i64 i ∧ s.Fits i ∧ stepsM s (os.drop i) = RES ∧ StAt W F V b5 s wx)
          case atStart => exact ⟨0, StM.start, Nat.zero_le _, rfl, rfl, start_fits, HRES.out, H7.out⟩
          case round =>
            clear H7 j1
            obtain ⟨i, s, hi, rfl, rfl, hfs, hst, hx⟩ := hrel
            have HX := Lib.hid hx
            have HFS := Lib.hid hfs
            by_cases hlt : i < V.length
            · obtain ⟨⟨o, vx⟩, hxv⟩ : ∃ x, V[i] = x := ⟨_, rfl⟩
              have hxe : V[i]? = some (o, vx) := by rw [List.getElem?_eq_getElem hlt, hxv]
              have hm : (o, vx) ∈ V := by rw [← hxv]; exact List.getElem_mem _
              have hdr : os.drop i = o :: os.drop (i + 1) := by
                rw [← HMAP.out, ← List.map_drop, List.drop_eq_getElem_cons hlt, hxv, List.map_cons, List.map_drop]
              rw [hdr, stepsM] at hst
              have how : o ∈ os := by rw [← HMAP.out]; exact List.mem_map_of_mem (f := Prod.fst) hm
              obtain ⟨hw1, hw2⟩ := HWF.out o how
              have hrow : Sat W (row (.slice oa V.length oc) V.length 34 4 (flatO V) * (argsH V * A)) wr := by
                have h := hx.sat
                rw [← HF.out] at h
                exact h.r
              obtain ⟨_, _, e, hat⟩ := hrow.row_val
              cases e
              obtain ⟨g, hoa, y0⟩ := hat (i * 4 + 0) _ ((flatO_get V i 0 _ (by decide) hxe).trans rfl)
              subst hoa
              obtain ⟨g2, hoa, y1⟩ := hat (i * 4 + 1) _ ((flatO_get V i 1 _ (by decide) hxe).trans rfl)
              cases hoa
              obtain ⟨g2, hoa, y2⟩ := hat (i * 4 + 2) _ ((flatO_get V i 2 _ (by decide) hxe).trans rfl)
              cases hoa
              obtain ⟨g2, hoa, y3⟩ := hat (i * 4 + 3) _ ((flatO_get V i 3 _ (by decide) hxe).trans rfl)
              cases hoa
              rw [Nat.add_zero] at y0
              obtain ⟨_, _, xa, xc, hvx, -⟩ := HVF.out _ hx.sat _ hm
              simp only at hvx
              subst hvx
              have hstep := step_any o (by have := HVL.out; have := HN.out; omega) hfs hw1 hw2 hm HVF.out hx
              unfold Cmd.val at hstep
              have hok2 : (s.step o).2 = true → (s.step o).1.Fits (i + 1) := hfs.step o hw1
              obtain ⟨sr, hsr⟩ : ∃ sr, s.step o = sr := ⟨_, rfl⟩
              rw [hsr] at hstep hok2 hst
              obtain ⟨s2, ok⟩ := sr
              simp only at hstep hok2 hst y0 y1 y2 y3
              have HSTEP := Lib.hid hstep
              have HOK2 := Lib.hid hok2
              have HST2 := Lib.hid hst
              have HLT := Lib.hid hlt
              have j1 : (i : Int) < (V.length : Int) := by omega
              have j2 : (0 : Int) ≤ (i : Int) := by omega
              have j3 : wrap64 ((i : Int) + 1) = (i : Int) + 1 := wrap64_mid (by have := HVL.out; have := HN.out; omega) (by have := HVL.out; have := HN.out; omega)
              clear hstep hok2 hst hlt hxv hxe hm hdr how hw1 hw2 hrow hat hsr hx hfs HX HFS
              go_wp2_with fail
              with_reducible refine Calls.mono HSTEP.out ?_
              rintro e w7 ⟨rfl, h7⟩
              have H7 := Lib.hid h7
              clear h7 HSTEP y0 y1 y2 y3
              cases ok with
              | true =>
                have hst := HST2.out
                rw [if_pos rfl] at hst
                have HST3 := Lib.hid hst
                clear hst HST2
                go_wp2
                go_roundg (V.length - (i + 1))
                case measure => have := HLT.out; omega
                case rel => exact ⟨i + 1, s2, HLT.out, rfl, by go_num, HOK2.out (by first | rfl | trivial), HST3.out, H7.out⟩
              | false =>
                have hst := HST2.out
                rw [if_neg (by simp)] at hst
                have HWN := Lib.hid (show wholeR l = none by rw [HWR.out, ← hst]; rfl)
                obtain ⟨cs, his, h8⟩ := H7.out.isSt (HVF.out _ H7.out.sat)
                rw [← HF.out] at h8
                have HIS := Lib.hid his
                have HST := Lib.hid h8
                clear hst HST2 his h8 H7 HOK2
                go_upto_region 17 with fail
                clear j1 j2 j3
                obtain ⟨W9, hW9⟩ : ∃ W9, w7.drew = W9 := ⟨_, rfl⟩
                have h9 := HST.out.drew
                rw [hW9] at h9
                have H9 := Lib.hid h9
                have hbk := h9.blk
                have HBK := Lib.hid hbk
                clear h9 hbk HST
                refine wp_region_tail (fun w' => w' = W9) 2 (by kernel_rfl) (by kernel_rfl) hW9 ?_
                simp only [List.take_succ_cons, List.take_zero, List.drop_succ_cons, List.drop_zero]
                clear hW9
                with_reducible refine wpQuiet_val (v := .agg cs) ?_
                intro K hK
                refine ⟨by kernel_rfl, fun w9 hw9 => ?_, ?_⟩
                · subst hw9
                  exact exec_load_row 80 (.tmp 5) rfl b5 rfl 80 cs (0, 0) _ HBK.out Try.underlying80 rfl (state_size HIS.out)
                go_simp
                with_reducible refine hK _ ?_
                clear hK K
                iterate 1
                  with_reducible refine wpQuiet_val (v := ?_) ?_
                  rotate_left 1
                  intro K hK
                  refine ⟨by kernel_rfl, fun w9 hw9 => ?_, ?_⟩
                  · subst hw9; go_simp; try with_reducible rfl
                  go_simp
                  with_reducible refine hK _ ?_
                  clear hK K
                refine wpQuiet_nil ?_
                rintro w17 rfl
                refine wpList_store_row rfl 80 (.tmp 3) (.tmp 69) rfl b3 cs rfl rfl 80 zC H9.out.r.blk (state_size HIS.out) (by rw [HIS.out.size] <;> rfl) HIS.out.one ?_
                have HE := Lib.hid (Sat.setRowO (cs2 := cs) (H9.out.of_eq (show _ = pts b3 (.cells zC 80) * (pts b5 (.cells (cs) 80) * (row (.slice (some ⟨g, 0, none⟩) V.length oc) V.length 34 4 (flatO V) * (argsH V * A))) by ac_rfl)))
                go_wp2
                (try simp only [Exit.inBlock, Exit.then])
                refine bodyPost_ret (results_tct rfl _ _ b3 80 cs (0, 0) _ rfl HE.out.blk Try.underlying80 rfl (state_size HIS.out)) rfl ?_
                exact .inr (.inl ⟨HLE.out, HWN.out, _, HIS.out, rfl, HE.out.r.r.r.r⟩)
            · have hil : i = V.length := by omega
              have hst2 : some s = RES := by
                rw [hil, HVL.out, List.drop_length] at hst
                exact hst
              have HW2 := Lib.hid (show wholeR l = some (os, s) by rw [HWR.out, ← hst2]; rfl)
              obtain ⟨dv, av, pv, tv, k1, k2⟩ := hx
              have h8 := k2
              rw [← HF.out] at h8
              obtain ⟨da, dc, e1, -⟩ := h8.r.row_val
              obtain ⟨aa, ac, e2, -⟩ := h8.r.r.row_val
              have HIS := Lib.hid (show IsSt (stC s dv av pv tv) from ⟨s, dv, av, pv, tv, ⟨⟨_, _, _, e1⟩, ⟨_, _, _, e2⟩, k1.1.slice (HVF.out _ k2.r.r.r), k1.2.slice (HVF.out _ k2.r.r.r)⟩, rfl⟩)
              have K1 := Lib.hid k1
              have H8 := Lib.hid h8
              have j1 : ¬ ((i : Int) < (V.length : Int)) := by omega
              clear k1 k2 h8 hst hst2 hlt HX hfs e1 e2
              go_upto_region 18 with fail
              obtain ⟨W9, hW9⟩ : ∃ W9, wr.drew = W9 := ⟨_, rfl⟩
              have h9 := H8.out.drew
              rw [hW9] at h9
              have H9 := Lib.hid h9
              have HBK := Lib.hid h9.blk
              clear h9 H8 j1
              refine wp_region_tail (fun w' => w' = W9) 3 (by kernel_rfl) (by kernel_rfl) hW9 ?_
              simp only [List.take_succ_cons, List.take_zero, List.drop_succ_cons, List.drop_zero]
              clear hW9
              iterate 1
                with_reducible refine wpQuiet_val (v := ?_) ?_
                rotate_left 1
                intro K hK
                refine ⟨by kernel_rfl, fun w9 hw9 => ?_, ?_⟩
                · subst hw9; go_simp; try with_reducible rfl
                go_simp
                with_reducible refine hK _ ?_
                clear hK K
              with_reducible refine wpQuiet_val (v := .agg (stC s dv av pv tv)) ?_
              intro K hK
              refine ⟨by kernel_rfl, fun w9 hw9 => ?_, ?_⟩
              · subst hw9
                exact exec_load_row 80 (.tmp 5) rfl b5 rfl 80 (stC s dv av pv tv) (0, 0) _ HBK.out Try.underlying80 rfl (state_size HIS.out)
              go_simp
              with_reducible refine hK _ ?_
              clear hK K
              iterate 1
                with_reducible refine wpQuiet_val (v := ?_) ?_
                rotate_left 1
                intro K hK
                refine ⟨by kernel_rfl, fun w9 hw9 => ?_, ?_⟩
                · subst hw9; go_simp; try with_reducible rfl
                go_simp
                with_reducible refine hK _ ?_
                clear hK K
              refine wpQuiet_nil ?_
              rintro w17 rfl
              have h10 := H9.out.of_eq (show _ = pts b3 (.cells zC 80) * (pts b5 (stO s dv av pv tv) * (row (.slice oa V.length oc) V.length 34 4 (flatO V) * (argsH V * (row dv s.defs.length 57 5 (flatD s.defs) * (row av s.again.length 57 5 (flatD s.again) * A))))) by ac_rfl)
              refine wpList_store_row rfl 80 (.tmp 3) (.tmp 71) rfl b3 (stC s dv av pv tv) rfl rfl 80 zC h10.blk (state_size HIS.out) (by rw [HIS.out.size] <;> rfl) HIS.out.one ?_
              have HE := Lib.hid (Sat.setRowO (cs2 := stC s dv av pv tv) h10)
              clear h10
              go_wp2
              (try simp only [Exit.inBlock, Exit.then])
              refine bodyPost_ret (results_tct rfl _ _ b3 80 (stC s dv av pv tv) (0, 0) _ rfl HE.out.blk Try.underlying80 rfl (state_size HIS.out)) rfl ?_
              exact .inr (.inr ⟨HLE.out, os, s, V, oa, oc, dv, av, pv, tv, HW2.out, HMAP.out, K1.out, ⟨_, HFS.out⟩, rfl, HE.out.r.r⟩)

end Go.Proofs.Ytjeinldhbajknaa
