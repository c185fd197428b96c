import Derived.Test.YticljfpippbkkaaMNKY
import Derived.Test.YticljfpippbkkaaMTS
import Derived.Deep.LoopGhost
/-
  NumbersLists, the walk. Conditions: those that each theorem names.
-/
namespace Go.Proofs.Yticljfpippbkkaa
open Go.RowKit Go.Sp
variable {W w w' : World} {F A : HProp}

theorem flat_set (L : List Tok) (t : Tok) : ∀ i, i < L.length → flat (L.set i t) = (((flat L).set (i * 3) (.int .i64 t.cat)).set (i * 3 + 1) (.int .u8 t.chr.toNat)).set (i * 3 + 2) (.string t.name) := by
  induction L with
  | nil => intro i h; simp at h
  | cons x L ih =>
    intro i h
    cases i with
    | zero => rfl
    | succ i =>
      have e1 : (i + 1) * 3 = i * 3 + 3 := by omega
      rw [List.set_cons_succ, flat_cons, ih i (by simpa using h), flat_cons, e1]
      simp only [Tok.cells, List.cons_append, List.nil_append, List.set_cons_succ, Nat.add_assoc, Nat.reduceAdd]
theorem rowT_at {a : Option Addr} {n c i : Nat} {L : List Tok} (h : Sat W (rowT (.slice a n c) L * F) w) (hi : i < L.length) :
    ∃ g, a = some ⟨g, 0, none⟩ ∧ n = L.length ∧ At w g (i * 3) L[i] ∧ (∀ j, w.frozen? ⟨g, j, none⟩ = false) ∧ g < w.heap.size := by
  have hr := rowT_rd h
  obtain ⟨b, off, rfl, hat, hb⟩ := hr.at hi
  obtain ⟨hn, _⟩ := hr.cap
  obtain ⟨_, hc⟩ := h.row_cases
  rcases hc with ⟨h0, _⟩ | ⟨g, cap, cur, h0, _⟩
  · simp at h0
  · simp only [Value.slice.injEq, Option.some.injEq, Addr.mk.injEq, and_true] at h0
    obtain ⟨⟨rfl, rfl⟩, rfl, rfl⟩ := h0
    exact ⟨b, rfl, rfl, by simpa using hat, fun j => Sat.row_free h, hb⟩
theorem rowT_set {g n c i : Nat} {L : List Tok} (h : Sat W (rowT (.slice (some ⟨g, 0, none⟩) n c) L * F) w) (hi : i < L.length) (t : Tok) :
    Sat W (rowT (.slice (some ⟨g, 0, none⟩) n c) (L.set i t) * F) (((w.setCell ⟨g, i * 3, none⟩ (.int .i64 t.cat)).setCell ⟨g, i * 3 + 1, none⟩ (.int .u8 t.chr.toNat)).setCell ⟨g, i * 3 + 2, none⟩ (.string t.name)) := by
  have hn : n = L.length := (rowT_rd h).cap.1
  unfold rowT at h ⊢
  rw [List.length_set, flat_set L t i hi]
  rw [← hn] at h ⊢
  exact ((h.row_set).row_set).row_set

set_option maxRecDepth 100000 in
theorem next_nil (w : World) : Calls Try.prog 9 #[.pointer none] w fun e w' => e = .returned (.tuple #[.agg #[.int .i64 0, .int .u8 0, .string ⟨#[]⟩], .bool false]) ∧ Ext w w' := by
  have h1 := (Sat.start w).alloc zTok
  have H1 := Lib.hid h1
  obtain ⟨b, hb⟩ : ∃ b, w.heap.size = b := ⟨_, rfl⟩
  rw [hb] at H1
  obtain ⟨w1, hw1⟩ : ∃ w1, w.alloc zTok = w1 := ⟨_, rfl⟩
  rw [hw1] at H1
  have e0 := H1.out.cell (i := 0) rfl
  have e1 := H1.out.cell (i := 1) rfl
  have e2 := H1.out.cell (i := 2) rfl
  have f0 := H1.out.free (i := 0)
  have f1 := H1.out.free (i := 1)
  have f2 := H1.out.free (i := 2)
  have fl := H1.out.lt
  have h4 := ((H1.out.set (i := 0) (v := .int .i64 0)).set (i := 1) (v := .int .u8 0)).set (i := 2) (v := .string ⟨#[]⟩)
  have H4 := Lib.hid (show Sat w (pts b zTok * own w) _ from h4)
  clear h1 h4 H1
  go_enter Try.func9, Try.ntmps9
  go_upto_region 1 with fail
  (try rw [hw1])
  (try rw [hb])
  clear hb hw1
  go_wp2
  clear e0 e1 e2 f0 f1 f2 fl
  have c0 := H4.out.cell (i := 0) rfl
  have c1 := H4.out.cell (i := 1) rfl
  have c2 := H4.out.cell (i := 2) rfl
  have fl := H4.out.lt
  refine bodyPost_ret (v := .tuple #[.agg #[.int .i64 0, .int .u8 0, .string ⟨#[]⟩], .bool false]) (by unfold results; go_simp) rfl ⟨rfl, H4.out.r.toExt⟩
set_option maxRecDepth 100000 in
theorem back_nil (w : World) : Calls Try.prog 8 #[.pointer none, .agg #[.int .i64 11, .int .u8 0, .string ⟨#[]⟩]] w fun e w' => e = .returned (.tuple #[]) ∧ Ext w w' := by
  have HX := Lib.hid ((Ext.refl w).alloc (o := (.cells #[.int .i64 11, .int .u8 0, .string ⟨#[]⟩] 28)))
  go_enter Try.func8, Try.ntmps8
  go_wp2
  exact bodyPost_end (v := .tuple #[]) (by unfold results; go_simp) rfl ⟨rfl, HX.out⟩
theorem rest_nil (w : World) : Calls Try.prog 10 #[.pointer none] w fun e w' => e = .returned (.slice none 0 0) ∧ w = w' := by
  go_enter Try.func10, Try.ntmps10
  go_wp2
  go_ret
  exact ⟨rfl, rfl⟩
/-- a list that nobody made -/
def NoL (w : World) (b : Nat) : Prop := w.cell? ⟨b, 0, none⟩ = some (.slice none 0 0) ∧ w.cell? ⟨b, 1, none⟩ = some (.bool false)
theorem NoL.ext {b : Nat} (h : NoL w b) (k : Ext w w') : NoL w' b := ⟨k.cell h.1, k.cell h.2⟩
set_option maxRecDepth 100000 in
theorem next_zero {b : Nat} (h : NoL w b) : Calls Try.prog 9 #[.pointer (some ⟨b, 0, none⟩)] w fun e w' => e = .returned (.tuple #[.agg #[.int .i64 0, .int .u8 0, .string ⟨#[]⟩], .bool false]) ∧ Ext w w' := by
  have h1 := (Sat.start w).alloc zTok
  have c0 := (h.ext h1.r.toExt).1
  have H1 := Lib.hid h1
  obtain ⟨b2, hb⟩ : ∃ b, w.heap.size = b := ⟨_, rfl⟩
  rw [hb] at H1
  obtain ⟨w1, hw1⟩ : ∃ w1, w.alloc zTok = w1 := ⟨_, rfl⟩
  rw [hw1] at H1 c0
  have e0 := H1.out.cell (i := 0) rfl
  have e1 := H1.out.cell (i := 1) rfl
  have e2 := H1.out.cell (i := 2) rfl
  have f0 := H1.out.free (i := 0)
  have f1 := H1.out.free (i := 1)
  have f2 := H1.out.free (i := 2)
  have fl := H1.out.lt
  have h4 := ((H1.out.set (i := 0) (v := .int .i64 0)).set (i := 1) (v := .int .u8 0)).set (i := 2) (v := .string ⟨#[]⟩)
  have H4 := Lib.hid (show Sat w (pts b2 zTok * own w) _ from h4)
  clear h1 h4 H1 h
  go_enter Try.func9, Try.ntmps9
  go_upto_region 1 with fail
  (try rw [hw1])
  (try rw [hb])
  clear hb hw1
  go_wp2
  clear c0 e0 e1 e2 f0 f1 f2 fl
  have c0 := H4.out.cell (i := 0) rfl
  have c1 := H4.out.cell (i := 1) rfl
  have c2 := H4.out.cell (i := 2) rfl
  have fl := H4.out.lt
  refine bodyPost_ret (v := .tuple #[.agg #[.int .i64 0, .int .u8 0, .string ⟨#[]⟩], .bool false]) (by unfold results; go_simp) rfl ⟨rfl, H4.out.r.toExt⟩
set_option maxRecDepth 100000 in
theorem back_zero {b : Nat} (h : NoL w b) : Calls Try.prog 8 #[.pointer (some ⟨b, 0, none⟩), .agg #[.int .i64 11, .int .u8 0, .string ⟨#[]⟩]] w fun e w' => e = .returned (.tuple #[]) ∧ Ext w w' := by
  have h1 := (Ext.refl w).alloc (o := (.cells #[.int .i64 11, .int .u8 0, .string ⟨#[]⟩] 28))
  have HX := Lib.hid h1
  obtain ⟨w1, hw1⟩ : ∃ w1, w.alloc (.cells #[.int .i64 11, .int .u8 0, .string ⟨#[]⟩] 28) = w1 := ⟨_, rfl⟩
  have c1 := (h.ext h1).2
  rw [hw1] at HX c1
  clear h1 h
  go_enter Try.func8, Try.ntmps8
  go_upto_region 1 with fail
  (try rw [hw1])
  clear hw1
  go_wp2
  exact bodyPost_end (v := .tuple #[]) (by unfold results; go_simp) rfl ⟨rfl, HX.out⟩
set_option maxRecDepth 100000 in
theorem rest_zero {b : Nat} (h : NoL w b) : Calls Try.prog 10 #[.pointer (some ⟨b, 0, none⟩)] w fun e w' => ∃ a c, e = .returned (.slice a 0 c) ∧ Ext w w' := by
  have c0 := h.1
  have HC := Lib.hid (clone_big (.slice none 0 0) [] (W := w) (A := own w) (w := w) (fun w' _ => RdT.empty _ _ _) (by decide) (Sat.start w))
  clear h
  go_enter Try.func10, Try.ntmps10
  go_wp2_with fail
  with_reducible refine Calls.mono HC.out ?_
  rintro e w1 ⟨u, rfl, h1⟩
  obtain ⟨ua, uc, hu⟩ := (rowT_rd h1).val
  subst hu
  have X1 := Lib.hid h1.r.toExt
  clear h1 HC
  simp only [List.length_nil]
  go_wp2
  go_ret
  exact ⟨_, _, rfl, X1.out⟩
end Go.Proofs.Yticljfpippbkkaa

/-
  NumbersLists, the walk. Conditions: those that each theorem names.
-/
namespace Go.Proofs.Yticljfpippbkkaa
open Go.RowKit Go.Sp
variable {W w w' : World} {L M : List Tok}

theorem run_neq_tok0 (w : World) : (binOp .neq 28 (.agg #[.int .i64 0, .int .u8 0, .string ⟨#[]⟩]) (.agg #[.int .i64 0, .int .u8 0, .string ⟨#[]⟩])).run Try.prog w = .ok (.bool false) w := by
  have := run_neq w tok0 tok0
  simpa [Tok.val] using this

theorem row_one {x : Tok} {F : HProp} (h : Sat W F w) : Sat W (row (.slice (some ⟨w.heap.size, 0, none⟩) 1 1) 1 28 3 x.cells * F) (w.alloc (.cells #[.int .i64 x.cat, .int .u8 x.chr.toNat, .string x.name] 28)) :=
  (h.alloc (.cells #[.int .i64 x.cat, .int .u8 x.chr.toNat, .string x.name] 28)).row_whole 1 (size := 3) (by simp [maxLen]) (by simp)
set_option maxRecDepth 1000000 in
set_option maxHeartbeats 8000000 in
theorem lists_ext {v u : Value} (z : Int) (hv : RdT W v L) (hu : RdT W u M) (hl : L.length + M.length ≤ 1048576) :
    Calls Try.prog 3 #[v, .int .i64 z, u] W fun e w' => e = .returned (.bool true) ∧ Ext W w' := by
  obtain ⟨va, vc, hvv, hvc⟩ := hv.capd
  subst hvv
  obtain ⟨ua, uc, huu, huc⟩ := hu.capd
  subst huu
  have hb := (Sat.start W).alloc (lsO (.slice none 0 0) false)
  obtain ⟨bz, hbb⟩ : ∃ b, W.heap.size = b := ⟨_, rfl⟩
  obtain ⟨W1, hW1⟩ : ∃ W1, W.alloc (lsO (.slice none 0 0) false) = W1 := ⟨_, rfl⟩
  rw [hbb, hW1] at hb
  have HE := Lib.hid hb.r.toExt
  have HNL := Lib.hid (show ∀ w', Ext W1 w' → NoL w' bz from fun w' h => NoL.ext ⟨hb.cell rfl, hb.cell rfl⟩ h)
  obtain ⟨k, hk⟩ : ∃ k, L.length = k := ⟨_, rfl⟩
  have HK := Lib.hid hk
  obtain ⟨m, hm⟩ : ∃ m, M.length = m := ⟨_, rfl⟩
  have HM := Lib.hid hm
  rw [hk] at hv hl hvc
  rw [hm] at hu hl huc
  rw [hk, hm]
  have HV := Lib.hid (show ∀ w', Sat W1 (own W1) w' → RdT w' (.slice va k vc) L from fun w' h => hv.ext (HE.out.trans h.toExt))
  have HU := Lib.hid (show ∀ w', Sat W1 (own W1) w' → RdT w' (.slice ua m uc) M from fun w' h => hu.ext (HE.out.trans h.toExt))
  have HVC := Lib.hid hvc
  have hn0 := run_neq_tok0
  clear hb hv hu hk hm hvc huc
  go_enter Try.func3, Try.ntmps3
  go_upto_region 3 with fail
  (try rw [hW1])
  (try rw [hbb])
  clear hW1 hbb
  go_wp2_with fail
  with_reducible refine Calls.mono (back_nil W1) ?_
  rintro e w1 ⟨rfl, x1⟩
  have X1 := Lib.hid x1
  clear x1
  go_wp2_with fail
  with_reducible refine Calls.mono (next_nil w1) ?_
  rintro e w2 ⟨rfl, x2⟩
  have X2 := Lib.hid ((X1.out.trans x2).alloc (o := zTok))
  clear x2 X1
  go_wp2_with fail
  with_reducible refine Calls.mono (rest_nil _) ?_
  rintro e w3 ⟨rfl, rfl⟩
  obtain ⟨w3, hw3⟩ : ∃ w3, w2.alloc zTok = w3 := ⟨_, rfl⟩
  rw [hw3] at X2
  (try rw [show w2.alloc (.cells #[.int .i64 0, .int .u8 0, .string ⟨#[]⟩] 28) = w3 from hw3])
  clear hw3
  have HKN := Lib.hid (nknows_any (Sat.ext (Sat.start W1) X2.out))
  clear X2
  go_wp2_with fail
  with_reducible refine Calls.mono HKN.out ?_
  rintro e w4 ⟨rfl, h4⟩
  have X4 := Lib.hid h4.toExt
  have HN := Lib.hid (next_zero (HNL.out _ X4.out))
  clear h4 HKN
  go_wp2_with fail
  with_reducible refine Calls.mono HN.out ?_
  rintro e w5 ⟨rfl, x5⟩
  have X5 := Lib.hid ((X4.out.trans x5).alloc (o := zTok))
  clear X4 HN x5
  go_upto_region 8 with fail
  obtain ⟨w6, hw6⟩ : ∃ w6, w5.alloc zTok = w6 := ⟨_, rfl⟩
  obtain ⟨b11, hb11⟩ : ∃ b, w5.heap.size = b := ⟨_, rfl⟩
  have hs6 := (Sat.start w5).alloc zTok
  rw [hw6, hb11] at hs6
  rw [hw6] at X5
  (try rw [show w5.alloc (.cells #[.int .i64 0, .int .u8 0, .string ⟨#[]⟩] 28) = w6 from hw6])
  (try rw [hb11])
  have HS6 := Lib.hid hs6
  have HB := Lib.hid (back_zero (HNL.out _ X5.out))
  clear hw6 hb11 hs6
  go_wp2_with fail
  with_reducible refine Calls.mono HB.out ?_
  rintro e w7 ⟨rfl, x7⟩
  have X7 := Lib.hid (X5.out.trans x7)
  have hs7 := HS6.out.ext x7
  have d0 := hs7.cell (i := 0) rfl
  have d1 := hs7.cell (i := 1) rfl
  have d2 := hs7.cell (i := 2) rfl
  have ld := hs7.lt
  have HR := Lib.hid (rest_zero (HNL.out _ X7.out))
  clear x7 X5 HB HS6 hs7 HNL
  go_wp2_with fail
  with_reducible refine Calls.mono HR.out ?_
  rintro e w8 ⟨ra, rc, rfl, x8⟩
  have X8 := Lib.hid (X7.out.trans x8)
  clear x8 X7 HR d0 d1 d2 ld
  have HLI := Lib.hid (glist_any (W := W1) (v := .slice va k vc) (L := L) (A := own W1) HV.out (by have := HK.out; omega) (Sat.ext (Sat.start W1) X8.out))
  clear X8 hn0
  go_wp2_with fail
  with_reducible refine Calls.mono HLI.out ?_
  rintro e w9 ⟨bs, rfl, h9⟩
  have H9 := Lib.hid h9
  clear h9 HLI
  obtain ⟨q, hq⟩ : ∃ q, z.tmod ((k : Int) + 1) = q := ⟨_, rfl⟩
  have hqb : -((k : Int) + 1) < q ∧ q < (k : Int) + 1 := by
    rw [← hq]
    exact ⟨Int.lt_tmod_of_pos _ (by omega), Int.tmod_lt_of_pos _ (by omega)⟩
  obtain ⟨n, hn⟩ : ∃ n : Nat, (q + (k : Int) + 1).tmod ((k : Int) + 1) = n := by
    refine ⟨((q + (k : Int) + 1).tmod ((k : Int) + 1)).toNat, ?_⟩
    have h0 : 0 ≤ (q + (k : Int) + 1).tmod ((k : Int) + 1) := Int.tmod_nonneg _ (by omega)
    omega
  have hnk : n ≤ k := by
    have := Int.tmod_lt_of_pos (q + (k : Int) + 1) (show 0 < (k : Int) + 1 by omega)
    omega
  have e0 : wrap64 ((k : Int) + 1) = (k : Int) + 1 := wrap64_id _ (by omega) (by omega)
  have e1 : wrap64 q = q := wrap64_id _ (by omega) (by omega)
  have e2 : wrap64 (q + (k : Int)) = q + (k : Int) := wrap64_id _ (by omega) (by omega)
  have e3 : wrap64 (q + (k : Int) + 1) = q + (k : Int) + 1 := wrap64_id _ (by omega) (by omega)
  have e4 : wrap64 (n : Int) = n := wrap64_id _ (by omega) (by omega)
  have ez : ¬ (k : Int) + 1 = 0 := by omega
  have HNK := Lib.hid hnk
  clear hqb hnk
  go_wp2_with fail
  clear e0 e1 e2 e3 e4 ez hq hn
  go_loopg [15] n (fun gg s15 wx => ∃ i : Nat, i ≤ n ∧ gg = n - i ∧ s15 = .int .i64 i ∧ LsAt W1 (own W1) bs (L.drop i) wx)
  case atStart => exact ⟨0, by omega, rfl, by go_num, H9.out⟩
  case round =>
    obtain ⟨i, hi, hg, rfl, hx⟩ := hrel
    have HX := Lib.hid hx
    clear hx H9
    by_cases hlt : i < n
    · have hil : i < L.length := by rw [HK.out]; have := HNK.out; omega
      obtain ⟨⟨xc, xk, xn⟩, hxt⟩ : ∃ x, L[i] = x := ⟨_, rfl⟩
      have HD := Lib.hid (show L.drop i = ⟨xc, xk, xn⟩ :: L.drop (i + 1) by rw [List.drop_eq_getElem_cons hil, hxt])
      have HXT := Lib.hid hxt
      have hx := HX.out
      rw [HD.out] at hx
      have HNX := Lib.hid (lsnext_some hx)
      have i1 : (i : Int) < (n : Int) := by omega
      clear hx hxt HX
      go_wp2_with fail
      with_reducible refine Calls.mono HNX.out ?_
      rintro e w2 ⟨rfl, h2⟩
      have h3 := h2.alloc (Tok.box ⟨xc, xk, xn⟩)
      clear h2 HNX HD
      unfold Tok.val
      go_upto_region 17 with fail
      obtain ⟨w3, hw3⟩ : ∃ w3, w2.alloc (Tok.box ⟨xc, xk, xn⟩) = w3 := ⟨_, rfl⟩
      obtain ⟨b16, hb16⟩ : ∃ b, w2.heap.size = b := ⟨_, rfl⟩
      rw [hw3, hb16] at h3
      (try rw [show w2.alloc (.cells #[.int .i64 xc, .int .u8 xk.toNat, .string xn] 28) = w3 from hw3])
      (try rw [hb16])
      clear hw3 hb16
      have d0 := h3.sat.cell (i := 0) rfl
      have d1 := h3.sat.cell (i := 1) rfl
      have d2 := h3.sat.cell (i := 2) rfl
      have ld := h3.sat.lt
      have H3 := Lib.hid h3.less
      obtain ⟨g, o, hga, hat, hgl⟩ := (HK.out ▸ HV.out _ H3.out.sat : RdT w3 (.slice va k vc) L).at hil
      subst hga
      rw [HXT.out] at hat
      have a0 := hat.c0
      have a1 := hat.c1
      have a2 := hat.c2
      have j1 : (i : Int) < (k : Int) := by have := HNK.out; omega
      have hrun := fun w => run_neq w ⟨xc, xk, xn⟩ ⟨xc, xk, xn⟩
      simp only [decide_true, Bool.not_true] at hrun
      unfold Tok.val at hrun
      clear h3 hat hil HXT
      go_wp2
      go_quiet (fail)
      go_wp2
      go_roundg (n - (i + 1))
      case measure => omega
      case rel => exact ⟨i + 1, by omega, rfl, by go_num, H3.out.ext (drewN_ext _ _)⟩
    · have hin : n = i := by omega
      subst hin
      have H10 := Lib.hid HX.out
      clear HX
      obtain ⟨vs, hvs⟩ : ∃ vs, (if vc = n then va else va.map (·.add (n * 3))) = vs := ⟨_, rfl⟩
      have HVS := Lib.hid (show ∀ w', Sat W1 (own W1) w' → RdT w' (.slice vs (k - n) (vc - n)) (L.drop n) from fun w' h => by
        have h1 := RdT.dropI (HV.out w' h) (m := n) (by rw [HK.out]; exact HNK.out)
        unfold sliced at h1
        rw [hvs] at h1
        exact h1)
      obtain ⟨r, hr⟩ : ∃ r, k - n = r := ⟨_, rfl⟩
      obtain ⟨X0, hX0⟩ : ∃ X, L.drop n = X := ⟨_, rfl⟩
      have HXL := Lib.hid (show X0.length = r by rw [← hX0, List.length_drop, HK.out, hr])
      rw [hX0, hr] at HVS
      rw [hX0] at H10
      have hrk : r ≤ k := by omega
      have i2 : (n : Int) ≤ (k : Int) := by have := HNK.out; omega
      have i3 : (k : Int) ≤ (vc : Int) := by have := HVC.out; omega
      obtain ⟨Y, h2, back⟩ := H10.out.focus
      have BACK := Lib.hid back
      have H := Lib.hid (row_empty h2)
      have HRD := Lib.hid (HVS.out _ (row_empty h2).r.l)
      obtain ⟨i0, hi0, hz0, hz1, hz2⟩ := info_parts3 info_tok
      have HI := Lib.hid hi0
      have HZ0 := Lib.hid hz0
      have HZ1 := Lib.hid hz1
      have HZ2 := Lib.hid hz2
      clear h2 back H10 hX0 hi0 hz0 hz1 hz2 hg hlt
      go_wp2_with (at_builtin; refine wpList_append_rd rfl _ _ 22 rfl i0 _ 32 Try.underlying22 HI.out HZ0.out HZ1.out HZ2.out rfl (by omega) rfl H.out (.slice vs r (vc - n)) X0.length (flat X0) rfl HRD.out.1 (flat_one X0) (by have := HXL.out; simp [maxLen]; omega) (by have := HXL.out; omega) ?_)
      intro v1 w1 h3
      have h4 := BACK.out (rowT v1 X0 * own W1) w1 ((show Sat W1 (rowT v1 X0 * (own W1 * Y)) w1 by unfold rowT; simpa using h3).of_eq (by ac_rfl))
      have H4 := Lib.hid h4
      clear h3 h4 BACK H HRD hvs
      go_wp2_with fail
      go_loopg [18, 19] m (fun gg s18 s19 wx => ∃ (j : Nat) (X : List Tok), j ≤ m ∧ gg = m - j ∧ s19 = .int .i64 j ∧ X.length + (m - j) ≤ 1048576 ∧ LsAt W1 (rowT s18 X * own W1) bs X wx)
      case atStart => exact ⟨0, X0, by omega, rfl, by go_num, by have := HXL.out; omega, H4.out⟩
      case round =>
        obtain ⟨j, X, hj, hg, rfl, hXl, hx⟩ := hrel
        have HXX := Lib.hid hXl
        have HX := Lib.hid hx
        obtain ⟨sa, sc, hs⟩ := (rowT_rd hx.sat).val
        subst hs
        clear hx hXl H4
        by_cases hlt : j < m
        · have hjl : j < M.length := by rw [HM.out]; exact hlt
          obtain ⟨⟨xc, xk, xn⟩, hxt⟩ : ∃ x, M[j] = x := ⟨_, rfl⟩
          have HXT := Lib.hid hxt
          obtain ⟨g, o, hga, hat, hgl⟩ := (HM.out ▸ HU.out _ HX.out.sat.r : RdT wr (.slice ua m uc) M).at hjl
          subst hga
          rw [hxt] at hat
          have a0 := hat.c0
          have a1 := hat.c1
          have a2 := hat.c2
          have j1 : (j : Int) < (m : Int) := by omega
          have HBK := Lib.hid (show Calls Try.prog 8 #[.pointer (some ⟨bs, 0, none⟩), .agg #[.int .i64 xc, .int .u8 xk.toNat, .string xn]] wr fun e w' => e = .returned (.tuple #[]) ∧ LsAt W1 (rowT (.slice sa X.length sc) X * own W1) bs (⟨xc, xk, xn⟩ :: X) w' from lsback_any ⟨xc, xk, xn⟩ (by have := HXX.out; omega) HX.out)
          clear hxt hat HX
          go_wp2_with fail
          with_reducible refine Calls.mono HBK.out ?_
          rintro e w2 ⟨rfl, h2⟩
          obtain ⟨_, _, hga, hat, hgl2⟩ := (HM.out ▸ HU.out _ h2.sat.r : RdT w2 (.slice (some ⟨g, o, none⟩) m uc) M).at hjl
          cases hga
          rw [HXT.out] at hat
          clear a0 a1 a2 hgl
          have a0 := hat.c0
          have a1 := hat.c1
          have a2 := hat.c2
          obtain ⟨Y2, h3, back2⟩ := h2.focus
          have BACK2 := Lib.hid back2
          have H := Lib.hid (row_one (x := ⟨xc, xk, xn⟩) h3)
          have HRD := Lib.hid (rowT_rd H.out.r.l)
          clear h2 hat h3 back2 HXT hjl HBK
          go_wp2_with (at_builtin; refine wpList_append_rd rfl _ _ 22 rfl i0 _ 32 Try.underlying22 HI.out HZ0.out HZ1.out HZ2.out rfl (by omega) rfl H.out (.slice sa X.length sc) X.length (flat X) rfl HRD.out.1 (flat_one X) (by have := HXX.out; simp [maxLen]; omega) (by have := HXX.out; omega) ?_)
          intro v2 w3 h4
          have h5 := rowT_one h4 (X := ⟨xc, xk, xn⟩ :: X) (by simp only [List.length_cons]; omega) rfl
          have h6 := BACK2.out (rowT v2 (⟨xc, xk, xn⟩ :: X) * (rowT (.slice sa X.length sc) X * own W1)) w3 (h5.of_eq (by ac_rfl))
          have H6 := Lib.hid (h6.of_eq (show _ = rowT (.slice sa X.length sc) X * (rowT v2 (⟨xc, xk, xn⟩ :: X) * own W1) by ac_rfl)).less
          clear h4 h5 h6 BACK2 H HRD a0 a1 a2 hgl2
          go_wp2
          go_roundg (m - (j + 1))
          case measure => omega
          case rel => exact ⟨j + 1, ⟨xc, xk, xn⟩ :: X, by omega, rfl, by go_num, by have := HXX.out; simp only [List.length_cons]; omega, H6.out⟩
        · have hjm : m = j := by omega
          subst hjm
          have HR := Lib.hid (lsrest_any (by have := HXX.out; omega) HX.out)
          clear HX hlt hj
          go_wp2_with fail
          with_reducible refine Calls.mono HR.out ?_
          rintro e w2 ⟨u2, rfl, h2⟩
          obtain ⟨ra, rc, hs2⟩ := (rowT_rd h2.sat).val
          subst hs2
          have HS := Lib.hid (sameT_any X X _ _ w2 (rowT_rd h2.sat) (rowT_rd h2.sat.r))
          rw [show decide (X = X) = true by simp] at HS
          have H2 := Lib.hid h2
          clear h2 HR
          go_wp2_with fail
          with_reducible refine Calls.mono HS.out ?_
          rintro e w3 ⟨rfl, q3, hq3⟩
          have H3 := Lib.hid (show LsAt W1 _ bs X w3 from hq3 ▸ H2.out.ext (drewN_ext _ _))
          clear H2 HS hq3
          go_wp2_with fail
          go_loopg [21] X.length (fun gg s21 wx => ∃ (i : Nat) (Z : List Tok), i ≤ X.length ∧ gg = X.length - i ∧ s21 = .int .i64 i ∧ Z.length = X.length ∧ LsAt W1 (rowT (.slice ra X.length rc) Z * (rowT (.slice sa X.length sc) X * own W1)) bs X wx)
          case atStart => exact ⟨0, X, by omega, rfl, by go_num, rfl, H3.out⟩
          case round =>
            obtain ⟨i, Z, hi2, hg2, rfl, hZ, hx⟩ := hrel
            have HZ := Lib.hid hZ
            have HX := Lib.hid hx
            clear hx hZ H3
            by_cases hlt : i < X.length
            · obtain ⟨Y3, h3, back3⟩ := HX.out.focus
              have h4 := h3.of_eq (show _ = rowT (.slice ra X.length rc) Z * ((rowT (.slice sa X.length sc) X * own W1) * Y3) by ac_rfl)
              have BACK3 := Lib.hid back3
              obtain ⟨g, hqa, -, ⟨c0, c1, c2⟩, hf, hgb⟩ := rowT_at h4 (i := i) (by rw [HZ.out]; exact hlt)
              subst hqa
              have f0 := hf (i * 3)
              have f1 := hf (i * 3 + 1)
              have f2 := hf (i * 3 + 2)
              have HS := Lib.hid (rowT_set h4 (i := i) (by rw [HZ.out]; exact hlt) ⟨99, 0, ByteArray.empty⟩)
              have j1 : (i : Int) < (X.length : Int) := by omega
              have hxl : X.length ≤ 1048576 := by have := HXX.out; omega
              clear h3 h4 back3 hf HX
              go_wp2
              go_roundg (X.length - (i + 1))
              case measure => omega
              case rel => exact ⟨i + 1, Z.set i ⟨99, 0, ByteArray.empty⟩, by omega, rfl, by go_num, by rw [List.length_set]; exact HZ.out, BACK3.out _ _ (HS.out.of_eq (by ac_rfl))⟩
            · have hie : X.length = i := by omega
              have j1 : ¬ (i : Int) < (X.length : Int) := by omega
              have HR := Lib.hid (lsrest_any (by have := HXX.out; omega) HX.out)
              clear HX hlt hi2 hg2 hie
              go_wp2_with fail
              with_reducible refine Calls.mono HR.out ?_
              rintro e w2 ⟨u4, rfl, h2⟩
              obtain ⟨ta, tc, hs4⟩ := (rowT_rd h2.sat).val
              subst hs4
              have HS := Lib.hid (sameT_any X X _ _ w2 (rowT_rd h2.sat) (rowT_rd h2.sat.r.r))
              rw [show decide (X = X) = true by simp] at HS
              have HX2 := Lib.hid (HE.out.trans h2.sat.r.r.r.toExt)
              clear h2 HR
              go_wp2_with fail
              with_reducible refine Calls.mono HS.out ?_
              rintro e w3 ⟨rfl, q3, hq3⟩
              have HX3 := Lib.hid (show Ext W w3 from hq3 ▸ HX2.out.trans (drewN_ext _ _))
              clear hq3 HX2 HS
              go_wp2
              go_ret
              exact ⟨rfl, HX3.out⟩
end Go.Proofs.Yticljfpippbkkaa
