
/-
  What the law of no table needs: a value given, a meaning, values compared, calls that can be read. Conditions: those that each theorem names.
-/
import Derived.Test.YtebggkgciocciaaGreatTabT
import Derived.Test.YtebggkgciocciaaGreatSameT
import Derived.Deep.MidRow
namespace Go.Proofs.YtebggkgciocciaaGreat
open Go.RowKit Go.Sp
variable {W w w' : World} {F A : HProp}

set_option maxRecDepth 100000 in
theorem meaning_any (m : Mean) (w : World) : Calls Tryz.prog 14 #[m.val] w fun e w' => e = .returned m.val ∧ Ext w w' := by
  obtain ⟨m1, m2, m3, m4, m5⟩ := m
  go_enter Tryz.func14, Tryz.ntmps14
  go_wp2
  (try simp only [Exit.inBlock, Exit.then])
  exact bodyPost_ret (by unfold results; go_simp) rfl ⟨rfl, (Ext.refl w).alloc.alloc⟩

set_option maxRecDepth 100000 in
set_option maxHeartbeats 4000000 in
theorem given_any (v : RegS) (s : Value) (w : World) (hr : RdT w s v.toks) (hl : v.toks.length ≤ 1000000000) :
    Calls Tryz.prog 7 #[valA v s] w fun e w' => ∃ u, e = .returned (valA v u) ∧ Sat w (rowT u v.toks * own w) w' := by
  obtain ⟨i0, hi, hz0, hz1, hz2⟩ := info_parts3 info_tok
  have HI := Lib.hid hi
  have HZ0 := Lib.hid hz0
  have HZ1 := Lib.hid hz1
  have HZ2 := Lib.hid hz2
  obtain ⟨sa, sc, rfl⟩ := hr.val
  have HR := Lib.hid hr
  obtain ⟨n, ⟨g1, g2, g3, g4, g5⟩, L⟩ := v
  simp only [valA] at *
  obtain ⟨k, hk⟩ : ∃ k, L.length = k := ⟨_, rfl⟩
  rw [hk] at HR hl
  rw [hk]
  have HKK := Lib.hid hk
  clear hi hz0 hz1 hz2 hr hk
  go_enter Tryz.func7, Tryz.ntmps7
  go_upto_region 1 with fail
  have hs := ((Sat.start w).alloc (.cells #[.int .i64 n, .int .i64 g1, .int .i64 g2, .int .i64 g3, .int .i64 g4, .int .i64 g5, .slice sa k sc] 38)).alloc (.cells #[.int .i64 0, .int .i64 0, .int .i64 0, .int .i64 0, .int .i64 0, .int .i64 0, .slice none 0 0] 29)
  rw [show (w.alloc (.cells #[.int .i64 n, .int .i64 g1, .int .i64 g2, .int .i64 g3, .int .i64 g4, .int .i64 g5, .slice sa k sc] 38)).heap.size = w.heap.size + 1 by simp] at hs
  obtain ⟨bz, hbz⟩ : ∃ bz, w.heap.size = bz := ⟨_, rfl⟩
  rw [hbz] at hs
  rw [hbz]
  have HS := Lib.hid (hs.of_eq (show _ = pts bz (.cells #[.int .i64 n, .int .i64 g1, .int .i64 g2, .int .i64 g3, .int .i64 g4, .int .i64 g5, .slice sa k sc] 38) * (pts (bz + 1) (.cells #[.int .i64 0, .int .i64 0, .int .i64 0, .int .i64 0, .int .i64 0, .int .i64 0, .slice none 0 0] 29) * own w) by ac_rfl))
  generalize (w.alloc (.cells #[.int .i64 n, .int .i64 g1, .int .i64 g2, .int .i64 g3, .int .i64 g4, .int .i64 g5, .slice sa k sc] 38)).alloc (.cells #[.int .i64 0, .int .i64 0, .int .i64 0, .int .i64 0, .int .i64 0, .int .i64 0, .slice none 0 0] 29) = W1 at *
  clear hs hbz
  obtain ⟨C, hC⟩ : ∃ C : World → Prop, C = fun w' => ∃ X, Sat w (pts bz (.cells #[.int .i64 n, .int .i64 g1, .int .i64 g2, .int .i64 g3, .int .i64 g4, .int .i64 g5, .slice sa k sc] 38) * X) w' := ⟨_, rfl⟩
  have HC := Lib.hid (show ∀ w', C w' → w'.cell? ⟨bz, 0, none⟩ = some (.int .i64 n) ∧ w'.cell? ⟨bz, 1, none⟩ = some (.int .i64 g1) ∧ w'.cell? ⟨bz, 2, none⟩ = some (.int .i64 g2) ∧ w'.cell? ⟨bz, 3, none⟩ = some (.int .i64 g3) ∧ w'.cell? ⟨bz, 4, none⟩ = some (.int .i64 g4) ∧ w'.cell? ⟨bz, 5, none⟩ = some (.int .i64 g5) ∧ w'.cell? ⟨bz, 6, none⟩ = some (.slice sa k sc) from fun w' h => by
    rw [hC] at h
    obtain ⟨X, h⟩ := h
    exact ⟨h.cell rfl, h.cell rfl, h.cell rfl, h.cell rfl, h.cell rfl, h.cell rfl, h.cell rfl⟩)
  have HC2 := Lib.hid (show ∀ X w', Sat w (pts bz (.cells #[.int .i64 n, .int .i64 g1, .int .i64 g2, .int .i64 g3, .int .i64 g4, .int .i64 g5, .slice sa k sc] 38) * X) w' → C w' from fun X w' h => by rw [hC]; exact ⟨X, h⟩)
  clear hC
  have HD := Lib.hid HS.out.drew
  clear HS
  refine wp_region_E C (by kernel_rfl) ?_
  generalize W1.drew = W2 at *
  refine wpE_take (i := 0) (q := 9) (v := ?_) rfl (by kernel_rfl) (by kernel_rfl) (by kernel_rfl) (by kernel_rfl) (by kernel_rfl) (fun _ _ _ h => h) (by rfl) ?_ ?_
  rotate_left 1
  · intro w hw; go_simp; try with_reducible rfl
  refine wpE_take (i := 1) (q := 9) (v := ?_) rfl (by kernel_rfl) (by kernel_rfl) (by kernel_rfl) (by kernel_rfl) (by kernel_rfl) (fun _ _ _ h => h) (by rfl) ?_ ?_
  rotate_left 1
  · intro w hw; (obtain ⟨e0, e1, e2, e3, e4, e5, e6⟩ := HC.out _ hw; go_simp; try with_reducible rfl)
  refine wpE_take (i := 2) (q := 9) (v := ?_) rfl (by kernel_rfl) (by kernel_rfl) (by kernel_rfl) (by kernel_rfl) (by kernel_rfl) (fun _ _ _ h => h) (by rfl) ?_ ?_
  rotate_left 1
  · intro w hw; go_simp; try with_reducible rfl
  refine wpE_take (i := 3) (q := 9) (v := ?_) rfl (by kernel_rfl) (by kernel_rfl) (by kernel_rfl) (by kernel_rfl) (by kernel_rfl) (fun _ _ _ h => h) (by rfl) ?_ ?_
  rotate_left 1
  · intro w hw; (obtain ⟨e0, e1, e2, e3, e4, e5, e6⟩ := HC.out _ hw; go_simp; try with_reducible rfl)
  refine wpE_take (i := 5) (q := 9) (v := ?_) rfl (by kernel_rfl) (by kernel_rfl) (by kernel_rfl) (by kernel_rfl) (by kernel_rfl) (fun _ _ _ h => h) (by rfl) ?_ ?_
  rotate_left 1
  · intro w hw; go_simp; try with_reducible rfl
  refine wpE_take (i := 6) (q := 9) (v := ?_) rfl (by kernel_rfl) (by kernel_rfl) (by kernel_rfl) (by kernel_rfl) (by kernel_rfl) (fun _ _ _ h => h) (by rfl) ?_ ?_
  rotate_left 1
  · intro w hw; (obtain ⟨e0, e1, e2, e3, e4, e5, e6⟩ := HC.out _ hw; go_simp; try with_reducible rfl)
  refine wpE_one (i := 4) rfl (by kernel_rfl) (HC2.out _ _ HD.out) (fun K hK => ?_)
  go_simp
  refine hK _ _ ?_
  clear hK K
  have H3 := Lib.hid (row_empty HD.out)
  have HRD := Lib.hid (HR.out.ext H3.out.r.r.r.toExt)
  clear HD
  refine wpE_one (i := 7) rfl (by kernel_rfl) (HC2.out _ _ H3.out.r) (fun K hK => ?_)
  refine step_append_rd rfl _ _ 27 rfl i0 _ 32 Tryz.underlying27 HI.out HZ0.out HZ1.out HZ2.out rfl (by omega) rfl H3.out (.slice sa k sc) k (flat L) rfl (by have := HRD.out.1; rw [HKK.out] at this; exact this) (flat_one L) (by simp [maxLen]; omega) (by omega) ?_
  intro v1 w3 h9 _
  simp only [Nat.zero_add, List.nil_append] at h9
  have h10 : Sat w (rowT v1 L * (pts bz (.cells #[.int .i64 n, .int .i64 g1, .int .i64 g2, .int .i64 g3, .int .i64 g4, .int .i64 g5, .slice sa k sc] 38) * (pts (bz + 1) (.cells #[.int .i64 0, .int .i64 0, .int .i64 0, .int .i64 0, .int .i64 0, .int .i64 0, .slice none 0 0] 29) * own w))) w3 := by
    unfold rowT
    rw [HKK.out]
    exact h9
  obtain ⟨va, vc, rfl⟩ := h10.rowT_value
  rw [HKK.out] at h10
  have H10 := Lib.hid h10
  clear h9 h10 H3 HRD
  rw [HKK.out]
  go_simp
  refine hK _ _ ?_
  clear hK K
  refine wpE_take (i := 8) (q := 9) (v := ?_) rfl (by kernel_rfl) (by kernel_rfl) (by kernel_rfl) (by kernel_rfl) (by kernel_rfl) (fun _ _ _ h => h) (by rfl) ?_ ?_
  rotate_left 1
  · intro w hw; go_simp; try with_reducible rfl
  have x0 := H10.out.r.r.cell (i := 0) rfl
  have x1 := H10.out.r.r.cell (i := 1) rfl
  have x2 := H10.out.r.r.cell (i := 2) rfl
  have x3 := H10.out.r.r.cell (i := 3) rfl
  have x4 := H10.out.r.r.cell (i := 4) rfl
  have x5 := H10.out.r.r.cell (i := 5) rfl
  have x6 := H10.out.r.r.cell (i := 6) rfl
  have f0 := H10.out.r.r.free (i := 0)
  have f1 := H10.out.r.r.free (i := 1)
  have f2 := H10.out.r.r.free (i := 2)
  have f3 := H10.out.r.r.free (i := 3)
  have f4 := H10.out.r.r.free (i := 4)
  have f5 := H10.out.r.r.free (i := 5)
  have f6 := H10.out.r.r.free (i := 6)
  have lx := H10.out.r.r.lt
  refine wpE_one (i := 9) rfl (by kernel_rfl) (HC2.out _ _ H10.out.r) (fun K hK => ?_)
  go_simp
  have h11 := sat_set7 (H10.out.of_eq (show _ = pts (bz + 1) (.cells #[.int .i64 0, .int .i64 0, .int .i64 0, .int .i64 0, .int .i64 0, .int .i64 0, .slice none 0 0] 29) * (rowT (.slice va k vc) L * (pts bz (.cells #[.int .i64 n, .int .i64 g1, .int .i64 g2, .int .i64 g3, .int .i64 g4, .int .i64 g5, .slice sa k sc] 38) * own w)) by ac_rfl)) (.int .i64 n) (.int .i64 g1) (.int .i64 g2) (.int .i64 g3) (.int .i64 g4) (.int .i64 g5) (.slice va k vc)
  have H11 := Lib.hid h11
  have z0 := h11.cell (i := 0) rfl
  have z1 := h11.cell (i := 1) rfl
  have z2 := h11.cell (i := 2) rfl
  have z3 := h11.cell (i := 3) rfl
  have z4 := h11.cell (i := 4) rfl
  have z5 := h11.cell (i := 5) rfl
  have z6 := h11.cell (i := 6) rfl
  refine hK _ _ ?_
  clear hK K h11
  refine wpE_done (by kernel_rfl) (by kernel_rfl) ?_
  go_wp2
  (try simp only [Exit.inBlock, Exit.then])
  refine bodyPost_ret (v := .agg #[.int .i64 n, .int .i64 g1, .int .i64 g2, .int .i64 g3, .int .i64 g4, .int .i64 g5, .slice va k vc]) (by unfold results; go_simp) rfl ?_
  exact ⟨_, rfl, H11.out.r.of_eq (by ac_rfl) |>.rot.r.of_eq (by ac_rfl)⟩

structure OpS where
  kind : Int
  cls : Int
  i : Int
  n : Int
  name : ByteArray
  m : Mean
  v : RegS
  x : Tok
  glob : Bool
abbrev OpS.cells (o : OpS) (s : Value) : Array Value := #[.int .i64 o.kind, .int .i64 o.cls, .int .i64 o.i, .int .i64 o.n, .string o.name, .int .i64 o.m.kind, .int .i64 o.m.cls, .int .i64 o.m.code, .int .i64 o.m.cat, .string o.m.text,
  .int .i64 o.v.n, .int .i64 o.v.g.nat, .int .i64 o.v.g.stretch, .int .i64 o.v.g.shrink, .int .i64 o.v.g.so, .int .i64 o.v.g.ko, s, .int .i64 o.x.cat, .int .u8 o.x.chr.toNat, .string o.x.name, .bool o.glob]
abbrev OpS.val (o : OpS) (s : Value) : Value := .agg (o.cells s)

theorem run_eq_glue2 (w : World) (g : Gl) : (Op.equalIn 10000 26 g.val g.val).run Tryz.prog w = .ok true w := by
  obtain ⟨a, b, c, d, e⟩ := g
  go_simp
theorem run_eql_glue2 (w : World) (g : Gl) : (binOp .eql 26 g.val g.val).run Tryz.prog w = .ok (.bool true) w := by
  simp only [binOp]
  simp [Op.equal, Op.maxDepth, run_eq_glue2 w g]

set_option maxRecDepth 100000 in
set_option maxHeartbeats 4000000 in
theorem same_yes (v : RegS) (u s : Value) (w : World) (hu : RdT w u v.toks) (hs : RdT w s v.toks) :
    Calls Tryz.prog 26 #[valA v u, valA v s] w fun e w' => e = .returned (.bool true) ∧ Ext w w' := by
  obtain ⟨ua, uc, rfl⟩ := hu.val
  obtain ⟨sa, sc, rfl⟩ := hs.val
  have HU := Lib.hid hu
  have HS := Lib.hid hs
  obtain ⟨n, ⟨g1, g2, g3, g4, g5⟩, L⟩ := v
  simp only [valA] at *
  have q1 := fun w => run_eql_glue2 w ⟨g1, g2, g3, g4, g5⟩
  simp only [Gl.val] at q1
  obtain ⟨k, hk⟩ : ∃ k, L.length = k := ⟨_, rfl⟩
  simp only [hk] at HU HS ⊢
  have hx : Ext w ((w.alloc (.cells #[.int .i64 n, .int .i64 g1, .int .i64 g2, .int .i64 g3, .int .i64 g4, .int .i64 g5, .slice ua k uc] 29)).alloc (.cells #[.int .i64 n, .int .i64 g1, .int .i64 g2, .int .i64 g3, .int .i64 g4, .int .i64 g5, .slice sa k sc] 38)) := (Ext.refl w).alloc.alloc
  have HX := Lib.hid hx
  have HC := Lib.hid (sameT_any L L (.slice ua k uc) (.slice sa k sc) _ (HU.out.ext hx) (HS.out.ext hx))
  rw [show decide (L = L) = true from decide_eq_true rfl] at HC
  clear hu hs hk hx
  go_enter Tryz.func26, Tryz.ntmps26
  go_wp2_with fail
  refine Calls.mono HC.out ?_
  rintro e w2 ⟨rfl, q, rfl⟩
  have H2 := Lib.hid (HX.out.drewN (n := q))
  go_wp2
  go_ret
  exact ⟨rfl, H2.out⟩

/-- a list of calls that can be read, each with the slice of its value's tokens -/
structure RdO (w : World) (v : Value) (L : List (OpS × Value)) : Prop where
  val : ∃ a cap, v = .slice a L.length cap ∧ ∀ (k : Nat) (h : k < L.length), ∃ b off, a = some ⟨b, off, none⟩ ∧ ∀ (j : Nat) (u : Value), (L[k].1.cells L[k].2)[j]? = some u → w.cell? ⟨b, off + k * 21 + j, none⟩ = some u
  toks : ∀ x ∈ L, RdT w x.2 x.1.v.toks
  len : ∀ x ∈ L, x.1.v.toks.length ≤ 1000000000

end Go.Proofs.YtebggkgciocciaaGreat
