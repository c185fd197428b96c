
/-
  A table: Advance, Multiply, Divide. Conditions: those that each theorem names.
-/
import Derived.Test.YtebggkgciocciaaTabY
namespace Go.Proofs.Ytebggkgciocciaa
open Go.RowKit Go.Sp
variable {W w w' : World} {F A : HProp}

/-- what a closure hands back: a value without tokens, an error; for a class other than skips the number is known -/
def CloR (c : Int) (z er0 : Int) (r : RegS) (er : Int) : Prop := r.toks = [] ∧ (c ≠ 3 → r = ⟨z, ⟨0, 0, 0, 0, 0⟩, []⟩ ∧ er = er0)

set_option maxRecDepth 100000 in
set_option maxHeartbeats 4000000 in
theorem adv3_any {b6 b8 : Nat} {old : RegS} {u : Value} {v : RegS} {s : Value} (h8 : ValAt w b8 v s) (hr : RdT w u old.toks) (h6 : w.cell? ⟨b6, 0, none⟩ = some (.int .i64 3)) :
    Calls Try.prog 37 #[valA old u, .pointer (some ⟨b6, 0, none⟩), .pointer (some ⟨b8, 0, none⟩)] w fun e w' => ∃ r er, e = .returned (.tuple #[valA r (.slice none 0 0), .int .i64 er]) ∧ r.toks = [] ∧ Ext w w' := by
  obtain ⟨ua, uc, rfl⟩ := hr.val
  obtain ⟨zn, ⟨g1, g2, g3, g4, g5⟩, L⟩ := old
  simp only [valA]
  have l6 := World.block_lt_of_cell? _ _ h6
  obtain ⟨k, hk⟩ : ∃ k, L.length = k := ⟨_, rfl⟩
  rw [hk]
  have hs := ((Sat.start w).alloc (.cells #[.int .i64 zn, .int .i64 g1, .int .i64 g2, .int .i64 g3, .int .i64 g4, .int .i64 g5, .slice ua k uc] 40)).alloc (.cells #[.int .i64 0, .int .i64 0, .int .i64 0, .int .i64 0, .int .i64 0, .int .i64 0, .slice none 0 0] 40)
  rw [show (w.alloc (.cells #[.int .i64 zn, .int .i64 g1, .int .i64 g2, .int .i64 g3, .int .i64 g4, .int .i64 g5, .slice ua k uc] 40)).heap.size = w.heap.size + 1 by simp] at hs
  obtain ⟨bz, hbz⟩ : ∃ bz, w.heap.size = bz := ⟨_, rfl⟩
  rw [hbz] at hs l6
  have HS := Lib.hid hs
  clear hr hs hk
  (obtain ⟨n, ⟨n1, n2, n3, n4, n5⟩, M⟩ := v); obtain ⟨p0, p1, p2, p3, p4, p5, p6, -⟩ := h8; have lp := hbz ▸ World.block_lt_of_cell? _ _ p0; simp only at p0 p1 p2 p3 p4 p5
  go_enter Try.func37, Try.ntmps37
  go_wp2_with fail
  refine Calls.mono (plus_any ⟨_, _, _, _, _⟩ ⟨_, _, _, _, _⟩ _) ?_
  rintro e w1 ⟨⟨⟨t1, t2, t3, t4, t5⟩, er, rfl⟩, hx⟩
  have H2 := Lib.hid ((HS.out.ext hx).alloc (glO t1 t2 t3 t4 t5))
  obtain ⟨bn, hbn⟩ : ∃ bn, w1.heap.size = bn := ⟨_, rfl⟩
  rw [hbn] at H2
  have x0 := H2.out.r.cell (i := 0) rfl
  have x1 := H2.out.r.cell (i := 1) rfl
  have x2 := H2.out.r.cell (i := 2) rfl
  have x3 := H2.out.r.cell (i := 3) rfl
  have x4 := H2.out.r.cell (i := 4) rfl
  have x5 := H2.out.r.cell (i := 5) rfl
  have x6 := H2.out.r.cell (i := 6) rfl
  have f0 := H2.out.r.free (i := 0)
  have f1 := H2.out.r.free (i := 1)
  have f2 := H2.out.r.free (i := 2)
  have f3 := H2.out.r.free (i := 3)
  have f4 := H2.out.r.free (i := 4)
  have f5 := H2.out.r.free (i := 5)
  have f6 := H2.out.r.free (i := 6)
  have lx := H2.out.r.lt
  obtain ⟨z0, z1, z2, z3, z4, -, -, -, -, -, lz⟩ := glAt H2.out
  have HZ := Lib.hid (sat_set7 H2.out.r (.int .i64 0) (.int .i64 t1) (.int .i64 t2) (.int .i64 t3) (.int .i64 t4) (.int .i64 t5) (.slice none 0 0))
  go_upto_region 3 with fail
  generalize w1.alloc (.cells #[.int .i64 t1, .int .i64 t2, .int .i64 t3, .int .i64 t4, .int .i64 t5] 38) = W2 at *
  clear hx HS hbn hbz
  go_wp2
  (try simp only [Exit.inBlock, Exit.then])
  refine bodyPost_ret (v := .tuple #[.agg #[.int .i64 0, .int .i64 t1, .int .i64 t2, .int .i64 t3, .int .i64 t4, .int .i64 t5, .slice none 0 0], .int .i64 er]) ?rh rfl ⟨⟨0, ⟨t1, t2, t3, t4, t5⟩, []⟩, er, rfl, rfl, HZ.out.r.r.toExt⟩
  case rh => unfold results; go_simp

set_option maxRecDepth 100000 in
set_option maxHeartbeats 4000000 in
theorem mul3_any {b6 b8 : Nat} {old : RegS} {u : Value} {n : Int} (h8 : w.cell? ⟨b8, 0, none⟩ = some (.int .i64 n)) (hr : RdT w u old.toks) (h6 : w.cell? ⟨b6, 0, none⟩ = some (.int .i64 3)) :
    Calls Try.prog 40 #[valA old u, .pointer (some ⟨b6, 0, none⟩), .pointer (some ⟨b8, 0, none⟩)] w fun e w' => ∃ r er, e = .returned (.tuple #[valA r (.slice none 0 0), .int .i64 er]) ∧ r.toks = [] ∧ Ext w w' := by
  obtain ⟨ua, uc, rfl⟩ := hr.val
  obtain ⟨zn, ⟨g1, g2, g3, g4, g5⟩, L⟩ := old
  simp only [valA]
  have l6 := World.block_lt_of_cell? _ _ h6
  obtain ⟨k, hk⟩ : ∃ k, L.length = k := ⟨_, rfl⟩
  rw [hk]
  have hs := ((Sat.start w).alloc (.cells #[.int .i64 zn, .int .i64 g1, .int .i64 g2, .int .i64 g3, .int .i64 g4, .int .i64 g5, .slice ua k uc] 40)).alloc (.cells #[.int .i64 0, .int .i64 0, .int .i64 0, .int .i64 0, .int .i64 0, .int .i64 0, .slice none 0 0] 40)
  rw [show (w.alloc (.cells #[.int .i64 zn, .int .i64 g1, .int .i64 g2, .int .i64 g3, .int .i64 g4, .int .i64 g5, .slice ua k uc] 40)).heap.size = w.heap.size + 1 by simp] at hs
  obtain ⟨bz, hbz⟩ : ∃ bz, w.heap.size = bz := ⟨_, rfl⟩
  rw [hbz] at hs l6
  have HS := Lib.hid hs
  clear hr hs hk
  have l8 := hbz ▸ World.block_lt_of_cell? _ _ h8
  go_enter Try.func40, Try.ntmps40
  go_wp2_with fail
  refine Calls.mono (timesG_any ⟨_, _, _, _, _⟩ _ _) ?_
  rintro e w1 ⟨⟨⟨t1, t2, t3, t4, t5⟩, er, rfl⟩, hx⟩
  have H2 := Lib.hid ((HS.out.ext hx).alloc (glO t1 t2 t3 t4 t5))
  obtain ⟨bn, hbn⟩ : ∃ bn, w1.heap.size = bn := ⟨_, rfl⟩
  rw [hbn] at H2
  have x0 := H2.out.r.cell (i := 0) rfl
  have x1 := H2.out.r.cell (i := 1) rfl
  have x2 := H2.out.r.cell (i := 2) rfl
  have x3 := H2.out.r.cell (i := 3) rfl
  have x4 := H2.out.r.cell (i := 4) rfl
  have x5 := H2.out.r.cell (i := 5) rfl
  have x6 := H2.out.r.cell (i := 6) rfl
  have f0 := H2.out.r.free (i := 0)
  have f1 := H2.out.r.free (i := 1)
  have f2 := H2.out.r.free (i := 2)
  have f3 := H2.out.r.free (i := 3)
  have f4 := H2.out.r.free (i := 4)
  have f5 := H2.out.r.free (i := 5)
  have f6 := H2.out.r.free (i := 6)
  have lx := H2.out.r.lt
  obtain ⟨z0, z1, z2, z3, z4, -, -, -, -, -, lz⟩ := glAt H2.out
  have HZ := Lib.hid (sat_set7 H2.out.r (.int .i64 0) (.int .i64 t1) (.int .i64 t2) (.int .i64 t3) (.int .i64 t4) (.int .i64 t5) (.slice none 0 0))
  go_upto_region 3 with fail
  generalize w1.alloc (.cells #[.int .i64 t1, .int .i64 t2, .int .i64 t3, .int .i64 t4, .int .i64 t5] 38) = W2 at *
  clear hx HS hbn hbz
  go_wp2
  (try simp only [Exit.inBlock, Exit.then])
  refine bodyPost_ret (v := .tuple #[.agg #[.int .i64 0, .int .i64 t1, .int .i64 t2, .int .i64 t3, .int .i64 t4, .int .i64 t5, .slice none 0 0], .int .i64 er]) ?rh rfl ⟨⟨0, ⟨t1, t2, t3, t4, t5⟩, []⟩, er, rfl, rfl, HZ.out.r.r.toExt⟩
  case rh => unfold results; go_simp

set_option maxRecDepth 100000 in
set_option maxHeartbeats 4000000 in
theorem div3_any {b6 b8 : Nat} {old : RegS} {u : Value} {n : Int} (hn : (n == 0) = false) (h8 : w.cell? ⟨b8, 0, none⟩ = some (.int .i64 n)) (hr : RdT w u old.toks) (h6 : w.cell? ⟨b6, 0, none⟩ = some (.int .i64 3)) :
    Calls Try.prog 42 #[valA old u, .pointer (some ⟨b8, 0, none⟩), .pointer (some ⟨b6, 0, none⟩)] w fun e w' => ∃ r er, e = .returned (.tuple #[valA r (.slice none 0 0), .int .i64 er]) ∧ r.toks = [] ∧ Ext w w' := by
  obtain ⟨ua, uc, rfl⟩ := hr.val
  obtain ⟨zn, ⟨g1, g2, g3, g4, g5⟩, L⟩ := old
  simp only [valA]
  have l6 := World.block_lt_of_cell? _ _ h6
  obtain ⟨k, hk⟩ : ∃ k, L.length = k := ⟨_, rfl⟩
  rw [hk]
  have hs := ((Sat.start w).alloc (.cells #[.int .i64 zn, .int .i64 g1, .int .i64 g2, .int .i64 g3, .int .i64 g4, .int .i64 g5, .slice ua k uc] 40)).alloc (.cells #[.int .i64 0, .int .i64 0, .int .i64 0, .int .i64 0, .int .i64 0, .int .i64 0, .slice none 0 0] 40)
  rw [show (w.alloc (.cells #[.int .i64 zn, .int .i64 g1, .int .i64 g2, .int .i64 g3, .int .i64 g4, .int .i64 g5, .slice ua k uc] 40)).heap.size = w.heap.size + 1 by simp] at hs
  obtain ⟨bz, hbz⟩ : ∃ bz, w.heap.size = bz := ⟨_, rfl⟩
  rw [hbz] at hs l6
  have HS := Lib.hid hs
  clear hr hs hk
  have l8 := hbz ▸ World.block_lt_of_cell? _ _ h8
  go_enter Try.func42, Try.ntmps42
  go_wp2_with fail
  refine Calls.mono (over_any ⟨_, _, _, _, _⟩ _ _) ?_
  rintro e w1 ⟨⟨⟨t1, t2, t3, t4, t5⟩, er, rfl⟩, hx⟩
  have H2 := Lib.hid ((HS.out.ext hx).alloc (glO t1 t2 t3 t4 t5))
  obtain ⟨bn, hbn⟩ : ∃ bn, w1.heap.size = bn := ⟨_, rfl⟩
  rw [hbn] at H2
  have x0 := H2.out.r.cell (i := 0) rfl
  have x1 := H2.out.r.cell (i := 1) rfl
  have x2 := H2.out.r.cell (i := 2) rfl
  have x3 := H2.out.r.cell (i := 3) rfl
  have x4 := H2.out.r.cell (i := 4) rfl
  have x5 := H2.out.r.cell (i := 5) rfl
  have x6 := H2.out.r.cell (i := 6) rfl
  have f0 := H2.out.r.free (i := 0)
  have f1 := H2.out.r.free (i := 1)
  have f2 := H2.out.r.free (i := 2)
  have f3 := H2.out.r.free (i := 3)
  have f4 := H2.out.r.free (i := 4)
  have f5 := H2.out.r.free (i := 5)
  have f6 := H2.out.r.free (i := 6)
  have lx := H2.out.r.lt
  obtain ⟨z0, z1, z2, z3, z4, -, -, -, -, -, lz⟩ := glAt H2.out
  have HZ := Lib.hid (sat_set7 H2.out.r (.int .i64 0) (.int .i64 t1) (.int .i64 t2) (.int .i64 t3) (.int .i64 t4) (.int .i64 t5) (.slice none 0 0))
  go_upto_region 5 with fail
  generalize w1.alloc (.cells #[.int .i64 t1, .int .i64 t2, .int .i64 t3, .int .i64 t4, .int .i64 t5] 38) = W2 at *
  clear hx HS hbn hbz
  go_wp2
  (try simp only [Exit.inBlock, Exit.then])
  refine bodyPost_ret (v := .tuple #[.agg #[.int .i64 0, .int .i64 t1, .int .i64 t2, .int .i64 t3, .int .i64 t4, .int .i64 t5, .slice none 0 0], .int .i64 er]) ?rh rfl ⟨⟨0, ⟨t1, t2, t3, t4, t5⟩, []⟩, er, rfl, rfl, HZ.out.r.r.toExt⟩
  case rh => unfold results; go_simp

end Go.Proofs.Ytebggkgciocciaa
