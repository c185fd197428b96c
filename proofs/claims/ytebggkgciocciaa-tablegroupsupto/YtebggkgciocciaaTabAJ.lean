
/-
  The law's own: a register that is none, values that are the same. Conditions: those that each theorem names.
-/
import Derived.Test.YtebggkgciocciaaTabAI
namespace Go.Proofs.Ytebggkgciocciaa
open Go.RowKit Go.Sp
variable {W w w' : World} {F A : HProp}

set_option maxRecDepth 100000 in
set_option maxHeartbeats 4000000 in
theorem get_no {b N : Nat} {S : TabS} {c i : Int} (hw : wrongE c i ≠ 0) (h : TabAt W F b N S w) :
    Calls Try.prog 19 #[.pointer (some ⟨b, 0, none⟩), .int .i64 c, .int .i64 i] w fun e w' => ∃ er, er ≠ 0 ∧ e = .returned (.tuple #[.agg #[.int .i64 0, .int .i64 0, .int .i64 0, .int .i64 0, .int .i64 0, .int .i64 0, .slice none 0 0], .int .i64 er]) ∧ TabAt W F b N S w' := by
  have hb := h.allocX (.cells #[.int .i64 0, .int .i64 0, .int .i64 0, .int .i64 0, .int .i64 0, .int .i64 0, .slice none 0 0] 40)
  obtain ⟨bz, hbz⟩ : ∃ bz, w.heap.size = bz := ⟨_, rfl⟩
  rw [hbz] at hb
  have HW := Lib.hid (wrong_any c i hb)
  obtain ⟨er, her⟩ : ∃ er, wrongE c i = er := ⟨_, rfl⟩
  rw [her] at HW hw
  have q1 : (er == 0) = false := by rw [beq_eq_false_iff_ne]; exact hw
  have HER := Lib.hid hw
  obtain ⟨Y, hs0, back⟩ := hb.focus
  have BACK := Lib.hid back
  have hs1 := hs0.asc
  have x0 := hs1.cell (i := 0) rfl
  have x1 := hs1.cell (i := 1) rfl
  have x2 := hs1.cell (i := 2) rfl
  have x3 := hs1.cell (i := 3) rfl
  have x4 := hs1.cell (i := 4) rfl
  have x5 := hs1.cell (i := 5) rfl
  have x6 := hs1.cell (i := 6) rfl
  have f0 := hs1.free (i := 0)
  have f1 := hs1.free (i := 1)
  have f2 := hs1.free (i := 2)
  have f3 := hs1.free (i := 3)
  have f4 := hs1.free (i := 4)
  have f5 := hs1.free (i := 5)
  have f6 := hs1.free (i := 6)
  have lx := hs1.lt
  have hs2 := sat_set7 hs1 (.int .i64 0) (.int .i64 0) (.int .i64 0) (.int .i64 0) (.int .i64 0) (.int .i64 0) (.slice none 0 0)
  have HS2 := Lib.hid hs2
  clear h hb her hw hs0 hs1 hs2 back
  go_enter Try.func19, Try.ntmps19
  go_wp2_with fail
  refine Calls.mono HW.out ?_
  rintro e w' ⟨rfl, rfl⟩
  generalize w.alloc (.cells #[.int .i64 0, .int .i64 0, .int .i64 0, .int .i64 0, .int .i64 0, .int .i64 0, .slice none 0 0] 40) = W1 at *
  go_wp2
  (try simp only [Exit.inBlock, Exit.then])
  refine bodyPost_ret (v := .tuple #[.agg #[.int .i64 0, .int .i64 0, .int .i64 0, .int .i64 0, .int .i64 0, .int .i64 0, .slice none 0 0], .int .i64 er]) (by unfold results; go_simp) rfl ?_
  exact ⟨er, HER.out, rfl, (BACK.out _ _ HS2.out.asc').less⟩

theorem run_eq_glue2 (w : World) (g : Gl) : (Op.equalIn 10000 38 g.val g.val).run Try.prog w = .ok true w := by
  obtain ⟨a, b, c, d, e⟩ := g
  go_simp
theorem run_eql_glue2 (w : World) (g : Gl) : (binOp .eql 38 g.val g.val).run Try.prog w = .ok (.bool true) w := by
  simp only [binOp]
  simp [Op.equal, Op.maxDepth, run_eq_glue2 w g]

set_option maxRecDepth 100000 in
set_option maxHeartbeats 4000000 in
theorem same_yes (v : RegS) (u s : Value) (w : World) (hu : RdT w u v.toks) (hs : RdT w s v.toks) :
    Calls Try.prog 25 #[valA v u, valA v s] w fun e w' => e = .returned (.bool true) ∧ Ext w w' := by
  obtain ⟨ua, uc, rfl⟩ := hu.val
  obtain ⟨sa, sc, rfl⟩ := hs.val
  have HU := Lib.hid hu
  have HS := Lib.hid hs
  obtain ⟨n, ⟨g1, g2, g3, g4, g5⟩, L⟩ := v
  simp only [valA] at *
  have q1 := fun w => run_eql_glue2 w ⟨g1, g2, g3, g4, g5⟩
  simp only [Gl.val] at q1
  obtain ⟨k, hk⟩ : ∃ k, L.length = k := ⟨_, rfl⟩
  simp only [hk] at HU HS ⊢
  have hx : Ext w ((w.alloc (.cells #[.int .i64 n, .int .i64 g1, .int .i64 g2, .int .i64 g3, .int .i64 g4, .int .i64 g5, .slice ua k uc] 40)).alloc (.cells #[.int .i64 n, .int .i64 g1, .int .i64 g2, .int .i64 g3, .int .i64 g4, .int .i64 g5, .slice sa k sc] 48)) := (Ext.refl w).alloc.alloc
  have HX := Lib.hid hx
  have HC := Lib.hid (sameT_any L L (.slice ua k uc) (.slice sa k sc) _ (HU.out.ext hx) (HS.out.ext hx))
  rw [show decide (L = L) = true from decide_eq_true rfl] at HC
  clear hu hs hk hx
  go_enter Try.func25, Try.ntmps25
  go_wp2_with fail
  refine Calls.mono HC.out ?_
  rintro e w2 ⟨rfl, q, rfl⟩
  have H2 := Lib.hid (HX.out.drewN (n := q))
  go_wp2
  go_ret
  exact ⟨rfl, H2.out⟩

end Go.Proofs.Ytebggkgciocciaa
