/-
  Match: what its deferred call does. Conditions: those that each theorem names.
-/
import Derived.Test.YtlbebcioabfbgaaMacM
import Derived.Recover
import Derived.Defers
namespace Go.Proofs.Ytlbebcioabfbgaa
open Go.RowKit Go.Sp
variable {W w w' : World} {F : HProp}

/-- the three named results -/
def Res (c4 c5 c6 : Nat) (va vu ve : Value) : HProp := pts c4 (.cells #[va] 39 (0, 0)) * (pts c5 (.cells #[vu] 3 (0, 0)) * pts c6 (.cells #[ve] 26 (0, 0)))

theorem catch_idle (c4 c5 c6 : Nat) (w : World) :
    CallsD Try.prog 46 #[.pointer (some ⟨c4, 0, none⟩), .pointer (some ⟨c5, 0, none⟩), .pointer (some ⟨c6, 0, none⟩)] .returning w fun e u' w' => e = .returned (.tuple #[]) ∧ u' = .returning ∧ w' = w := by
  refine callsD_of_wpS Try.func46 rfl fun c₀ cs hu => ?_
  apply wpS_seq
  apply wpS_region
  simp [wpOpsS, go_sem, recoverD, hu, Try.ntmps46, Exit.thenS]
  refine wpS_of_wp ?_
  go_wp2
  cases c₀
  simp_all [bodyPostS, results, Try.results46]

theorem assert_any (k : Int) (w : World) : (Instr.typeAssert (.iface 26 (.int .i64 k)) 20 26 false).run Try.prog w = .ok (.int .i64 k) w := by kernel_rfl

theorem catch_panic (c4 c5 c6 : Nat) (va vu ve : Value) (k : Int) (w : World) (older : List PanicEntry) (h : Sat W (Res c4 c5 c6 va vu ve * F) w) :
    CallsD Try.prog 46 #[.pointer (some ⟨c4, 0, none⟩), .pointer (some ⟨c5, 0, none⟩), .pointer (some ⟨c6, 0, none⟩)] (.panicking ({ v := .iface 26 (.int .i64 k), recovered := false } :: older)) w
      fun e u' w' => e = .returned (.tuple #[]) ∧ u' = .panicking ({ v := .iface 26 (.int .i64 k), recovered := true } :: older) ∧ Sat W (Res c4 c5 c6 (.slice none 0 0) (.int .i64 0) (.int .i64 k) * F) w' := by
  have h' : Sat W (pts c4 (.cells #[va] 39 (0, 0)) * (pts c5 (.cells #[vu] 3 (0, 0)) * (pts c6 (.cells #[ve] 26 (0, 0)) * F))) w := h.of_eq (by unfold Res; ac_rfl)
  have a0 := h'.cell (i := 0) rfl
  have a1 := h'.r.cell (i := 0) rfl
  have a2 := h'.r.r.cell (i := 0) rfl
  have f0 := h'.free (i := 0)
  have f1 := h'.r.free (i := 0)
  have f2 := h'.r.r.free (i := 0)
  have n01 := h'.ne
  have n12 := h'.r.ne
  have n02 := (h'.of_eq (show _ = pts c4 (.cells #[va] 39 (0, 0)) * (pts c6 (.cells #[ve] 26 (0, 0)) * (pts c5 (.cells #[vu] 3 (0, 0)) * F)) by ac_rfl)).ne
  have l0 := h'.lt
  have l1 := h'.r.lt
  have l2 := h'.r.r.lt
  have HS := Lib.hid (show Sat W (Res c4 c5 c6 (.slice none 0 0) (.int .i64 0) (.int .i64 k) * F) (((w.setCell ⟨c4, 0, none⟩ (.slice none 0 0)).setCell ⟨c5, 0, none⟩ (.int .i64 0)).setCell ⟨c6, 0, none⟩ (.int .i64 k)) from by
    have g1 := (h'.set (i := 0) (v := .slice none 0 0)).rot
    have g2 := (g1.set (i := 0) (v := .int .i64 0)).of_eq (show _ = pts c6 (.cells #[ve] 26 (0, 0)) * (pts c4 (.cells #[.slice none 0 0] 39 (0, 0)) * (pts c5 (.cells #[.int .i64 0] 3 (0, 0)) * F)) by
      simp; ac_rfl)
    exact (g2.set (i := 0) (v := .int .i64 k)).of_eq (by unfold Res; simp; ac_rfl))
  clear h h'
  have hta := assert_any
  refine callsD_of_wpS Try.func46 rfl fun c₀ cs hu => ?_
  apply wpS_seq
  apply wpS_region
  simp [wpOpsS, go_sem, recoverD, hu, Try.ntmps46, Exit.thenS]
  refine wpS_of_wp ?_
  go_wp2
  go_region
  all_goals
    cases c₀
    simp_all +zetaDelta [bodyPostS, results, Try.results46]
    exact HS.out.drew

end Go.Proofs.Ytlbebcioabfbgaa
