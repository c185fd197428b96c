
/-
  A font's bytes, read: what the deferred call does when nothing has gone wrong. Conditions: none.
-/
import Derived.Test.YtembknlhocijkaaFtU
import Derived.Recover
import Derived.Defers
namespace Go.Proofs.Ytembknlhocijkaa
open Go.RowKit Go.Sp
variable {w w' W : World} {A : HProp} {x : FV}

theorem opsS_val {P : Program} {ops : Array Oper} {Q : Exit → Act → List Frame → World → Prop} {i : Nat} {rest : List Nat} {a : Act} {cs : List Frame} {o : Oper} {v : Value} (ho : ops[i]? = some o) (hw : Region.wanted o (yielded ops a.tmps) = true)
    (hr : (execOp a.eval o).run P w = .ok (.value v) w') (h : wpOpsS P ops Q rest (a.put o.dst v) cs w') : wpOpsS P ops Q (i :: rest) a cs w := by
  simp only [wpOpsS, ho, hw, if_true, hr, Oper.upon]
  exact h
theorem opsS_skip {P : Program} {ops : Array Oper} {Q : Exit → Act → List Frame → World → Prop} {i : Nat} {rest : List Nat} {a : Act} {cs : List Frame} {o : Oper} (ho : ops[i]? = some o) (hw : Region.wanted o (yielded ops a.tmps) = true)
    (hr : (execOp a.eval o).run P w = .ok .skip w') (h : wpOpsS P ops Q rest (a.put o.dst undef) cs w') : wpOpsS P ops Q (i :: rest) a cs w := by
  simp only [wpOpsS, ho, hw, if_true, hr, Oper.upon]
  exact h
theorem opsS_rec {P : Program} {ops : Array Oper} {Q : Exit → Act → List Frame → World → Prop} {i : Nat} {rest : List Nat} {a : Act} {cs : List Frame} {o : Oper} (ho : ops[i]? = some o) (hw : Region.wanted o (yielded ops a.tmps) = true)
    (hr : (execOp a.eval o).run P w = .ok .recover w') (hn : recoverD cs = none) (h : wpOpsS P ops Q rest (a.put o.dst .nilIface) cs w') : wpOpsS P ops Q (i :: rest) a cs w := by
  simp only [wpOpsS, ho, hw, if_true, hr, hn]
  exact h
theorem assert_nil (w : World) : (Instr.typeAssert .nilIface 20 67 true).run Try.prog w = .ok (.tuple #[.agg #[], .bool false]) w := by kernel_rfl
set_option maxRecDepth 100000 in
set_option maxHeartbeats 1000000 in
theorem catch_idle (c2 c3 : Nat) (w : World) :
    CallsD Try.prog 26 #[.pointer (some ⟨c2, 0, none⟩), .pointer (some ⟨c3, 0, none⟩)] .returning w fun e u' w' => e = .returned (.tuple #[]) ∧ u' = .returning ∧ Ext w w' := by
  refine callsD_of_wpS Try.func26 rfl fun c₀ cs hu => ?_
  apply wpS_seq
  apply wpS_region
  change wpOpsS Try.prog _ _ [0, 1, 2, 3, 4, 5, 6, 7] _ _ _
  have hta := assert_nil
  simp only [Try.ntmps26, List.size_toArray, List.length_cons, List.length_nil, Nat.reduceAdd, Nat.reduceSub, Array.replicate_succ, Array.replicate_zero, List.push_toArray, List.append_toArray, List.nil_append, List.cons_append]
  with_reducible refine opsS_rec (o := ?o1) (w' := w) ?a1 ?b1 ?c1 ?d1 ?_
  case a1 => rfl
  case b1 => rfl
  case c1 => rfl
  case d1 => simp [recoverD, hu]
  go_simp
  with_reducible refine opsS_val (o := ?o2) (v := .tuple #[.agg #[], .bool false]) (w' := w) ?a2 ?b2 ?c2 ?_
  case a2 => rfl
  case b2 => rfl
  case c2 => go_simp
  go_simp
  with_reducible refine opsS_val (o := ?o3) (v := .tuple #[.agg #[], .bool false]) (w' := w) ?a3 ?b3 ?c3 ?_
  case a3 => rfl
  case b3 => rfl
  case c3 => go_simp
  go_simp
  with_reducible refine opsS_val (o := ?o4) (v := .agg #[]) (w' := w) ?a4 ?b4 ?c4 ?_
  case a4 => rfl
  case b4 => rfl
  case c4 => go_simp
  go_simp
  with_reducible refine opsS_val (o := ?o5) (v := .bool false) (w' := w) ?a5 ?b5 ?c5 ?_
  case a5 => rfl
  case b5 => rfl
  case c5 => go_simp
  go_simp
  with_reducible refine opsS_val (o := ?o6) (v := .pointer (some ⟨w.heap.size, 0, none⟩)) (w' := w.alloc (.cells #[] 67)) ?a6 ?b6 ?c6 ?_
  case a6 => rfl
  case b6 => rfl
  case c6 => go_simp
  go_simp
  with_reducible refine opsS_skip (o := ?o7) (w' := w.alloc (.cells #[] 67)) ?a7 ?b7 ?c7 ?_
  case a7 => rfl
  case b7 => rfl
  case c7 => go_simp
  go_simp
  with_reducible refine opsS_val (o := ?o8) (v := .bool false) (w' := w.alloc (.cells #[] 67)) ?a8 ?b8 ?c8 ?_
  case a8 => rfl
  case b8 => rfl
  case c8 => go_simp
  go_simp
  simp only [wpOpsS, Exit.thenS]
  have hx : Ext w (w.alloc (.cells #[] 67)) := (Ext.refl w).alloc
  refine wpS_of_wp ?_
  go_wp2
  cases c₀
  simp_all [bodyPostS, results, Try.results26]
end Go.Proofs.Ytembknlhocijkaa
