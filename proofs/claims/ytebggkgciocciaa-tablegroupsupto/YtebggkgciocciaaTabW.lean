
/-
  A table: the functions that Advance, Multiply and Divide hand on. Conditions: those that each theorem names.
-/
import Derived.Test.YtebggkgciocciaaTabV
namespace Go.Proofs.Ytebggkgciocciaa
open Go.RowKit Go.Sp
variable {W w w' : World} {F A : HProp}

set_option maxRecDepth 100000 in
set_option maxHeartbeats 4000000 in
theorem adv1_any {b6 b8 : Nat} {c n : Int} {old : RegS} {u : Value} (hc : c ≠ 3) (hr : RdT w u old.toks) (h6 : w.cell? ⟨b6, 0, none⟩ = some (.int .i64 c)) (h8 : w.cell? ⟨b8, 0, none⟩ = some (.int .i64 n)) :
    Calls Try.prog 37 #[valA old u, .pointer (some ⟨b6, 0, none⟩), .pointer (some ⟨b8, 0, none⟩)] w fun e w' => e = .returned (.tuple #[valA ⟨wrap64 (old.n + n), ⟨0, 0, 0, 0, 0⟩, []⟩ (.slice none 0 0), .int .i64 0]) ∧ Ext w w' := by
  obtain ⟨ua, uc, rfl⟩ := hr.val
  obtain ⟨zn, ⟨g1, g2, g3, g4, g5⟩, L⟩ := old
  simp only [valA]
  have q1 : (c == 3) = false := by rw [beq_eq_false_iff_ne]; exact hc
  have l6 := World.block_lt_of_cell? _ _ h6
  have l8 := World.block_lt_of_cell? _ _ h8
  clear hr
  go_enter Try.func37, Try.ntmps37
  go_wp2
  (try simp only [Exit.inBlock, Exit.then])
  exact bodyPost_ret (by unfold results; go_simp) rfl ⟨rfl, (Ext.refl w).alloc.alloc⟩

set_option maxRecDepth 100000 in
set_option maxHeartbeats 4000000 in
theorem mul1_any {b6 b8 : Nat} {c n : Int} {old : RegS} {u : Value} (hc : c ≠ 3) (hr : RdT w u old.toks) (h6 : w.cell? ⟨b6, 0, none⟩ = some (.int .i64 c)) (h8 : w.cell? ⟨b8, 0, none⟩ = some (.int .i64 n)) :
    Calls Try.prog 40 #[valA old u, .pointer (some ⟨b6, 0, none⟩), .pointer (some ⟨b8, 0, none⟩)] w fun e w' => e = .returned (.tuple #[valA ⟨wrap64 (old.n * n), ⟨0, 0, 0, 0, 0⟩, []⟩ (.slice none 0 0), .int .i64 0]) ∧ Ext w w' := by
  obtain ⟨ua, uc, rfl⟩ := hr.val
  obtain ⟨zn, ⟨g1, g2, g3, g4, g5⟩, L⟩ := old
  simp only [valA]
  have q1 : (c == 3) = false := by rw [beq_eq_false_iff_ne]; exact hc
  have l6 := World.block_lt_of_cell? _ _ h6
  have l8 := World.block_lt_of_cell? _ _ h8
  clear hr
  go_enter Try.func40, Try.ntmps40
  go_wp2
  (try simp only [Exit.inBlock, Exit.then])
  exact bodyPost_ret (by unfold results; go_simp) rfl ⟨rfl, (Ext.refl w).alloc.alloc⟩

set_option maxRecDepth 100000 in
set_option maxHeartbeats 4000000 in
theorem div1_any {b6 b8 : Nat} {c n : Int} {old : RegS} {u : Value} (hc : c ≠ 3) (hn : n ≠ 0) (hr : RdT w u old.toks) (h6 : w.cell? ⟨b6, 0, none⟩ = some (.int .i64 c)) (h8 : w.cell? ⟨b8, 0, none⟩ = some (.int .i64 n)) :
    Calls Try.prog 42 #[valA old u, .pointer (some ⟨b8, 0, none⟩), .pointer (some ⟨b6, 0, none⟩)] w fun e w' => e = .returned (.tuple #[valA ⟨wrap64 (old.n.tdiv n), ⟨0, 0, 0, 0, 0⟩, []⟩ (.slice none 0 0), .int .i64 0]) ∧ Ext w w' := by
  obtain ⟨ua, uc, rfl⟩ := hr.val
  obtain ⟨zn, ⟨g1, g2, g3, g4, g5⟩, L⟩ := old
  simp only [valA]
  have q1 : (c == 3) = false := by rw [beq_eq_false_iff_ne]; exact hc
  have q2 : (n == 0) = false := by rw [beq_eq_false_iff_ne]; exact hn
  have l6 := World.block_lt_of_cell? _ _ h6
  have l8 := World.block_lt_of_cell? _ _ h8
  clear hr
  go_enter Try.func42, Try.ntmps42
  go_wp2
  (try simp only [Exit.inBlock, Exit.then])
  exact bodyPost_ret (by unfold results; go_simp) rfl ⟨rfl, (Ext.refl w).alloc.alloc⟩

set_option maxRecDepth 100000 in
set_option maxHeartbeats 4000000 in
theorem div0_any {b6 b8 : Nat} {c : Int} {old : RegS} {u : Value} (hr : RdT w u old.toks) (h6 : w.cell? ⟨b6, 0, none⟩ = some (.int .i64 c)) (h8 : w.cell? ⟨b8, 0, none⟩ = some (.int .i64 0)) :
    Calls Try.prog 42 #[valA old u, .pointer (some ⟨b8, 0, none⟩), .pointer (some ⟨b6, 0, none⟩)] w fun e w' => e = .returned (.tuple #[valA ⟨0, ⟨0, 0, 0, 0, 0⟩, []⟩ (.slice none 0 0), .int .i64 20]) ∧ Ext w w' := by
  obtain ⟨ua, uc, rfl⟩ := hr.val
  obtain ⟨zn, ⟨g1, g2, g3, g4, g5⟩, L⟩ := old
  simp only [valA]
  have l6 := World.block_lt_of_cell? _ _ h6
  have l8 := World.block_lt_of_cell? _ _ h8
  clear hr
  go_enter Try.func42, Try.ntmps42
  go_wp2
  (try simp only [Exit.inBlock, Exit.then])
  exact bodyPost_ret (by unfold results; go_simp) rfl ⟨rfl, (Ext.refl w).alloc.alloc⟩

end Go.Proofs.Ytebggkgciocciaa
