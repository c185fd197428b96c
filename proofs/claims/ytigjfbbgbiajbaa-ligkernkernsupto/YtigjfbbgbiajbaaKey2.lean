/-
  Keys that are pairs of numbers; names' and registers' maps. Conditions: none.
-/
import Derived.Test.YtigjfbbgbiajbaaMap
import Derived.Test.YtigjfbbgbiajbaaRows
import Derived.ChangeKeysEq
namespace Go.Proofs.Ytigjfbbgbiajbaa
open Go.RowKit Go.Sp

def kE2 (p : Int × Int) : Value := .agg #[.int .i64 p.1, .int .i64 p.2]

theorem part2 (a b : Value) (w : World) : (part 3 #[a, b] 0).run Try.prog w = .ok a w ∧ (part 3 #[a, b] 1).run Try.prog w = .ok b w :=
  ⟨run_part_plain (P := Try.prog) w (e := 3) (by kernel_rfl) rfl, run_part_plain (P := Try.prog) w (e := 3) (by kernel_rfl) rfl⟩

theorem cellsOf_int : Try.prog.cellsOf 3 = 1 := by kernel_rfl
theorem infoInt : ∃ i, Try.prog.info? 3 = some i := by
  cases h : Try.prog.info? 3 with
  | none => exact absurd (show (Try.prog.info? 3).isSome = true by kernel_rfl) (by simp [h])
  | some i => exact ⟨i, rfl⟩

theorem run_eq2 (p q : Int × Int) (w : World) : (Op.equal 85 (kE2 p) (kE2 q)).run Try.prog w = .ok (decide (p = q)) w := by
  obtain ⟨a, b⟩ := p
  obtain ⟨c, d⟩ := q
  obtain ⟨i, hi⟩ := infoInt
  show (Op.equalIn (9999 + 1) 85 (.agg #[.int .i64 a, .int .i64 b]) (.agg #[.int .i64 c, .int .i64 d])).run Try.prog w = _
  rw [run_equalIn_array (P := Try.prog) w 9999 _ _ Try.underlying85 hi, cellsOf_int]
  have e1 := run_equalIn_int (P := Try.prog) w 9998 3 .i64 .i64 a c Try.underlying3
  have e2 := run_equalIn_int (P := Try.prog) w 9998 3 .i64 .i64 b d Try.underlying3
  have p1 := part2 (.int .i64 a) (.int .i64 b) w
  have p2 := part2 (.int .i64 c) (.int .i64 d) w
  simp only [List.range, List.range.loop, Op.eqItems, Sem.run_bind, Nat.zero_mul, Nat.one_mul, p1.1, p2.1, e1, Result.andThen_ok]
  by_cases h1 : a = c
  · subst h1
    simp only [beq_self_eq_true, Bool.not_true, Bool.false_eq_true, if_false, Sem.run_bind, p1.2, p2.2, e2, Result.andThen_ok]
    by_cases h2 : b = d <;> simp [h2]
  · simp [h1]

theorem find2 (p : Int × Int) (w : World) : ∀ (l : List MapEntry) (i : Nat), (∀ e ∈ l, ∃ k', e.key = kE2 k') →
    ((Instr.findAsking 85 (kE2 p) l i).run Try.prog w = .ok none w ∧ ∀ e ∈ l, e.key ≠ kE2 p) ∨ ∃ j e, (Instr.findAsking 85 (kE2 p) l i).run Try.prog w = .ok (some (i + j, e.val)) w ∧ l[j]? = some e ∧ e.key = kE2 p := by
  intro l
  induction l with
  | nil => intro i _; exact .inl ⟨rfl, by simp⟩
  | cons e l ih =>
    intro i h
    obtain ⟨q, hq⟩ := h e (.head _)
    rw [Instr.findAsking]
    simp only [Sem.run_bind, hq, run_eq2, Result.andThen_ok]
    by_cases hpq : p = q
    · subst hpq
      refine .inr ⟨0, e, ?_, rfl, hq⟩
      simp
    · simp only [hpq, decide_false, Bool.false_eq_true, if_false]
      rcases ih (i + 1) (fun x hx => h x (.tail _ hx)) with ⟨h1, h2⟩ | ⟨j, x, h1, h2, h3⟩
      · refine .inl ⟨h1, fun x hx => ?_⟩
        cases hx with
        | head => rw [hq]; intro he; apply hpq; unfold kE2 at he; simp at he; exact (Prod.ext he.1 he.2).symm
        | tail _ hx => exact h2 x hx
      · exact .inr ⟨j + 1, x, by rw [h1]; congr 3; omega, by simpa using h2, h3⟩

theorem chk2 (em : Bool) (w : World) (a b : Int) : (Instr.checkKey em 10000 85 (.agg #[.int .i64 a, .int .i64 b])).run Try.prog w = .ok () w := by
  obtain ⟨i, hi⟩ := infoInt
  have p1 := part2 (.int .i64 a) (.int .i64 b) w
  have k1 : ∀ x : Int, (Instr.checkKey em 9999 3 (.int .i64 x)).run Try.prog w = .ok () w := fun x => Go.MapKept.run_checkKey Try.underlying3 (show Go.MapKept.IsKey (.int .i64) (.int .i64 x) from rfl) em 9998
  rw [Instr.checkKey]
  simp only [Sem.run_bind, run_underlying (P := Try.prog) Try.underlying85, Result.andThen_ok]
  simp only [Std.Legacy.Range.forIn_eq_forIn_range', Std.Legacy.Range.size, Nat.sub_zero, Nat.add_one_sub_one, Nat.div_one, List.range', List.forIn_cons, List.forIn_nil, Sem.run_bind, run_sizeOf (P := Try.prog) w hi, cellsOf_int, Result.andThen_ok, Nat.zero_mul, Nat.zero_add, Nat.one_mul, p1.1, p1.2, k1, Sem.run_pure]

theorem key2 : KeyT Try.prog 85 kE2 where
  inj := fun a b h => by unfold kE2 at h; simp at h; exact Prod.ext h.1 h.2
  chk := fun em w k => chk2 em w k.1 k.2
  fnd := fun k w l hl => by
    rw [run_findKey_eq (P := Try.prog) (w := w) (k := 85) (by kernel_rfl)]
    rcases find2 k w l 0 hl with h | ⟨j, e, h1, h2, h3⟩
    · exact .inl h
    · exact .inr ⟨j, e, by rw [Nat.zero_add] at h1; exact h1, h2, h3⟩
  stay := fun k w => by unfold kE2; simp [Instr.keyThatStays, Instr.sameBits]

end Go.Proofs.Ytigjfbbgbiajbaa
