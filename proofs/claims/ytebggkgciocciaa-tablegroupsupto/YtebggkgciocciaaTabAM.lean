
/-
  A table's codes; two lists of codes compared. Conditions: those that each theorem names.
-/
import Derived.Test.YtebggkgciocciaaTabAL
import Derived.Deep.MidRow
namespace Go.Proofs.Ytebggkgciocciaa
open Go.RowKit Go.Sp
variable {W w w' : World} {F A : HProp}

/-- the codes of a table -/
def tabCodes (S : TabS) : List Int := (List.range 256).map fun i => (S.regs (1280 + i)).n
theorem tabCodes_len (S : TabS) : (tabCodes S).length = 256 := by simp [tabCodes]
theorem tabCodes_at (S : TabS) (k : Nat) (hk : k < 256) : (tabCodes S)[k]? = some (S.regs (1280 + k)).n := by simp [tabCodes, hk]

/-- the registers of class Code, as a value -/
def rv256 (R : Nat → RegV) : Array Value := (regCells (fun i => R (1280 + i)) 256).toArray
theorem rv256_part (R : Nat → RegV) (i : Nat) (hi : i < 256) : (rv256 R).extract (i * 7) (i * 7 + 7) = (R (1280 + i)).cells.toArray := by
  apply Array.ext_getElem?
  intro o
  rw [Array.getElem?_extract]
  have hs : (rv256 R).size = 1792 := by simp [rv256, regCells_len]
  by_cases ho : o < 7
  · rw [if_pos (by rw [hs]; omega)]
    rw [rv256, List.getElem?_toArray, regCells_get _ 256 i o hi ho, List.getElem?_toArray]
  · rw [if_neg (by rw [hs]; omega), List.getElem?_toArray]
    exact (List.getElem?_eq_none (by simp [RegV.cells]; omega)).symm

theorem isAgg_val (w : World) : (isAgg 40).run Try.prog w = .ok true w := by
  unfold isAgg
  rw [Sem.run_bind, run_underlying Try.underlying40 w]
  rfl
theorem size_val (w : World) : (sizeOf 40).run Try.prog w = .ok 7 w := by
  cases h : Try.prog.info? 40 with
  | none => exact absurd (show (Try.prog.info? 40).isSome = true by kernel_rfl) (by simp [h])
  | some i =>
    rw [run_sizeOf (P := Try.prog) w h]
    congr 1
theorem idxReg (R : Nat → RegV) (i : Nat) (hi : i < 256) (w : World) : (Instr.index 64 (.agg (rv256 R)) (.int .i64 i)).run Try.prog w = .ok (R (1280 + i)).val w := by
  have hu := Try.underlying64
  have h1 : (0 : Int) ≤ (i : Int) := by omega
  have h2 : (i : Int) < (256 : Int) := by omega
  simp only [Instr.index, Sem.run_bind, asIntOf, run_underlying hu w, Result.andThen_ok, Sem.run_pure]
  have h3 : (0 : Int) ≤ (i : Int) ∧ (i : Int) < ((256 : Nat) : Int) := by omega
  simp only [h3, and_self, if_true, Sem.run_bind, size_val, Result.andThen_ok, part, isAgg_val, Sem.run_pure, Int.toNat_natCast, rv256_part R i hi]
  rfl

theorem range256 {b nm : Nat} {R : Nat → RegV} {gs lt : Value} (h : Sat W (pts b (.cells (tabCells nm R gs lt) 68) * A) w) :
    w.rangeAt b 8961 (rv256 R).toList := by
  intro j v hv
  rw [rv256, List.toList_toArray] at hv
  have hj : j < 1792 := by
    have := (List.getElem?_eq_some_iff.1 hv).1
    rw [regCells_len] at this
    exact this
  have hv2 := regCells_get (fun i => R (1280 + i)) 256 (j / 7) (j % 7) (by omega) (by omega)
  have e : j / 7 * 7 + j % 7 = j := by omega
  rw [e] at hv2
  rw [hv2] at hv
  have h3 := tab_reg nm R gs lt (j := 1280 + j / 7) (o := j % 7) (by omega) (by omega)
  have e2 : 1 + (1280 + j / 7) * 7 + j % 7 = 8961 + j := by omega
  rw [e2] at h3
  exact h.cell (h3.trans hv)
theorem info256 (R : Nat → RegV) : (Try.prog.info? 64).map (·.size) = some (rv256 R).toList.length := by
  rw [rv256, List.toList_toArray, regCells_len]
  kernel_rfl

theorem part_ints (L : List Int) (i : Nat) (hi : i < L.length) (w : World) : (part 3 (L.map (Value.int .i64)).toArray i).run Try.prog w = .ok (.int .i64 (L[i])) w :=
  run_part_plain (P := Try.prog) w (e := 3) (by kernel_rfl) (by simp [hi])
theorem eq_items (L : List Int) (w : World) : ∀ (is : List Nat), (∀ i ∈ is, i < L.length) → (Op.eqItems 9999 3 1 (L.map (Value.int .i64)).toArray (L.map (Value.int .i64)).toArray is).run Try.prog w = .ok true w
  | [], _ => rfl
  | i :: is, h => by
    have hi := h i (.head _)
    have e1 := run_equalIn_int (P := Try.prog) w 9998 3 .i64 .i64 L[i] L[i] Try.underlying3
    have p1 := part_ints L i hi w
    simp only [Op.eqItems, Sem.run_bind, Nat.mul_one, p1, e1, Result.andThen_ok, beq_self_eq_true, Bool.not_true, Bool.false_eq_true, if_false]
    exact eq_items L w is (fun j hj => h j (.tail _ hj))
theorem run_eql_codes (L : List Int) (hL : L.length = 256) (w : World) : (binOp .eql 60 (codesV L) (codesV L)).run Try.prog w = .ok (.bool true) w := by
  obtain ⟨i, hi⟩ := infoInt
  have h1 : (Op.equal 60 (codesV L) (codesV L)).run Try.prog w = .ok true w := by
    show (Op.equalIn (9999 + 1) 60 (codesV L) (codesV L)).run Try.prog w = _
    rw [run_equalIn_array (P := Try.prog) w 9999 _ _ Try.underlying60 hi, cellsOf_int]
    exact eq_items L w _ (fun j hj => by rw [hL]; exact List.mem_range.1 hj)
  simp only [binOp]
  simp [h1]

end Go.Proofs.Ytebggkgciocciaa
