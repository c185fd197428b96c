
/-
  Bytes that a call makes by append: of bytes, of strings. Conditions: those that each theorem names.
-/
import Derived.Test.YtjeinldhbajknaaRows
import Derived.Test.YtjeinldhbajknaaSep
import Derived.Lib.AppendStr
namespace Go.Sp
open Go Go.RowKit Go.Lib
section
variable {W w w' : World} {A : HProp} {v : Value} {n : Nat} {e : TypeId} {xs : List Value}

/-- append(buf, s...) -/
theorem Sat.run_appendS {P : Program} (t u ty : TypeId) (i : TypeInfo) (ht : P.underlying t = some (.slice e)) (hu : P.underlying u = some .string) (hi : P.info? e = some i) (hz : i.zero = some (.int .u8 0))
    (hsize : i.size = 1) (hby : i.bytes = 1) (h : Sat W (row v n e 1 xs * A) w) (s : ByteArray) (h63 : n + s.size ≤ maxLen) (hbytes : n + s.size ≤ 140737488355328) :
    ∃ v' w', (Builtin.append_ #[t, u] ty #[v, .string s]).run P w = .ok v' w' ∧ Sat W (row v' (n + s.size) e 1 (xs ++ strCells s) * A) w' ∧ (v' = .slice none 0 0 ↔ v = .slice none 0 0 ∧ s.size = 0) := by
  have hsmall : n + s.size ≤ 9223372036854775807 := by simp only [maxLen] at h63; omega
  obtain ⟨hxl, hc⟩ := h.row_cases
  rw [Nat.mul_one] at hxl
  have hsl : (strCells s).length = s.size := strCells_length s
  have hlen : (xs ++ strCells s).length = (n + s.size) * 1 := by rw [List.length_append, hxl, hsl, Nat.mul_one]
  have hzs : (Value.int .u8 0).cells.size = 1 := rfl
  have grown : Sat W A w → ∀ (old : Nat), Sat W (row (.slice (some ⟨w.heap.size, 0, none⟩) (n + s.size) (grownCap w (n + s.size) old e)) (n + s.size) e 1 (xs ++ strCells s) * A)
      (w.drew.alloc (.cells (xs.toArray ++ (strCells s).toArray ++ Builtin.zeroCells (Value.int .u8 0).cells (grownCap w (n + s.size) old e - (n + s.size))) e)) := by
    intro hA old
    have hge := grownCap_ge w (n + s.size) old e
    have hcm : grownCap w (n + s.size) old e ≤ maxLen := grownCap_le_maxLen w (n + s.size) old e h63
    refine Sat.row_mk (hA.drew.alloc _) hge hcm ?_ ?_ hlen
    · simp only [Array.size_append, List.size_toArray, size_zeroCells, hzs, hxl, hsl]
      omega
    · simp only [Array.toList_append, List.append_assoc]
      rw [← List.append_assoc, ← hlen]
      exact List.take_left
  rcases hc with ⟨rfl, rfl, rfl, hA⟩ | ⟨g, cap, cur, rfl, hnc, hcm, hcs, htake, hA⟩
  · by_cases hm : s.size = 0
    · have hs : strCells s = [] := List.eq_nil_of_length_eq_zero (by rw [hsl, hm])
      refine ⟨.slice none 0 0, w, ?_, ?_, by simp [hm]⟩
      · simp [Builtin.append_, run_underlying ht, run_underlying hu, sizeOf, typeInfo, hi, Builtin.lenOf, Builtin.firstCells, hm]
      · rw [hs, hm]; exact hA.row_nil
    · have hr := run_append_nil_string (P := P) (w := w) t u ty e i (.int .u8 0) ht hu hi hz s (by omega) (by omega) (by rw [hby]; omega)
      have hgr := grown hA 0
      simp only [Nat.zero_add, List.nil_append, Array.empty_append] at hgr ⊢
      refine ⟨_, _, hr, ?_, by simp [hm]⟩
      have e1 : (strCells s).toArray = s.data.map (fun b => Value.int .u8 b.toNat) := by
        apply Array.ext'
        simp [strCells]
      rw [e1] at hgr
      exact hgr
  · rw [Nat.mul_one] at hcs htake
    by_cases hroom : n + s.size ≤ cap
    · have hr := run_append_room_string (P := P) (w := w) t u ty e i ht hu hi hsize g n cap cur hA.blk s hroom (by omega)
      refine ⟨_, _, hr, Sat.row_mk (hA.upd_row _) hroom hcm ?_ ?_ hlen, by simp⟩
      · simp only [List.size_toArray, List.length_append, List.length_take, List.length_drop, Array.length_toList, hsl]
        omega
      · rw [htake, ← hlen]
        exact List.take_left
    · have holds : ∀ j u, xs[j]? = some u → w.cell? ((⟨g, 0, none⟩ : Addr).add j) = some u := by
        intro j u hu
        have hj : j < n := by have := (List.getElem?_eq_some_iff.1 hu).1; omega
        rw [← htake, List.getElem?_take, if_pos hj] at hu
        rw [Addr.add_lit, Nat.zero_add]
        exact hA.cell (by simpa using hu)
      have hr := run_append_grow_string (P := P) (w := w) t u ty e i (.int .u8 0) ht hu hi hz ⟨g, 0, none⟩ n cap xs (by rw [hxl, hsize, Nat.mul_one]) holds s (by omega) (by omega) (growslice_fits (by omega) (by rw [hby]; omega))
      exact ⟨_, _, hr, grown hA.r cap, by simp⟩

theorem wpList_append_S {P : Program} {ops : Array Oper} {rest : List Oper} {o : Oper} {ac : Act} {Q : Exit → Act → World → Prop} (hgd : o.guard = none) (s x : Operand) (t u : TypeId)
    (ho : o.op = .call { callee := .builtin .append, args := #[s, x], argTypes := #[t, u] })
    (i : TypeInfo) (ht : P.underlying t = some (.slice e)) (hu : P.underlying u = some .string) (hi : P.info? e = some i) (hz : i.zero = some (.int .u8 0)) (hsize : i.size = 1) (hby : i.bytes = 1)
    (hs : ac.eval s = v) (h : Sat W (row v n e 1 xs * A) w) (b : ByteArray) (hx : ac.eval x = .string b) (h63 : n + b.size ≤ maxLen) (hbytes : n + b.size ≤ 140737488355328)
    (hK : ∀ v' w', Sat W (row v' (n + b.size) e 1 (xs ++ strCells b) * A) w' → (v' = .slice none 0 0 ↔ v = .slice none 0 0 ∧ b.size = 0) → wpList P ops Q rest (ac.put o.dst v') w') : wpList P ops Q (o :: rest) ac w := by
  refine wpList_plain hgd fun K hK' => ?_
  obtain ⟨v', w', hrun, r1, r2⟩ := Sat.run_appendS (P := P) t u o.type i ht hu hi hz hsize hby h b h63 hbytes
  unfold Oper.wp
  simp [execOp, ho, resolve, invoke, builtin, hs, hx, hrun, Result.andThen]
  exact hK' _ _ (hK v' w' r1 r2)
end
end Go.Sp

namespace Go.Proofs.Ytjeinldhbajknaa
open Go.RowKit Go.Sp
variable {W w w' : World} {F : HProp}

/-- bytes as cells -/
def bytesB (xs : List UInt8) : List Value := xs.map fun c => .int .u8 c.toNat
theorem bytesB_len (xs : List UInt8) : (bytesB xs).length = xs.length := by simp [bytesB]
theorem bytesB_app (xs ys : List UInt8) : bytesB (xs ++ ys) = bytesB xs ++ bytesB ys := by simp [bytesB]
theorem strCells_mk (l : List UInt8) : Lib.strCells ⟨l.toArray⟩ = bytesB l := by simp [Lib.strCells, bytesB]
theorem bytesB_one (xs : List UInt8) : ∀ u ∈ bytesB xs, u.oneCell' = true := by
  intro u hu
  simp only [bytesB, List.mem_map] at hu
  obtain ⟨c, _, rfl⟩ := hu
  rfl

/-- bytes that are owned -/
def rowB (v : Value) (l : List UInt8) : HProp := row v l.length 5 1 (bytesB l)

theorem rowB_snoc {v : Value} {acc : List UInt8} {c : UInt8} {n : Nat} {xs : List Value} (h : Sat W (row v n 5 1 xs * F) w) (hn : n = acc.length + 1) (hx : xs = bytesB acc ++ [.int .u8 c.toNat]) : Sat W (rowB v (acc ++ [c]) * F) w := by
  subst hn hx
  unfold rowB
  rw [bytesB_app, List.length_append]
  exact h
theorem rowB_app {v : Value} {acc l : List UInt8} {n : Nat} {xs : List Value} (h : Sat W (row v n 5 1 xs * F) w) (hn : n = acc.length + l.length) (hx : xs = bytesB acc ++ bytesB l) : Sat W (rowB v (acc ++ l) * F) w := by
  subst hn hx
  unfold rowB
  rw [bytesB_app, List.length_append]
  exact h

theorem info_u8B : (Try.prog.info? 5).map (fun i => (i.zero, i.size, i.bytes)) = some (some (.int .u8 0), 1, 1) := by kernel_rfl
theorem info_parts3B {P : Program} {e : TypeId} {z : Value} {s b : Nat} (h : (P.info? e).map (fun i => (i.zero, i.size, i.bytes)) = some (some z, s, b)) : ∃ i, P.info? e = some i ∧ i.zero = some z ∧ i.size = s ∧ i.bytes = b := by
  cases hi : P.info? e with
  | none => rw [hi] at h; cases h
  | some i =>
    rw [hi] at h
    simp only [Option.map_some, Option.some.injEq, Prod.mk.injEq] at h
    exact ⟨i, rfl, h.1, h.2.1, h.2.2⟩

/-- its value and its cells -/
theorem rowB_val {v : Value} {l : List UInt8} (h : Sat W (rowB v l * F) w) : ∃ a cap, v = .slice a l.length cap ∧ l.length ≤ cap ∧ ∀ j, (hj : j < l.length) → ∃ g, a = some ⟨g, 0, none⟩ ∧ w.cell? ⟨g, j, none⟩ = some (.int .u8 l[j].toNat) := by
  have hv := h.row_val
  obtain ⟨_, hc⟩ := h.row_cases
  obtain ⟨a, cap, e1, e2⟩ := hv
  refine ⟨a, cap, e1, ?_, fun j hj => e2 j _ (by simp [bytesB, hj])⟩
  rcases hc with ⟨e3, h0, _⟩ | ⟨g, cap', cur, e3, hn, _⟩
  · rw [h0]; exact Nat.zero_le _
  · rw [e3] at e1
    simp only [Value.slice.injEq] at e1
    obtain ⟨_, _, rfl⟩ := e1
    exact hn
end Go.Proofs.Ytjeinldhbajknaa
