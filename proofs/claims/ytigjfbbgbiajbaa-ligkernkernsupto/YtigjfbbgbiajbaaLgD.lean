/-
  pair: the mark at which the place has passed a pair. Conditions: those that each theorem names.
-/
import Derived.Test.YtigjfbbgbiajbaaLgC
import Derived.Test.YtigjfbbgbiajbaaRowM
namespace Go.Proofs.Ytigjfbbgbiajbaa
open Go.RowKit Go.Sp
variable {w W : World} {x : FV} {F : Fnt} {bm : Nat} {A : HProp}

/-- whole numbers that the call made -/
def rowI (v : Value) (L : List Int) : HProp := row v L.length 3 1 (L.flatMap intC)
theorem intC_map (L : List Int) : L.flatMap intC = L.map vI := by
  induction L with
  | nil => rfl
  | cons y L ih => rw [List.flatMap_cons, ih]; rfl
theorem rowI_snoc {u : Value} {L : List Int} {y : Int} {n : Nat} (h : Sat W (row u n 3 1 (L.flatMap intC ++ [.int .i64 y]) * A) w) (hn : n = L.length + 1) : Sat W (rowI u (L ++ [y]) * A) w := by
  unfold rowI
  rw [List.flatMap_append, List.length_append, List.length_singleton, ← hn]
  exact h
theorem info_int3 : (Try.prog.info? 3).map (fun i => (i.zero, i.size, i.bytes)) = some (some (.int .i64 0), 1, 8) := by kernel_rfl
theorem rowI_rd {v : Value} {L : List Int} (h : Sat W (rowI v L * A) w) : RdL intC 1 w v L := by
  unfold rowI at h
  refine ⟨h.rd, ?_⟩
  obtain ⟨-, h2⟩ := h.row_cases
  rcases h2 with ⟨rfl, h0, -⟩ | ⟨g, cap, cur, rfl, h3, -⟩
  · exact ⟨none, 0, by rw [h0], by rw [h0]; exact Nat.le_refl _⟩
  · exact ⟨_, cap, rfl, h3⟩
theorem rowI_val {v : Value} {L : List Int} (h : Sat W (rowI v L * A) w) (hn : 0 < L.length) : ∃ g cap, v = .slice (some ⟨g, 0, none⟩) L.length cap ∧ L.length ≤ cap ∧ cap ≤ maxLen ∧ g < w.heap.size ∧ ∀ k (hk : k < L.length), w.cell? ⟨g, k, none⟩ = some (.int .i64 L[k]) := by
  unfold rowI at h
  obtain ⟨-, h2⟩ := h.row_cases
  rcases h2 with ⟨rfl, h0, -⟩ | ⟨g, cap, cur, rfl, h3, h4, h5, h6, h7⟩
  · omega
  · refine ⟨g, cap, rfl, h3, h4, h7.lt, fun k hk => h.row_cell ?_⟩
    rw [intC_map, List.getElem?_map, List.getElem?_eq_getElem hk]; rfl
theorem rowI_whole {g : Nat} (h : Sat W (pts g (.cells #[] 3) * A) w) : Sat W (rowI (.slice (some ⟨g, 0, none⟩) 0 0) [] * A) w := by
  have := Sat.row_whole (size := 1) 0 h (by simp [maxLen]) (by simp)
  exact this
end Go.Proofs.Ytigjfbbgbiajbaa
