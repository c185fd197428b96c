
/-
  The law's small font, read out of its bytes. Conditions: those that each theorem names.
-/
import Derived.Test.YtembknlhocijkaaFtR
import Derived.Test.YtembknlhocijkaaFtO
namespace Go.Proofs.Ytembknlhocijkaa
open Go.RowKit Go.Sp
variable {w w' W : World} {A : HProp}

def rowC (v : Value) (L : List Met) : HProp := row v L.length 41 6 (L.flatMap Met.cells)
theorem info_met : (Try.prog.info? 41).map (fun i => (i.zero, i.size, i.bytes)) = some (some (.agg #[.int .i64 0, .int .i64 0, .int .i64 0, .int .i64 0, .int .i64 0, .int .i64 0]), 6, 48) := by kernel_rfl
theorem met_one : ∀ (x : Met), ∀ u ∈ x.cells, u.oneCell' = true := by
  intro x u hu
  simp only [Met.cells, List.mem_cons, List.not_mem_nil, or_false] at hu
  rcases hu with rfl | rfl | rfl | rfl | rfl | rfl <;> rfl
theorem rowC_snoc {u : Value} {L : List Met} {y : Met} {n : Nat} (h : Sat W (row u n 41 6 (L.flatMap Met.cells ++ y.cells) * A) w) (hn : n = L.length + 1) : Sat W (rowC u (L ++ [y]) * A) w := by
  unfold rowC
  rw [List.flatMap_append, List.length_append, List.length_singleton, ← hn, show List.flatMap Met.cells [y] = y.cells by simp]
  exact h
theorem rowC_rd {v : Value} {L : List Met} (h : Sat W (rowC v L * A) w) : RdL Met.cells 6 w v L := by
  unfold rowC at h
  refine ⟨h.rd, ?_⟩
  obtain ⟨-, h2⟩ := h.row_cases
  rcases h2 with ⟨rfl, h0, -⟩ | ⟨g, cap, cur, rfl, h3, -⟩
  · exact ⟨none, 0, by rw [h0], by rw [h0]; exact Nat.le_refl _⟩
  · exact ⟨_, cap, rfl, h3⟩
theorem rowJ_cells {g n c : Nat} {L : List Int} (h : Sat W (rowJ (.slice (some ⟨g, 0, none⟩) n c) L * A) w) (i : Nat) (y : Int) (hi : L[i]? = some y) : w.cell? ⟨g, i, none⟩ = some (.int .i64 y) := by
  obtain ⟨hl, he⟩ := List.getElem?_eq_some_iff.1 hi
  obtain ⟨b, off, e, c0, -⟩ := (rowJ_rd h).int rfl hl
  have h2 := h
  unfold rowJ at h2
  obtain ⟨-, h3⟩ := h2.row_cases
  rcases h3 with ⟨h4, -⟩ | ⟨g2, cap, cur, h4, -⟩
  · cases h4
  · simp only [Value.slice.injEq, Option.some.injEq, Addr.mk.injEq, and_true] at h4 e
    obtain ⟨rfl, rfl⟩ := e
    rw [Nat.zero_add, he] at c0
    exact c0
theorem rowJ_pos {u : Value} {L : List Int} (h : Sat W (rowJ u L * A) w) (h0 : 0 < L.length) : ∃ g c, u = .slice (some ⟨g, 0, none⟩) L.length c ∧ L.length ≤ c ∧ g < w.heap.size := by
  unfold rowJ at h
  obtain ⟨-, h3⟩ := h.row_cases
  rcases h3 with ⟨-, h4, -⟩ | ⟨g, cap, cur, rfl, h4, h5, h6, h7, h8⟩
  · omega
  · exact ⟨g, cap, rfl, h4, h8.lt⟩
theorem head_step : ∀ k, k < 12 → ∃ a b, smallB.drop (2 * k) = a :: b :: smallB.drop (2 * (k + 1)) ∧ a.toNat < 128 ∧ (halfN a b : Int) = headL.getD k 0 := by
  intro k hk
  have h : k = 0 ∨ k = 1 ∨ k = 2 ∨ k = 3 ∨ k = 4 ∨ k = 5 ∨ k = 6 ∨ k = 7 ∨ k = 8 ∨ k = 9 ∨ k = 10 ∨ k = 11 := by omega
  rcases h with rfl | rfl | rfl | rfl | rfl | rfl | rfl | rfl | rfl | rfl | rfl | rfl <;> exact ⟨_, _, rfl, by decide, by decide⟩
theorem head_vals : (List.range 12).map (fun k => headL.getD k 0) = headL := by decide
/-- words in the bytes from a place on -/
def WordsAt (p n : Nat) (X : List Int) : Prop := ∀ k, k < n → ∃ a b c d, smallB.drop (p + 4 * k) = a :: b :: c :: d :: smallB.drop (p + 4 * (k + 1)) ∧ a.toNat < 128 ∧ (wordN a b c d : Int) = X.getD k 0
theorem words_w : WordsAt 36 2 [0, 524288] := by
  intro k hk
  have h : k = 0 ∨ k = 1 := by omega
  rcases h with rfl | rfl <;> exact ⟨_, _, _, _, rfl, by decide, by decide⟩
theorem words_h : WordsAt 44 2 [0, 262144] := by
  intro k hk
  have h : k = 0 ∨ k = 1 := by omega
  rcases h with rfl | rfl <;> exact ⟨_, _, _, _, rfl, by decide, by decide⟩
theorem words_d : WordsAt 52 1 [0] := by
  intro k hk
  have h : k = 0 := by omega
  rcases h with rfl
  exact ⟨_, _, _, _, rfl, by decide, by decide⟩
theorem words_i : WordsAt 56 1 [0] := by
  intro k hk
  have h : k = 0 := by omega
  rcases h with rfl
  exact ⟨_, _, _, _, rfl, by decide, by decide⟩
theorem words_0 (p : Nat) : WordsAt p 0 [] := fun k hk => absurd hk (Nat.not_lt_zero k)
theorem words_p : WordsAt 60 2 [0, 262144] := by
  intro k hk
  have h : k = 0 ∨ k = 1 := by omega
  rcases h with rfl | rfl <;> exact ⟨_, _, _, _, rfl, by decide, by decide⟩
theorem ent_half (br : Nat) : ∀ w, (callFunc 37 (#[.pointer (some ⟨br, 0, none⟩)] ++ #[])).run Try.prog w = .ok (.enter 37 (#[.pointer (some ⟨br, 0, none⟩)] ++ #[])) w := by
  intro w
  rfl
theorem ent_signed (br : Nat) : ∀ w, (callFunc 39 (#[.pointer (some ⟨br, 0, none⟩)] ++ #[])).run Try.prog w = .ok (.enter 39 (#[.pointer (some ⟨br, 0, none⟩)] ++ #[])) w := by
  intro w
  rfl
theorem tabHead_any {v : Value} {br : Nat} (hA : ∀ w', Sat W A w' → Ext W w') (hr : RdA W v smallB) (h : Sat W (pts br (rdB v) * A) w) :
    Calls Try.prog 36 #[.int .i64 12, .func (.func 37) #[.pointer (some ⟨br, 0, none⟩)] #[]] w fun e w' => ∃ u, e = .returned u ∧ ∃ v', RdA W v' (smallB.drop 24) ∧ Sat W (rowJ u headL * (pts br (rdB v') * A)) w' := by
  have ht := tabI_any (n := 12) 37 #[.pointer (some ⟨br, 0, none⟩)] (fun k => smallB.drop (2 * k)) (fun k => headL.getD k 0) (by omega) hA (ent_half br) (fun k hk w v B hB hrv hs => by
    obtain ⟨a, b, h1, h2, h3⟩ := head_step k hk
    rw [h1] at hrv
    have := rhalf_any h2 hB hrv hs
    rwa [h3] at this) hr h
  rwa [head_vals] at ht
theorem tabWords_any {v : Value} {br p n : Nat} {X : List Int} (hw : WordsAt p n X) (hn : n ≤ 1000) (hX : (List.range n).map (fun k => X.getD k 0) = X) (hA : ∀ w', Sat W A w' → Ext W w') (hr : RdA W v (smallB.drop p)) (h : Sat W (pts br (rdB v) * A) w) :
    Calls Try.prog 36 #[.int .i64 n, .func (.func 39) #[.pointer (some ⟨br, 0, none⟩)] #[]] w fun e w' => ∃ u, e = .returned u ∧ ∃ v', RdA W v' (smallB.drop (p + 4 * n)) ∧ Sat W (rowJ u X * (pts br (rdB v') * A)) w' := by
  have ht := tabI_any (n := n) 39 #[.pointer (some ⟨br, 0, none⟩)] (fun k => smallB.drop (p + 4 * k)) (fun k => X.getD k 0) hn hA (ent_signed br) (fun k hk w v B hB hrv hs => by
    obtain ⟨a, b, c, d, h1, h2, h3⟩ := hw k hk
    rw [h1] at hrv
    have := rsigned_any h2 hB hrv hs
    rwa [h3] at this) hr h
  rwa [hX] at ht
end Go.Proofs.Ytembknlhocijkaa
