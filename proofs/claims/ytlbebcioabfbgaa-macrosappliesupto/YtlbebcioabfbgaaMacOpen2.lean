/-
  Arguments opened: lists of lists of tokens. Conditions: none.
-/
import Derived.Test.YtlbebcioabfbgaaMacOpen
import Derived.Test.YtlbebcioabfbgaaMacH
namespace Go.Proofs.Ytlbebcioabfbgaa
open Go.RowKit Go.Sp Go.ChangeShapes Go.WideShapes Go.Deep

section
variable {H : Type} {enc : TypeId × Value → H} {W : World} {base : Nat} {spare : Nat → Bool} {held : Bool}

theorem bulk_mem {H : Type} (l : List (DataW H)) : ∀ d ∈ l, Rows.uptoBulk d ≤ Rows.uptoBulkAll l := by
  induction l with
  | nil => intro d h; simp at h
  | cons x r ih =>
    intro d h
    simp only [Rows.uptoBulkAll]
    rcases List.mem_cons.1 h with rfl | h
    · omega
    · have := ih d h; omega

theorem open_lists {v : Value} {d : DataW H} {p : List MemPlace} {b0 : Nat} {r : Reach} (hv : Value.okWide Try.prog W r b0 39 v) (h : DataW.Trod enc Try.prog W base spare held 39 v d p) :
    ∃ A : List (List Tok), RdTT W v A ∧ A.length + 1 ≤ Rows.uptoBulk d ∧ ∀ a ∈ A, a.length ≤ Rows.uptoBulk d := by
  obtain ⟨fuel, hf⟩ := h
  obtain ⟨a0, n0, c0, rfl⟩ := okWide_slice Try.underlying39 hv
  rcases open_slice Try.underlying39 hf with ⟨e, hd⟩ | ⟨a, len, cap, m, n, D, Pl, e, hb, hl, hm, hmm, hd, hi⟩
  · have e2 : Value.slice a0 n0 c0 = .slice none 0 0 := by simpa [Value.cells] using e
    cases e2
    cases hd
    exact ⟨[], ⟨[], rfl, ⟨rfl, Nat.zero_le _, none, 0, rfl, fun j u hu => by simp at hu⟩, ⟨none, 0, rfl, Nat.le_refl _⟩, fun i u L hu => by simp at hu⟩, by simp [Rows.uptoBulk], fun a h => by simp at h⟩
  · have e2 : Value.slice a0 n0 c0 = .slice (some a) len cap := by simpa [Value.cells] using e
    simp only [Value.slice.injEq] at e2
    obtain ⟨rfl, rfl, rfl⟩ := e2
    cases hd
    have e3 : Try.prog.cellsOf 22 = 1 := by kernel_rfl
    have hlm : n0 ≤ m := by rw [hmm]; split <;> omega
    have each : ∀ i, ∃ t : Value × List Tok, i < m → W.cells? base (a.add (i * 1)) 1 = some [t.1] ∧ RdT W t.1 t.2 ∧ t.2.length + 1 ≤ Rows.uptoBulk (D i) := by
      intro i
      by_cases him : i < m
      · obtain ⟨cs', hc, ht⟩ := hi i him
        rw [e3] at hc
        obtain ⟨u, L, rfl, hr, hbk⟩ := open_tokens ht
        exact ⟨(u, L), fun _ => ⟨hc, hr, hbk⟩⟩
      · exact ⟨(.slice none 0 0, []), fun h => absurd h him⟩
    obtain ⟨T, hT⟩ := Classical.axiomOfChoice each
    have hlen : ((List.range n0).map fun i => (T i).2).length = n0 := by simp
    refine ⟨(List.range n0).map fun i => (T i).2, ⟨(List.range n0).map fun i => (T i).1, by simp, ⟨by simp, by simp; omega, some a, c0, by rw [hlen], fun j u hu => ?_⟩, ⟨some a, c0, by rw [hlen], by rw [hlen]; exact hl⟩, fun i u L hu hL => ?_⟩, ?_, ?_⟩
    · have hj : j < n0 := by have := (List.getElem?_eq_some_iff.1 hu).1; simpa using this
      rw [List.getElem?_map, List.getElem?_range hj] at hu
      simp only [Option.map_some, Option.some.injEq] at hu
      obtain ⟨hc, -, -⟩ := hT j (by omega)
      obtain ⟨_, hcl, hat⟩ := World.cells?_some hc
      have h0 := hat 0 (by omega)
      have hc0 := World.cells?_some (hT 0 (by omega)).1
      have h00 := hc0.2.2 0 (by omega)
      have hsp : a.spot = none := by
        have h9 : W.cell? a = some (T 0).1 := by
          have : (a.add (0 * 1)).add 0 = a := by simp [Addr.add]
          rw [this] at h00
          simpa using h00
        exact World.cell?_spot h9
      obtain ⟨b, off, spot⟩ := a
      simp only at hsp
      subst hsp
      refine ⟨b, off, rfl, ?_⟩
      rw [Addr.add_lit, Addr.add_lit, Nat.add_zero, Nat.mul_one] at h0
      rw [← hu]
      simpa using h0
    · have hj : i < n0 := by have := (List.getElem?_eq_some_iff.1 hu).1; simpa using this
      rw [List.getElem?_map, List.getElem?_range hj] at hu hL
      simp only [Option.map_some, Option.some.injEq] at hu hL
      rw [← hu, ← hL]
      exact (hT i (by omega)).2.1
    · simp only [Rows.uptoBulk]
      have h1 := bulk_len ((List.range n0).map D)
      simp only [List.length_map, List.length_range] at h1 ⊢
      omega
    · intro x hx
      obtain ⟨i, hi2, rfl⟩ := List.mem_map.1 hx
      have hin : i < n0 := by simpa using hi2
      have h1 := (hT i (by omega)).2.2
      have h2 := bulk_mem ((List.range n0).map D) (D i) (List.mem_map.2 ⟨i, hi2, rfl⟩)
      simp only [Rows.uptoBulk]
      omega
end
end Go.Proofs.Ytlbebcioabfbgaa
