/-
  Arguments opened: lists of changes. Conditions: none.
-/
import Derived.Test.YtkfobimigiaknaaDoorCodOpen
import Derived.Test.YtkfobimigiaknaaDoorCodRJ
import Derived.Deep.Slices
import Derived.Deep.Fields
namespace Go.Proofs.YtkfobimigiaknaaDoor
open Go.RowKit Go.Sp Go.ChangeShapes Go.WideShapes Go.Deep

section
variable {H : Type} {enc : TypeId × Value → H} {W : World} {base : Nat} {spare : Nat → Bool} {held : Bool}

theorem open_ch {fuel : Nat} {cs : List Value} {x : DataW H × List MemPlace} (h : DataW.trod enc Tryd.prog W base spare held fuel 49 cs = some x) :
    ∃ t : Ch, cs = t.cells := by
  obtain ⟨ys, n, _, hy, hlen, hyl, hf⟩ := DataW.trod_struct Tryd.underlying49 h
  have e3 : Tryd.prog.cellsOf 49 = 4 := by kernel_rfl
  have i1 : Tryd.prog.cellsOf 3 = 1 := by kernel_rfl
  have s1 : Tryd.prog.cellsOf 4 = 1 := by kernel_rfl
  rw [e3] at hlen
  match cs, hlen with
  | [c0, c1, c2, c3], _ =>
    match ys, hyl with
    | [y0, y1, y2, y3], _ =>
      have k0 : DataW.trod enc Tryd.prog W base spare held n 3 [c0] = some y0 := by have := hf 0 _ rfl; simpa [i1] using this
      have k1 : DataW.trod enc Tryd.prog W base spare held n 3 [c1] = some y1 := by have := hf 1 _ rfl; simpa [i1] using this
      have k2 : DataW.trod enc Tryd.prog W base spare held n 3 [c2] = some y2 := by have := hf 2 _ rfl; simpa [i1] using this
      have k3 : DataW.trod enc Tryd.prog W base spare held n 4 [c3] = some y3 := by have := hf 3 _ rfl; simpa [s1] using this
      obtain ⟨a, q0, _, _⟩ := DataW.trod_int Tryd.underlying3 k0
      obtain ⟨b, q1, _, _⟩ := DataW.trod_int Tryd.underlying3 k1
      obtain ⟨c, q2, _, _⟩ := DataW.trod_int Tryd.underlying3 k2
      obtain ⟨s, q3, _⟩ := DataW.trod_bool Tryd.underlying4 k3
      simp only [List.cons.injEq, and_true] at q0 q1 q2 q3
      subst q0 q1 q2 q3
      exact ⟨⟨a, b, c, s⟩, rfl⟩

theorem open_changes {v : Value} {d : DataW H} {p : List MemPlace} {b0 : Nat} {r : Reach} (hv : Value.okWide Tryd.prog W r b0 44 v) (h : DataW.Trod enc Tryd.prog W base spare held 44 v d p) :
    ∃ L : List Ch, RdC W v L := by
  obtain ⟨fuel, hf⟩ := h
  obtain ⟨a0, n0, c0, rfl⟩ := okWide_slice Tryd.underlying44 hv
  rcases open_slice Tryd.underlying44 hf with ⟨e, _⟩ | ⟨a, len, cap, m, n, D, Pl, e, hb, hl, hm, hmm, _, hi⟩
  · have e2 : Value.slice a0 n0 c0 = .slice none 0 0 := by simpa [Value.cells] using e
    cases e2
    exact ⟨[], Nat.zero_le _, none, 0, rfl, fun i hi => by simp at hi⟩
  · have e2 : Value.slice a0 n0 c0 = .slice (some a) len cap := by simpa [Value.cells] using e
    simp only [Value.slice.injEq] at e2
    obtain ⟨rfl, rfl, rfl⟩ := e2
    have e3 : Tryd.prog.cellsOf 49 = 4 := by kernel_rfl
    have hlm : n0 ≤ m := by rw [hmm]; split <;> omega
    have each : ∀ i, ∃ t : Ch, i < m → W.cells? base (a.add (i * 4)) 4 = some t.cells := by
      intro i
      by_cases him : i < m
      · obtain ⟨cs', hc, ht⟩ := hi i him
        rw [e3] at hc
        obtain ⟨t, rfl⟩ := open_ch ht
        exact ⟨t, fun _ => hc⟩
      · exact ⟨⟨0, 0, 0, false⟩, fun h => absurd h him⟩
    obtain ⟨T, hT⟩ := Classical.axiomOfChoice each
    refine ⟨(List.range n0).map T, by simp; omega, some a, c0, by simp, fun i hi' => ?_⟩
    have hi0 : i < n0 := by simpa using hi'
    have hc := hT i (by omega)
    obtain ⟨_, hcl, hat⟩ := World.cells?_some hc
    have hc0 := World.cells?_some (hT 0 (by omega))
    have h0 := hc0.2.2 0 (by omega)
    have hsp : a.spot = none := by
      have h00 : W.cell? a = some ((T 0).cells[0]'(by simp [Ch.cells])) := by
        have : (a.add (0 * 4)).add 0 = a := by simp [Addr.add]
        rw [this] at h0
        rw [h0]; exact List.getElem?_eq_getElem _
      exact World.cell?_spot h00
    obtain ⟨b, off, spot⟩ := a
    simp only at hsp
    subst hsp
    refine ⟨b, off, rfl, fun j u hu => ?_⟩
    rw [List.getElem_map, List.getElem_range] at hu
    have hj : j < 4 := by have := (List.getElem?_eq_some_iff.1 hu).1; simpa [Ch.cells] using this
    have h1 := hat j hj
    rw [Addr.add_lit, Addr.add_lit] at h1
    rw [h1, hu]
end
end Go.Proofs.YtkfobimigiaknaaDoor
