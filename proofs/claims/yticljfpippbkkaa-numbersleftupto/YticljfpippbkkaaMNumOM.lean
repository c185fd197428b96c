import Derived.Test.YticljfpippbkkaaMNumOT
import Derived.Test.YticljfpippbkkaaMNumLF
/-
  Arguments opened: what a table has. Conditions: none.
-/
set_option maxRecDepth 100000
namespace Go.Proofs.Yticljfpippbkkaa
open Go.RowKit Go.Sp Go.ChangeShapes Go.WideShapes Go.Deep

section
variable {H : Type} {enc : TypeId × Value → H} {W : World} {base : Nat} {spare : Nat → Bool} {held : Bool}

theorem cIM : Try.prog.cellsOf 3 = 1 := by kernel_rfl
theorem cGM : Try.prog.cellsOf 57 = 5 := by kernel_rfl
theorem cAM : Try.prog.cellsOf 70 = 3 := by kernel_rfl
theorem cBM : Try.prog.cellsOf 71 = 15 := by kernel_rfl
theorem cMM : Try.prog.cellsOf 73 = 21 := by kernel_rfl
theorem open_glueM {fuel : Nat} {cs : List Value} {x : DataW H × List MemPlace} (h : DataW.trod enc Try.prog W base spare held fuel 57 cs = some x) :
    ∃ g : Gl, cs = [.int .i64 g.nat, .int .i64 g.stretch, .int .i64 g.shrink, .int .i64 g.so, .int .i64 g.ko] := by
  obtain ⟨ys, n, _, hy, hlen, hyl, hf⟩ := DataW.trod_struct Try.underlying57 h
  rw [cGM] at hlen
  match cs, hlen with
  | [c0, c1, c2, c3, c4], _ =>
    match ys, hyl with
    | [y0, y1, y2, y3, y4], _ =>
      have k0 : DataW.trod enc Try.prog W base spare held n 3 [c0] = some y0 := by have := hf 0 _ rfl; simpa [cIM] using this
      have k1 : DataW.trod enc Try.prog W base spare held n 3 [c1] = some y1 := by have := hf 1 _ rfl; simpa [cIM] using this
      have k2 : DataW.trod enc Try.prog W base spare held n 3 [c2] = some y2 := by have := hf 2 _ rfl; simpa [cIM] using this
      have k3 : DataW.trod enc Try.prog W base spare held n 3 [c3] = some y3 := by have := hf 3 _ rfl; simpa [cIM] using this
      have k4 : DataW.trod enc Try.prog W base spare held n 3 [c4] = some y4 := by have := hf 4 _ rfl; simpa [cIM] using this
      obtain ⟨a0, q0, _, _⟩ := DataW.trod_int Try.underlying3 k0
      obtain ⟨a1, q1, _, _⟩ := DataW.trod_int Try.underlying3 k1
      obtain ⟨a2, q2, _, _⟩ := DataW.trod_int Try.underlying3 k2
      obtain ⟨a3, q3, _, _⟩ := DataW.trod_int Try.underlying3 k3
      obtain ⟨a4, q4, _, _⟩ := DataW.trod_int Try.underlying3 k4
      simp only [List.cons.injEq, and_true] at q0 q1 q2 q3 q4
      subst q0 q1 q2 q3 q4
      exact ⟨⟨a0, a1, a2, a3, a4⟩, rfl⟩
theorem open_int3 {fuel : Nat} {c0 c1 c2 : Value} {x : DataW H × List MemPlace} (h : DataW.trod enc Try.prog W base spare held fuel 70 [c0, c1, c2] = some x) :
    ∃ a b c : Int, c0 = .int .i64 a ∧ c1 = .int .i64 b ∧ c2 = .int .i64 c := by
  obtain ⟨xs, m, hm, hx, hlen, hn, hel⟩ := DataW.trod_array Try.underlying70 h
  match xs, hn with
  | [x0, x1, x2], _ =>
    have k0 : DataW.trod enc Try.prog W base spare held m 3 [c0] = some x0 := by have := hel 0 (by omega); simpa [cIM] using this
    have k1 : DataW.trod enc Try.prog W base spare held m 3 [c1] = some x1 := by have := hel 1 (by omega); simpa [cIM] using this
    have k2 : DataW.trod enc Try.prog W base spare held m 3 [c2] = some x2 := by have := hel 2 (by omega); simpa [cIM] using this
    obtain ⟨a0, q0, _, _⟩ := DataW.trod_int Try.underlying3 k0
    obtain ⟨a1, q1, _, _⟩ := DataW.trod_int Try.underlying3 k1
    obtain ⟨a2, q2, _, _⟩ := DataW.trod_int Try.underlying3 k2
    simp only [List.cons.injEq, and_true] at q0 q1 q2
    exact ⟨a0, a1, a2, q0, q1, q2⟩
theorem open_glue3 {fuel : Nat} {c0 c1 c2 c3 c4 c5 c6 c7 c8 c9 c10 c11 c12 c13 c14 : Value} {x : DataW H × List MemPlace} (h : DataW.trod enc Try.prog W base spare held fuel 71 [c0, c1, c2, c3, c4, c5, c6, c7, c8, c9, c10, c11, c12, c13, c14] = some x) :
    ∃ f g k : Gl, [c0, c1, c2, c3, c4] = [.int .i64 f.nat, .int .i64 f.stretch, .int .i64 f.shrink, .int .i64 f.so, .int .i64 f.ko] ∧ [c5, c6, c7, c8, c9] = [.int .i64 g.nat, .int .i64 g.stretch, .int .i64 g.shrink, .int .i64 g.so, .int .i64 g.ko] ∧ [c10, c11, c12, c13, c14] = [.int .i64 k.nat, .int .i64 k.stretch, .int .i64 k.shrink, .int .i64 k.so, .int .i64 k.ko] := by
  obtain ⟨xs, m, hm, hx, hlen, hn, hel⟩ := DataW.trod_array Try.underlying71 h
  match xs, hn with
  | [x0, x1, x2], _ =>
    have k0 : DataW.trod enc Try.prog W base spare held m 57 [c0, c1, c2, c3, c4] = some x0 := by have := hel 0 (by omega); simpa [cGM] using this
    have k1 : DataW.trod enc Try.prog W base spare held m 57 [c5, c6, c7, c8, c9] = some x1 := by have := hel 1 (by omega); simpa [cGM] using this
    have k2 : DataW.trod enc Try.prog W base spare held m 57 [c10, c11, c12, c13, c14] = some x2 := by have := hel 2 (by omega); simpa [cGM] using this
    obtain ⟨f, q0⟩ := open_glueM k0
    obtain ⟨g, q1⟩ := open_glueM k1
    obtain ⟨k, q2⟩ := open_glueM k2
    exact ⟨f, g, k, q0, q1, q2⟩
theorem open_madeL {fuel : Nat} {cs : List Value} {x : DataW H × List MemPlace} (h : DataW.trod enc Try.prog W base spare held fuel 73 cs = some x) :
    ∃ (N D : Nat → Int) (G : Nat → Gl), cs = (madeA N D G).toList := by
  obtain ⟨ys, n, _, hy, hlen, hyl, hf⟩ := DataW.trod_struct Try.underlying73 h
  rw [cMM] at hlen
  match cs, hlen with
  | [c0, c1, c2, c3, c4, c5, c6, c7, c8, c9, c10, c11, c12, c13, c14, c15, c16, c17, c18, c19, c20], _ =>
    match ys, hyl with
    | [y0, y1, y2], _ =>
      have k0 : DataW.trod enc Try.prog W base spare held n 70 [c0, c1, c2] = some y0 := by have := hf 0 _ rfl; simpa [cAM] using this
      have k1 : DataW.trod enc Try.prog W base spare held n 70 [c3, c4, c5] = some y1 := by have := hf 1 _ rfl; simpa [cAM] using this
      have k2 : DataW.trod enc Try.prog W base spare held n 71 [c6, c7, c8, c9, c10, c11, c12, c13, c14, c15, c16, c17, c18, c19, c20] = some y2 := by have := hf 2 _ rfl; simpa [cAM, cBM] using this
      obtain ⟨n0, n1, n2, rfl, rfl, rfl⟩ := open_int3 k0
      obtain ⟨d0, d1, d2, rfl, rfl, rfl⟩ := open_int3 k1
      obtain ⟨f, g, k, q0, q1, q2⟩ := open_glue3 k2
      simp only [List.cons.injEq, and_true] at q0 q1 q2
      obtain ⟨rfl, rfl, rfl, rfl, rfl⟩ := q0
      obtain ⟨rfl, rfl, rfl, rfl, rfl⟩ := q1
      obtain ⟨rfl, rfl, rfl, rfl, rfl⟩ := q2
      exact ⟨fun i => if i = 0 then n0 else if i = 1 then n1 else n2, fun i => if i = 0 then d0 else if i = 1 then d1 else d2, fun i => if i = 0 then f else if i = 1 then g else k, rfl⟩
theorem open_made {v : Value} {d : DataW H} {p : List MemPlace} {b0 : Nat} {r : Reach} (hv : Value.okWide Try.prog W r b0 73 v) (h : DataW.Trod enc Try.prog W base spare held 73 v d p) :
    ∃ (N D : Nat → Int) (G : Nat → Gl), v = .agg (madeA N D G) := by
  obtain ⟨fuel, hf⟩ := h
  obtain ⟨cs, rfl, _⟩ := okWide_struct Try.underlying73 hv
  obtain ⟨N, D, G, h1⟩ := open_madeL hf
  have h4 : cs.toList = (madeA N D G).toList := h1
  exact ⟨N, D, G, by rw [Array.toList_inj.1 h4]⟩
end
end Go.Proofs.Yticljfpippbkkaa
