
/-
  Arguments opened: calls of a table. Conditions: none.
-/
import Derived.Test.YtebggkgciocciaaGreatNilZ
import Derived.Test.YtebggkgciocciaaGreatMacOpen
set_option maxRecDepth 100000
namespace Go.Proofs.YtebggkgciocciaaGreat
open Go.RowKit Go.Sp Go.ChangeShapes Go.WideShapes Go.Deep

section
variable {H : Type} {enc : TypeId × Value → H} {W : World} {base : Nat} {spare : Nat → Bool} {held : Bool}

theorem cI : Tryz.prog.cellsOf 3 = 1 := by kernel_rfl
theorem cS : Tryz.prog.cellsOf 9 = 1 := by kernel_rfl
theorem cB : Tryz.prog.cellsOf 4 = 1 := by kernel_rfl
theorem cL : Tryz.prog.cellsOf 27 = 1 := by kernel_rfl
theorem cG : Tryz.prog.cellsOf 26 = 5 := by kernel_rfl
theorem cM : Tryz.prog.cellsOf 37 = 5 := by kernel_rfl
theorem cV : Tryz.prog.cellsOf 38 = 7 := by kernel_rfl
theorem cT : Tryz.prog.cellsOf 40 = 3 := by kernel_rfl
theorem cO : Tryz.prog.cellsOf 42 = 21 := by kernel_rfl

theorem open_glue {fuel : Nat} {cs : List Value} {x : DataW H × List MemPlace} (h : DataW.trod enc Tryz.prog W base spare held fuel 26 cs = some x) :
    ∃ g : Gl, cs = [.int .i64 g.nat, .int .i64 g.stretch, .int .i64 g.shrink, .int .i64 g.so, .int .i64 g.ko] := by
  obtain ⟨ys, n, _, hy, hlen, hyl, hf⟩ := DataW.trod_struct Tryz.underlying26 h
  rw [cG] at hlen
  match cs, hlen with
  | [c0, c1, c2, c3, c4], _ =>
    match ys, hyl with
    | [y0, y1, y2, y3, y4], _ =>
      have k0 : DataW.trod enc Tryz.prog W base spare held n 3 [c0] = some y0 := by have := hf 0 _ rfl; simpa [cI] using this
      have k1 : DataW.trod enc Tryz.prog W base spare held n 3 [c1] = some y1 := by have := hf 1 _ rfl; simpa [cI] using this
      have k2 : DataW.trod enc Tryz.prog W base spare held n 3 [c2] = some y2 := by have := hf 2 _ rfl; simpa [cI] using this
      have k3 : DataW.trod enc Tryz.prog W base spare held n 3 [c3] = some y3 := by have := hf 3 _ rfl; simpa [cI] using this
      have k4 : DataW.trod enc Tryz.prog W base spare held n 3 [c4] = some y4 := by have := hf 4 _ rfl; simpa [cI] using this
      obtain ⟨a0, q0, _, _⟩ := DataW.trod_int Tryz.underlying3 k0
      obtain ⟨a1, q1, _, _⟩ := DataW.trod_int Tryz.underlying3 k1
      obtain ⟨a2, q2, _, _⟩ := DataW.trod_int Tryz.underlying3 k2
      obtain ⟨a3, q3, _, _⟩ := DataW.trod_int Tryz.underlying3 k3
      obtain ⟨a4, q4, _, _⟩ := DataW.trod_int Tryz.underlying3 k4
      simp only [List.cons.injEq, and_true] at q0 q1 q2 q3 q4
      subst q0 q1 q2 q3 q4
      exact ⟨⟨a0, a1, a2, a3, a4⟩, rfl⟩

theorem open_mean {fuel : Nat} {cs : List Value} {x : DataW H × List MemPlace} (h : DataW.trod enc Tryz.prog W base spare held fuel 37 cs = some x) :
    ∃ m : Mean, cs = [.int .i64 m.kind, .int .i64 m.cls, .int .i64 m.code, .int .i64 m.cat, .string m.text] := by
  obtain ⟨ys, n, _, hy, hlen, hyl, hf⟩ := DataW.trod_struct Tryz.underlying37 h
  rw [cM] at hlen
  match cs, hlen with
  | [c0, c1, c2, c3, c4], _ =>
    match ys, hyl with
    | [y0, y1, y2, y3, y4], _ =>
      have k0 : DataW.trod enc Tryz.prog W base spare held n 3 [c0] = some y0 := by have := hf 0 _ rfl; simpa [cI] using this
      have k1 : DataW.trod enc Tryz.prog W base spare held n 3 [c1] = some y1 := by have := hf 1 _ rfl; simpa [cI] using this
      have k2 : DataW.trod enc Tryz.prog W base spare held n 3 [c2] = some y2 := by have := hf 2 _ rfl; simpa [cI] using this
      have k3 : DataW.trod enc Tryz.prog W base spare held n 3 [c3] = some y3 := by have := hf 3 _ rfl; simpa [cI] using this
      have k4 : DataW.trod enc Tryz.prog W base spare held n 9 [c4] = some y4 := by have := hf 4 _ rfl; simpa [cI, cS] using this
      obtain ⟨a0, q0, _, _⟩ := DataW.trod_int Tryz.underlying3 k0
      obtain ⟨a1, q1, _, _⟩ := DataW.trod_int Tryz.underlying3 k1
      obtain ⟨a2, q2, _, _⟩ := DataW.trod_int Tryz.underlying3 k2
      obtain ⟨a3, q3, _, _⟩ := DataW.trod_int Tryz.underlying3 k3
      obtain ⟨a4, q4, _⟩ := DataW.trod_string Tryz.underlying9 k4
      simp only [List.cons.injEq, and_true] at q0 q1 q2 q3 q4
      subst q0 q1 q2 q3 q4
      exact ⟨⟨a0, a1, a2, a3, a4⟩, rfl⟩

theorem open_val {fuel : Nat} {cs : List Value} {x : DataW H × List MemPlace} (h : DataW.trod enc Tryz.prog W base spare held fuel 38 cs = some x) :
    ∃ (v : RegS) (s : Value), cs = [.int .i64 v.n, .int .i64 v.g.nat, .int .i64 v.g.stretch, .int .i64 v.g.shrink, .int .i64 v.g.so, .int .i64 v.g.ko, s] ∧ RdT W s v.toks ∧ v.toks.length + 1 ≤ Rows.uptoBulk x.1 := by
  obtain ⟨ys, n, _, hy, hlen, hyl, hf⟩ := DataW.trod_struct Tryz.underlying38 h
  rw [cV] at hlen
  match cs, hlen with
  | [c0, c1, c2, c3, c4, c5, c6], _ =>
    match ys, hyl with
    | [y0, y1, y2], _ =>
      have k0 : DataW.trod enc Tryz.prog W base spare held n 3 [c0] = some y0 := by have := hf 0 _ rfl; simpa [cI] using this
      have k1 : DataW.trod enc Tryz.prog W base spare held n 26 [c1, c2, c3, c4, c5] = some y1 := by have := hf 1 _ rfl; simpa [cI, cG] using this
      have k2 : DataW.trod enc Tryz.prog W base spare held n 27 [c6] = some y2 := by have := hf 2 _ rfl; simpa [cI, cG, cL] using this
      obtain ⟨a0, q0, _, _⟩ := DataW.trod_int Tryz.underlying3 k0
      obtain ⟨g, q1⟩ := open_glue k1
      obtain ⟨s, L, q2, hr, hb⟩ := open_tokens k2
      simp only [List.cons.injEq, and_true] at q0 q1 q2
      obtain ⟨rfl, rfl, rfl, rfl, rfl⟩ := q1
      subst q0 q2
      refine ⟨⟨a0, g, L⟩, _, rfl, hr, ?_⟩
      rw [hy]
      simp only [List.map_cons, List.map_nil, Rows.uptoBulk, Rows.uptoBulkAll]
      omega

theorem open_op {fuel : Nat} {cs : List Value} {x : DataW H × List MemPlace} (h : DataW.trod enc Tryz.prog W base spare held fuel 42 cs = some x) :
    ∃ (o : OpS) (s : Value), cs = (o.cells s).toList ∧ RdT W s o.v.toks ∧ o.v.toks.length + 1 ≤ Rows.uptoBulk x.1 := by
  obtain ⟨ys, n, _, hy, hlen, hyl, hf⟩ := DataW.trod_struct Tryz.underlying42 h
  rw [cO] at hlen
  match cs, hlen with
  | [c0, c1, c2, c3, c4, c5, c6, c7, c8, c9, c10, c11, c12, c13, c14, c15, c16, c17, c18, c19, c20], _ =>
    match ys, hyl with
    | [y0, y1, y2, y3, y4, y5, y6, y7, y8], _ =>
      have k0 : DataW.trod enc Tryz.prog W base spare held n 3 [c0] = some y0 := by have := hf 0 _ rfl; simpa [cI] using this
      have k1 : DataW.trod enc Tryz.prog W base spare held n 3 [c1] = some y1 := by have := hf 1 _ rfl; simpa [cI] using this
      have k2 : DataW.trod enc Tryz.prog W base spare held n 3 [c2] = some y2 := by have := hf 2 _ rfl; simpa [cI] using this
      have k3 : DataW.trod enc Tryz.prog W base spare held n 3 [c3] = some y3 := by have := hf 3 _ rfl; simpa [cI] using this
      have k4 : DataW.trod enc Tryz.prog W base spare held n 9 [c4] = some y4 := by have := hf 4 _ rfl; simpa [cI, cS] using this
      have k5 : DataW.trod enc Tryz.prog W base spare held n 37 [c5, c6, c7, c8, c9] = some y5 := by have := hf 5 _ rfl; simpa [cI, cS, cM] using this
      have k6 : DataW.trod enc Tryz.prog W base spare held n 38 [c10, c11, c12, c13, c14, c15, c16] = some y6 := by have := hf 6 _ rfl; simpa [cI, cS, cM, cV] using this
      have k7 : DataW.trod enc Tryz.prog W base spare held n 40 [c17, c18, c19] = some y7 := by have := hf 7 _ rfl; simpa [cI, cS, cM, cV, cT] using this
      have k8 : DataW.trod enc Tryz.prog W base spare held n 4 [c20] = some y8 := by have := hf 8 _ rfl; simpa [cI, cS, cM, cV, cT, cB] using this
      obtain ⟨a0, q0, _, _⟩ := DataW.trod_int Tryz.underlying3 k0
      obtain ⟨a1, q1, _, _⟩ := DataW.trod_int Tryz.underlying3 k1
      obtain ⟨a2, q2, _, _⟩ := DataW.trod_int Tryz.underlying3 k2
      obtain ⟨a3, q3, _, _⟩ := DataW.trod_int Tryz.underlying3 k3
      obtain ⟨a4, q4, _⟩ := DataW.trod_string Tryz.underlying9 k4
      obtain ⟨m, q5⟩ := open_mean k5
      obtain ⟨v, s, q6, hr, hb⟩ := open_val k6
      obtain ⟨t, q7⟩ := open_tok k7
      obtain ⟨gl, q8, _⟩ := DataW.trod_bool Tryz.underlying4 k8
      simp only [Tok.cells, List.cons.injEq, and_true] at q0 q1 q2 q3 q4 q5 q6 q7 q8
      obtain ⟨rfl, rfl, rfl, rfl, rfl⟩ := q5
      obtain ⟨rfl, rfl, rfl, rfl, rfl, rfl, rfl⟩ := q6
      obtain ⟨rfl, rfl, rfl⟩ := q7
      subst q0 q1 q2 q3 q4 q8
      refine ⟨⟨a0, a1, a2, a3, a4, m, v, t, gl⟩, _, rfl, hr, ?_⟩
      rw [hy]
      simp only [List.map_cons, List.map_nil, Rows.uptoBulk, Rows.uptoBulkAll]
      show v.toks.length + 1 ≤ _
      omega

theorem bulk_mem {l : List (DataW H)} {d : DataW H} (h : d ∈ l) : Rows.uptoBulk d ≤ Rows.uptoBulkAll l := by
  induction l with
  | nil => cases h
  | cons x r ih =>
    simp only [Rows.uptoBulkAll]
    cases h with
    | head => omega
    | tail _ h => have := ih h; omega

theorem open_ops {v : Value} {d : DataW H} {p : List MemPlace} {b0 : Nat} {r : Reach} (hv : Value.okWide Tryz.prog W r b0 22 v) (h : DataW.Trod enc Tryz.prog W base spare held 22 v d p) (hk : Rows.uptoBulk d ≤ 1048576) :
    ∃ L : List (OpS × Value), RdO W v L ∧ L.length ≤ 1048576 := by
  obtain ⟨fuel, hf⟩ := h
  obtain ⟨a0, n0, c0, rfl⟩ := okWide_slice Tryz.underlying22 hv
  rcases open_slice Tryz.underlying22 hf with ⟨e, _⟩ | ⟨a, len, cap, m, n, D, Pl, e, hb, hl, hm, hmm, hdd, hi⟩
  · have e2 : Value.slice a0 n0 c0 = .slice none 0 0 := by simpa [Value.cells] using e
    cases e2
    exact ⟨[], ⟨⟨none, 0, rfl, fun k h => (by simp at h)⟩, (fun x hx => (by cases hx)), (fun x hx => (by cases hx))⟩, Nat.zero_le _⟩
  · have e2 : Value.slice a0 n0 c0 = .slice (some a) len cap := by simpa [Value.cells] using e
    simp only [Value.slice.injEq] at e2
    obtain ⟨rfl, rfl, rfl⟩ := e2
    have hlm : n0 ≤ m := by rw [hmm]; split <;> omega
    have hd : d = DataW.slice (List.map D (List.range n0)) (List.map (fun j => D (n0 + j)) (List.range (m - n0))) := congrArg Prod.fst hdd
    have hbulk : Rows.uptoBulkAll (List.map D (List.range n0)) ≤ 1048576 := by
      rw [hd] at hk
      simp only [Rows.uptoBulk] at hk
      omega
    have each : ∀ i, ∃ t : OpS × Value, i < m → W.cells? base (a.add (i * 21)) 21 = some (t.1.cells t.2).toList ∧ RdT W t.2 t.1.v.toks ∧ t.1.v.toks.length + 1 ≤ Rows.uptoBulk (D i) := by
      intro i
      by_cases him : i < m
      · obtain ⟨cs', hc, ht⟩ := hi i him
        rw [cO] at hc
        obtain ⟨o, s, rfl, h1, h2⟩ := open_op ht
        exact ⟨(o, s), fun _ => ⟨hc, h1, h2⟩⟩
      · exact ⟨(⟨0, 0, 0, 0, ByteArray.empty, ⟨0, 0, 0, 0, ByteArray.empty⟩, ⟨0, ⟨0, 0, 0, 0, 0⟩, []⟩, ⟨0, 0, ByteArray.empty⟩, false⟩, .bool false), fun h => absurd h him⟩
    obtain ⟨T, hT⟩ := Classical.axiomOfChoice each
    have hlen : ((List.range n0).map T).length = n0 := by simp
    have hn : n0 ≤ 1048576 := by
      have := bulk_len (List.map D (List.range n0))
      simp only [List.length_map, List.length_range] at this
      omega
    refine ⟨(List.range n0).map T, ⟨⟨some a, c0, by rw [hlen], fun k hk => ?_⟩, fun x hx => ?_, fun x hx => ?_⟩, by rw [hlen]; exact hn⟩
    · have hk0 : k < n0 := by rw [hlen] at hk; exact hk
      have hc := hT k (by omega)
      obtain ⟨_, hcl, hat⟩ := World.cells?_some hc.1
      have h0 := (World.cells?_some (hT 0 (by omega)).1).2.2 0 (by omega)
      have hsp : a.spot = none := by
        have h00 : W.cell? a = some (.int .i64 (T 0).1.kind) := by
          have : (a.add (0 * 21)).add 0 = a := by simp [Addr.add]
          rw [this] at h0
          rw [h0]; rfl
        exact World.cell?_spot h00
      obtain ⟨b, off, spot⟩ := a
      simp only at hsp
      subst hsp
      refine ⟨b, off, rfl, fun j u hu => ?_⟩
      rw [List.getElem_map, List.getElem_range] at hu
      have hj : j < 21 := by
        have := (Array.getElem?_eq_some_iff.1 hu).1
        simpa using this
      have hat2 := hat j hj
      rw [Go.Deep.add_add, Addr.add_lit] at hat2
      rw [Nat.add_assoc, hat2, Array.getElem?_toList]
      exact hu
    · simp only [List.mem_map, List.mem_range] at hx
      obtain ⟨k, hk0, rfl⟩ := hx
      exact (hT k (by omega)).2.1
    · simp only [List.mem_map, List.mem_range] at hx
      obtain ⟨k, hk0, rfl⟩ := hx
      have h1 := (hT k (by omega)).2.2
      have h2 := bulk_mem (l := List.map D (List.range n0)) (d := D k) (by simp only [List.mem_map, List.mem_range]; exact ⟨k, hk0, rfl⟩)
      omega

theorem open_one {v : Value} {d : DataW H} {p : List MemPlace} {b0 : Nat} {r : Reach} (hv : Value.okWide Tryz.prog W r b0 42 v) (h : DataW.Trod enc Tryz.prog W base spare held 42 v d p) :
    ∃ (o : OpS) (s : Value), v = o.val s ∧ RdT W s o.v.toks ∧ o.v.toks.length + 1 ≤ Rows.uptoBulk d := by
  obtain ⟨fuel, hf⟩ := h
  obtain ⟨cs, rfl, _⟩ := okWide_struct Tryz.underlying42 hv
  obtain ⟨o, s, h1, h2, h3⟩ := open_op hf
  refine ⟨o, s, ?_, h2, h3⟩
  have h4 : cs.toList = (o.cells s).toList := h1
  rw [Array.toList_inj.1 h4]
end
end Go.Proofs.YtebggkgciocciaaGreat
