import Derived.Test.YticljfpippbkkaaMLA
import Derived.Deep.Slices
import Derived.Deep.Fields
import Derived.ChangeSame
import Derived.OpenShut
import Derived.Lib.SmallJoins
/-
  Arguments opened: lists of tokens, macros. Conditions: none.
-/
set_option maxRecDepth 100000
namespace Go.Proofs.Yticljfpippbkkaa
open Go.RowKit Go.Sp Go.ChangeShapes Go.WideShapes Go.Deep

section
variable {H : Type} {enc : TypeId × Value → H} {W : World} {base : Nat} {spare : Nat → Bool} {held : Bool}

theorem bulk_one {H : Type} (d : DataW H) : 1 ≤ Rows.uptoBulk d := by
  cases d with
  | lit l => cases l <;> simp [Rows.uptoBulk]
  | nil => simp [Rows.uptoBulk]
  | ptr d => simp [Rows.uptoBulk]
  | slice elems spare => simp [Rows.uptoBulk]
  | agg parts => simp [Rows.uptoBulk]
  | iface t d => simp [Rows.uptoBulk]
  | map entries => simp [Rows.uptoBulk]
  | held h => simp [Rows.uptoBulk]

theorem bulk_len {H : Type} (l : List (DataW H)) : l.length ≤ Rows.uptoBulkAll l := by
  induction l with
  | nil => simp [Rows.uptoBulkAll]
  | cons x r ih => have := bulk_one x; simp only [Rows.uptoBulkAll, List.length_cons]; omega

/-- a token in memory, out of what is read there -/
theorem open_tok {fuel : Nat} {cs : List Value} {x : DataW H × List MemPlace} (h : DataW.trod enc Try.prog W base spare held fuel 28 cs = some x) :
    ∃ t : Tok, cs = t.cells := by
  obtain ⟨ys, n, _, hy, hlen, hyl, hf⟩ := DataW.trod_struct Try.underlying28 h
  have e3 : Try.prog.cellsOf 28 = 3 := by kernel_rfl
  have i1 : Try.prog.cellsOf 3 = 1 := by kernel_rfl
  have u1 : Try.prog.cellsOf 5 = 1 := by kernel_rfl
  have s1 : Try.prog.cellsOf 9 = 1 := by kernel_rfl
  rw [e3] at hlen
  match cs, hlen with
  | [c0, c1, c2], _ =>
    match ys, hyl with
    | [y0, y1, y2], _ =>
      have k0 : DataW.trod enc Try.prog W base spare held n 3 [c0] = some y0 := by have := hf 0 _ rfl; simpa [i1] using this
      have k1 : DataW.trod enc Try.prog W base spare held n 5 [c1] = some y1 := by have := hf 1 _ rfl; simpa [u1] using this
      have k2 : DataW.trod enc Try.prog W base spare held n 9 [c2] = some y2 := by have := hf 2 _ rfl; simpa [s1] using this
      obtain ⟨a, q0, _, _⟩ := DataW.trod_int Try.underlying3 k0
      obtain ⟨c, q1, _, hc⟩ := DataW.trod_int Try.underlying5 k1
      obtain ⟨s, q2, _⟩ := DataW.trod_string Try.underlying9 k2
      simp only [List.cons.injEq, and_true] at q0 q1 q2
      subst q0 q1 q2
      have hc2 : 0 ≤ c ∧ c < 256 := by
        have hm : IntKind.u8.min = 0 := by decide
        have hM : IntKind.u8.max = 255 := by decide
        simp [Lit.wf] at hc
        omega
      refine ⟨⟨a, UInt8.ofNat c.toNat, s⟩, ?_⟩
      simp only [Tok.cells, UInt8.toNat_ofNat']
      congr 3
      omega

/-- a list of tokens -/
theorem open_tokens {fuel : Nat} {cs : List Value} {x : DataW H × List MemPlace} (h : DataW.trod enc Try.prog W base spare held fuel 22 cs = some x) :
    ∃ (v : Value) (L : List Tok), cs = [v] ∧ RdT W v L ∧ L.length + 1 ≤ Rows.uptoBulk x.1 := by
  rcases open_slice Try.underlying22 h with ⟨rfl, rfl⟩ | ⟨a, len, cap, m, n, D, Pl, rfl, hb, hl, hm, hmm, rfl, hi⟩
  · exact ⟨_, [], rfl, RdT.empty _ _ _, by simp [Rows.uptoBulk]⟩
  · have e3 : Try.prog.cellsOf 28 = 3 := by kernel_rfl
    have hlm : len ≤ m := by rw [hmm]; split <;> omega
    have each : ∀ i, ∃ t : Tok, i < m → W.cells? base (a.add (i * 3)) 3 = some t.cells := by
      intro i
      by_cases him : i < m
      · obtain ⟨cs', hc, ht⟩ := hi i him
        rw [e3] at hc
        obtain ⟨t, rfl⟩ := open_tok ht
        exact ⟨t, fun _ => hc⟩
      · exact ⟨⟨0, 0, ByteArray.empty⟩, fun h => absurd h him⟩
    obtain ⟨T, hT⟩ := Classical.axiomOfChoice each
    refine ⟨_, (List.range len).map T, rfl, ?_, ?_⟩
    · have hlen : ((List.range len).map T).length = len := by simp
      refine ⟨⟨by rw [flat_length], by rw [hlen]; omega, some a, cap, by rw [hlen], fun j u hu => ?_⟩, some a, cap, by rw [hlen], by rw [hlen]; exact hl⟩
      have hj : j < len * 3 := by
        have := (List.getElem?_eq_some_iff.1 hu).1
        rw [flat_length, hlen] at this
        exact this
      have him : j / 3 < m := by omega
      have hc := hT (j / 3) him
      obtain ⟨_, hcl, hat⟩ := World.cells?_some hc
      have h3 : j % 3 < 3 := by omega
      have hat2 := hat (j % 3) h3
      rw [Go.Deep.add_add] at hat2
      have ej : j / 3 * 3 + j % 3 = j := by omega
      have hf := flat_get ((List.range len).map T) (j / 3) (j % 3) ((T (j / 3)).cells[j % 3]'(by simp [Tok.cells]; omega)) (by rw [hlen]; omega) (by
        rw [List.getElem_map, List.getElem_range]
        exact List.getElem?_eq_getElem _)
      rw [ej] at hf hat2
      rw [hu] at hf
      simp only [Option.some.injEq] at hf
      have hv : W.cell? (a.add j) = some u := by
        rw [hat2, hf]
        exact List.getElem?_eq_getElem _
      have hc0 := World.cells?_some (hT 0 (by omega))
      have h0 := hc0.2.2 0 (by omega)
      have hsp : a.spot = none := by
        have h00 : W.cell? a = some ((T 0).cells[0]'(by simp [Tok.cells])) := by
          have : (a.add (0 * 3)).add 0 = a := by simp [Addr.add]
          rw [this] at h0
          rw [h0]; exact List.getElem?_eq_getElem _
        exact World.cell?_spot h00
      obtain ⟨b, off, spot⟩ := a
      simp only at hsp
      subst hsp
      rw [Addr.add_lit] at hv
      exact ⟨b, off, rfl, hv⟩
    · simp only [Rows.uptoBulk]
      have h1 := bulk_len ((List.range len).map D)
      simp only [List.length_map, List.length_range] at h1 ⊢
      omega

theorem open_list {v : Value} {d : DataW H} {p : List MemPlace} {b0 : Nat} {r : Reach} (hv : Value.okWide Try.prog W r b0 22 v) (h : DataW.Trod enc Try.prog W base spare held 22 v d p) :
    ∃ L : List Tok, RdT W v L ∧ L.length + 1 ≤ Rows.uptoBulk d := by
  obtain ⟨fuel, hf⟩ := h
  obtain ⟨u, L, he, hr, hb⟩ := open_tokens hf
  refine ⟨L, ?_, hb⟩
  have e : v = u := by
    obtain ⟨a, n, c, e1⟩ := okWide_slice Try.underlying22 hv
    subst e1
    simpa [Value.cells] using he
  rw [e]; exact hr

end
end Go.Proofs.Yticljfpippbkkaa
