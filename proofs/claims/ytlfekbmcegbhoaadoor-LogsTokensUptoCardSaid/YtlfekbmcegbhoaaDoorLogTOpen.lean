
/-
  Arguments opened: lists of tokens, with their bulk. Conditions: none.
-/
import Derived.Test.YtlfekbmcegbhoaaDoorLogJ
import Derived.Test.YtlfekbmcegbhoaaDoorLogOpen
import Derived.Deep.Slices
import Derived.Deep.Fields
import Derived.OpenShut
import Derived.Lib.SmallJoins
namespace Go.Proofs.YtlfekbmcegbhoaaDoor
open Go.RowKit Go.Sp Go.ChangeShapes Go.WideShapes Go.Deep

/-- a list's tokens and their names' bytes -/
def namesN : List Tok → Nat
  | [] => 0
  | t :: l => t.name.size + 1 + namesN l
theorem namesN_len (l : List Tok) : l.length ≤ namesN l := by
  induction l with
  | nil => simp [namesN]
  | cons t l ih => simp only [namesN, List.length_cons]; omega
theorem namesN_mem (l : List Tok) : ∀ t ∈ l, t.name.size ≤ namesN l := by
  induction l with
  | nil => intro t h; simp at h
  | cons u l ih =>
    intro t h
    simp only [namesN]
    rcases List.mem_cons.1 h with rfl | h
    · omega
    · have := ih t h; omega
theorem csB_len (C : List Int) (l : List UInt8) : (csB C l).length ≤ 4 * l.length + 30 := by
  cases l with
  | nil => simp [csB, csnameB]
  | cons c l =>
    have h := spelledB_len (c :: l)
    simp only [csB, List.length_append, List.length_cons, List.length_nil] at h ⊢
    split <;> simp <;> omega
theorem tokenB_len (C : List Int) (t : Tok) : (tokenB C t).length ≤ 4 * t.name.size + 30 := by
  have h4 := shownB_le t.chr
  unfold tokenB
  split
  · simp; omega
  · split
    · omega
    · split
      · simp
      · split
        · simp
        · have h := csB_len C t.name.data.toList
          have : t.name.size = t.name.data.toList.length := rfl
          omega
theorem textB_len (C : List Int) (l : List Tok) : (textB C l).length ≤ 34 * namesN l := by
  induction l with
  | nil => simp [textB, namesN]
  | cons t l ih =>
    have h := tokenB_len C t
    simp only [textB, List.flatMap_cons, List.length_append, namesN] at ih ⊢
    omega

section
variable {H : Type} {enc : TypeId × Value → H} {W : World} {base : Nat} {spare : Nat → Bool} {held : Bool}

/-- a token in memory, out of what is read there -/
theorem open_tok {fuel : Nat} {cs : List Value} {x : DataW H × List MemPlace} (h : DataW.trod enc Tryd.prog W base spare held fuel 55 cs = some x) :
    ∃ t : Tok, cs = t.cells ∧ t.name.size + 1 ≤ Rows.uptoBulk x.1 := by
  obtain ⟨ys, n, _, hy, hlen, hyl, hf⟩ := DataW.trod_struct Tryd.underlying55 h
  have e3 : Tryd.prog.cellsOf 55 = 3 := by kernel_rfl
  have i1 : Tryd.prog.cellsOf 3 = 1 := by kernel_rfl
  have u1 : Tryd.prog.cellsOf 5 = 1 := by kernel_rfl
  have s1 : Tryd.prog.cellsOf 9 = 1 := by kernel_rfl
  rw [e3] at hlen
  match cs, hlen with
  | [c0, c1, c2], _ =>
    match ys, hyl with
    | [y0, y1, y2], _ =>
      have k0 : DataW.trod enc Tryd.prog W base spare held n 3 [c0] = some y0 := by have := hf 0 _ rfl; simpa [i1] using this
      have k1 : DataW.trod enc Tryd.prog W base spare held n 5 [c1] = some y1 := by have := hf 1 _ rfl; simpa [u1] using this
      have k2 : DataW.trod enc Tryd.prog W base spare held n 9 [c2] = some y2 := by have := hf 2 _ rfl; simpa [s1] using this
      obtain ⟨a, q0, _, _⟩ := DataW.trod_int Tryd.underlying3 k0
      obtain ⟨c, q1, _, hc⟩ := DataW.trod_int Tryd.underlying5 k1
      obtain ⟨s, q2, z2, _⟩ := DataW.trod_string Tryd.underlying9 k2
      simp only [List.cons.injEq, and_true] at q0 q1 q2
      subst q0 q1 q2
      have hc2 : 0 ≤ c ∧ c < 256 := by
        have hm : IntKind.u8.min = 0 := by decide
        have hM : IntKind.u8.max = 255 := by decide
        simp [Lit.wf] at hc
        omega
      refine ⟨⟨a, UInt8.ofNat c.toNat, s⟩, ?_, ?_⟩
      rotate_left 1
      · rw [hy]
        simp only [List.map_cons, List.map_nil, Rows.uptoBulk, Rows.uptoBulkAll, z2]
        have : s.size = s.data.toList.length := rfl
        omega
      simp only [Tok.cells, UInt8.toNat_ofNat']
      congr 3
      omega

/-- a list of tokens -/
theorem open_tokens {fuel : Nat} {cs : List Value} {x : DataW H × List MemPlace} (h : DataW.trod enc Tryd.prog W base spare held fuel 39 cs = some x) :
    ∃ (v : Value) (L : List Tok), cs = [v] ∧ RdT W v L ∧ namesN L + 1 ≤ Rows.uptoBulk x.1 := by
  rcases open_slice Tryd.underlying39 h with ⟨rfl, rfl⟩ | ⟨a, len, cap, m, n, D, Pl, rfl, hb, hl, hm, hmm, rfl, hi⟩
  · exact ⟨_, [], rfl, RdT.empty _ _ _, by simp [Rows.uptoBulk, namesN]⟩
  · have e3 : Tryd.prog.cellsOf 55 = 3 := by kernel_rfl
    have hlm : len ≤ m := by rw [hmm]; split <;> omega
    have each : ∀ i, ∃ t : Tok, i < m → W.cells? base (a.add (i * 3)) 3 = some t.cells ∧ t.name.size + 1 ≤ Rows.uptoBulk (D i) := by
      intro i
      by_cases him : i < m
      · obtain ⟨cs', hc, ht⟩ := hi i him
        rw [e3] at hc
        obtain ⟨t, rfl, hbk⟩ := open_tok ht
        exact ⟨t, fun _ => ⟨hc, hbk⟩⟩
      · exact ⟨⟨0, 0, ByteArray.empty⟩, fun h => absurd h him⟩
    obtain ⟨T, hT⟩ := Classical.axiomOfChoice each
    refine ⟨_, (List.range len).map T, rfl, ?_, ?_⟩
    · have hlen : ((List.range len).map T).length = len := by simp
      refine ⟨⟨by rw [flat_length], by rw [hlen]; omega, some a, cap, by rw [hlen], fun j u hu => ?_⟩, some a, cap, by rw [hlen], by rw [hlen]; exact hl⟩
      have hj : j < len * 3 := by
        have := (List.getElem?_eq_some_iff.1 hu).1
        rw [flat_length, hlen] at this
        exact this
      have him : j / 3 < m := by omega
      have hc := (hT (j / 3) him).1
      obtain ⟨_, hcl, hat⟩ := World.cells?_some hc
      have h3 : j % 3 < 3 := by omega
      have hat2 := hat (j % 3) h3
      rw [Go.Deep.add_add] at hat2
      have ej : j / 3 * 3 + j % 3 = j := by omega
      have hf := flat_get ((List.range len).map T) (j / 3) (j % 3) ((T (j / 3)).cells[j % 3]'(by simp [Tok.cells]; omega)) (by rw [hlen]; omega) (by
        rw [List.getElem_map, List.getElem_range]
        exact List.getElem?_eq_getElem _)
      rw [ej] at hf hat2
      rw [hu] at hf
      simp only [Option.some.injEq] at hf
      have hv : W.cell? (a.add j) = some u := by
        rw [hat2, hf]
        exact List.getElem?_eq_getElem _
      have hc0 := World.cells?_some (hT 0 (by omega)).1
      have h0 := hc0.2.2 0 (by omega)
      have hsp : a.spot = none := by
        have h00 : W.cell? a = some ((T 0).cells[0]'(by simp [Tok.cells])) := by
          have : (a.add (0 * 3)).add 0 = a := by simp [Addr.add]
          rw [this] at h0
          rw [h0]; exact List.getElem?_eq_getElem _
        exact World.cell?_spot h00
      obtain ⟨b, off, spot⟩ := a
      simp only at hsp
      subst hsp
      rw [Addr.add_lit] at hv
      exact ⟨b, off, rfl, hv⟩
    · simp only [Rows.uptoBulk]
      have key : ∀ (l : List Nat), (∀ i ∈ l, i < m) → namesN (l.map T) ≤ Rows.uptoBulkAll (l.map D) := by
        intro l
        induction l with
        | nil => intro _; simp [namesN]
        | cons i l ih =>
          intro hi
          have h1 := (hT i (hi i (by simp))).2
          have h2 := ih fun k hk => hi k (by simp [hk])
          simp only [List.map_cons, namesN, Rows.uptoBulkAll]
          omega
      have := key (List.range len) fun i hi => by have := List.mem_range.1 hi; omega
      omega

theorem open_list {v : Value} {d : DataW H} {p : List MemPlace} {b0 : Nat} {r : Reach} (hv : Value.okWide Tryd.prog W r b0 39 v) (h : DataW.Trod enc Tryd.prog W base spare held 39 v d p) :
    ∃ L : List Tok, RdT W v L ∧ namesN L + 1 ≤ Rows.uptoBulk d := by
  obtain ⟨fuel, hf⟩ := h
  obtain ⟨u, L, he, hr, hb⟩ := open_tokens hf
  refine ⟨L, ?_, hb⟩
  have e : v = u := by
    obtain ⟨a, n, c, e1⟩ := okWide_slice Tryd.underlying39 hv
    subst e1
    simpa [Value.cells] using he
  rw [e]; exact hr

theorem open_macro {v : Value} {d : DataW H} {p : List MemPlace} {b0 : Nat} {r : Reach} (hv : Value.okWide Tryd.prog W r b0 45 v) (h : DataW.Trod enc Tryd.prog W base spare held 45 v d p) :
    ∃ (vp vb : Value) (long : Bool) (P B : List Tok), v = .agg #[vp, vb, .bool long] ∧ RdT W vp P ∧ RdT W vb B ∧ namesN P + namesN B + 2 ≤ Rows.uptoBulk d := by
  obtain ⟨u0, u1, u2, y0, y1, y2, m, rfl, rfl, rfl, g0, g1, g2⟩ := Go.Joins.open_agg3 Tryd.underlying45 (by kernel_rfl) (by kernel_rfl) hv h
  obtain ⟨p0, P, e0, r0, b0⟩ := open_tokens g0
  obtain ⟨p1, B, e1, r1, b1⟩ := open_tokens g1
  obtain ⟨l, e2, _⟩ := DataW.trod_bool Tryd.underlying4 g2
  simp only [List.cons.injEq, and_true] at e0 e1 e2
  subst e0 e1 e2
  refine ⟨u0, u1, l, P, B, rfl, r0, r1, ?_⟩
  simp only [Rows.uptoBulk, Rows.uptoBulkAll]
  omega

theorem open_i64 {v : Value} {d : DataW H} {p : List MemPlace} {b0 : Nat} {r : Reach} (hv : Value.okWide Tryd.prog W r b0 3 v) (h : DataW.Trod enc Tryd.prog W base spare held 3 v d p) :
    ∃ n : Int, v = .int .i64 n ∧ n ≤ maxLen ∧ -9223372036854775808 ≤ n := by
  obtain ⟨n, rfl, _, _, wf⟩ := open_int Tryd.underlying3 hv h
  have hm : IntKind.i64.min = -9223372036854775808 := by decide
  have hM : IntKind.i64.max = 9223372036854775807 := by decide
  simp [Lit.wf] at wf
  exact ⟨n, rfl, by unfold maxLen; omega, by omega⟩

end
end Go.Proofs.YtlfekbmcegbhoaaDoor
