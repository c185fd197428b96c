
/-
  A font that comes in, opened. Conditions: those that each theorem names.
-/
import Derived.Test.YtembknlhocijkaaFtAD
import Derived.Deep.Slices
import Derived.Deep.Fields
import Derived.ChangeSame
import Derived.ChangeSlices
import Derived.OpenShut
import Derived.Lib.SmallJoins
import Derived.Laws.IdiomArrays
namespace Go.Proofs.Ytembknlhocijkaa
open Go.RowKit Go.Sp Go.ChangeShapes Go.WideShapes Go.Deep

section
variable {H : Type} {enc : TypeId × Value → H} {W : World} {base : Nat} {spare : Nat → Bool} {held : Bool}

theorem bulk_one {H : Type} (d : DataW H) : 1 ≤ Rows.uptoBulk d := by
  cases d with
  | lit l => cases l <;> simp [Rows.uptoBulk]
  | nil => simp [Rows.uptoBulk]
  | ptr d => simp [Rows.uptoBulk]
  | slice elems spare => simp [Rows.uptoBulk]
  | agg parts => simp [Rows.uptoBulk]
  | iface t d => simp [Rows.uptoBulk]
  | map entries => simp [Rows.uptoBulk]
  | held h => simp [Rows.uptoBulk]
theorem bulk_len {H : Type} (l : List (DataW H)) : l.length ≤ Rows.uptoBulkAll l := by
  induction l with
  | nil => simp [Rows.uptoBulkAll]
  | cons x r ih => have := bulk_one x; simp only [Rows.uptoBulkAll, List.length_cons]; omega

set_option maxRecDepth 100000 in
/-- a list of things of k cells each -/
theorem open_list {α : Type} {f : α → List Value} {k : Nat} {t e : TypeId} {Pp : α → Prop} (z : α) (hfl : ∀ x, (f x).length = k) (hk : 0 < k) (ht : Try.prog.underlying t = some (.slice e)) (he : Try.prog.cellsOf e = k)
    (hel : ∀ n cs x, DataW.trod enc Try.prog W base spare held n e cs = some x → ∃ m : α, cs = f m ∧ Pp m)
    {fuel : Nat} {cs : List Value} {x : DataW H × List MemPlace} (h : DataW.trod enc Try.prog W base spare held fuel t cs = some x) :
    ∃ (v : Value) (L : List α), cs = [v] ∧ RdL f k W v L ∧ (∀ m ∈ L, Pp m) ∧ L.length + 1 ≤ Rows.uptoBulk x.1 := by
  rcases open_slice ht h with ⟨rfl, rfl⟩ | ⟨a, len, cap, m, n, D, Pl, rfl, hb, hl, hm, hmm, rfl, hi⟩
  · exact ⟨_, [], rfl, RdL.empty _ _ _, by simp, by simp [Rows.uptoBulk]⟩
  · have hlm : len ≤ m := by rw [hmm]; split <;> omega
    have each : ∀ i, ∃ t : α, i < m → W.cells? base (a.add (i * k)) k = some (f t) ∧ Pp t := by
      intro i
      by_cases him : i < m
      · obtain ⟨cs', hc, ht⟩ := hi i him
        rw [he] at hc
        obtain ⟨t, rfl, hp⟩ := hel _ _ _ ht
        exact ⟨t, fun _ => ⟨hc, hp⟩⟩
      · exact ⟨z, fun h => absurd h him⟩
    obtain ⟨T, hT⟩ := Classical.axiomOfChoice each
    have hlen : ((List.range len).map T).length = len := by simp
    refine ⟨_, (List.range len).map T, rfl, ?_, fun y hy => ?_, ?_⟩
    · refine ⟨⟨by rw [flatMap_len hfl], by rw [hlen]; omega, some a, cap, by rw [hlen], fun j u hu => ?_⟩, some a, cap, by rw [hlen], by rw [hlen]; exact hl⟩
      have hj : j < len * k := by
        have := (List.getElem?_eq_some_iff.1 hu).1
        rw [flatMap_len hfl, hlen] at this
        exact this
      have hjl : j / k < len := Nat.div_lt_of_lt_mul (by rw [Nat.mul_comm]; exact hj)
      have him : j / k < m := by omega
      have hc := (hT (j / k) him).1
      obtain ⟨_, hcl, hat⟩ := World.cells?_some hc
      have h3 : j % k < k := Nat.mod_lt _ hk
      have hat2 := hat (j % k) h3
      rw [Go.Deep.add_add] at hat2
      have ej : j / k * k + j % k = j := by rw [Nat.mul_comm]; exact Nat.div_add_mod j k
      have hf := flatMap_get hfl ((List.range len).map T) (j / k) (j % k) ((f (T (j / k)))[j % k]'(by rw [hfl]; exact h3)) (by rw [hlen]; exact hjl) (by
        rw [List.getElem_map, List.getElem_range]
        exact List.getElem?_eq_getElem _)
      rw [ej] at hf hat2
      rw [hu] at hf
      simp only [Option.some.injEq] at hf
      have hv : W.cell? (a.add j) = some u := by
        rw [hat2, hf]
        exact List.getElem?_eq_getElem _
      have hc0 := World.cells?_some (hT 0 (Nat.lt_of_le_of_lt (Nat.zero_le _) him)).1
      have h0 := hc0.2.2 0 hk
      have hsp : a.spot = none := by
        have h00 : W.cell? a = some ((f (T 0))[0]'(by rw [hfl]; exact hk)) := by
          have : (a.add (0 * k)).add 0 = a := by simp [Addr.add]
          rw [this] at h0
          rw [h0]; exact List.getElem?_eq_getElem _
        exact World.cell?_spot h00
      obtain ⟨b, off, spot⟩ := a
      simp only at hsp
      subst hsp
      rw [Addr.add_lit] at hv
      exact ⟨b, off, rfl, hv⟩
    · obtain ⟨i, hi2, rfl⟩ := List.mem_map.1 hy
      exact (hT i (by have := List.mem_range.1 hi2; omega)).2
    · have := bulk_len ((List.range len).map D)
      simp only [Rows.uptoBulk, List.length_map, List.length_range] at this ⊢
      omega
theorem zI : Try.prog.cellsOf 3 = 1 := by kernel_rfl
theorem zU : Try.prog.cellsOf 5 = 1 := by kernel_rfl
theorem zW : Try.prog.cellsOf 29 = 1 := by kernel_rfl
theorem zA : Try.prog.cellsOf 65 = 4 := by kernel_rfl
theorem zM : Try.prog.cellsOf 41 = 6 := by kernel_rfl
theorem zS : Try.prog.cellsOf 64 = 4 := by kernel_rfl
theorem zF : Try.prog.cellsOf 35 = 8 := by kernel_rfl
theorem z23 : Try.prog.cellsOf 30 = 1 := by kernel_rfl
theorem z24 : Try.prog.cellsOf 31 = 1 := by kernel_rfl
theorem z25 : Try.prog.cellsOf 32 = 1 := by kernel_rfl
theorem z26 : Try.prog.cellsOf 33 = 1 := by kernel_rfl

set_option maxRecDepth 100000 in
theorem open_i {fuel : Nat} {cs : List Value} {x : DataW H × List MemPlace} (h : DataW.trod enc Try.prog W base spare held fuel 3 cs = some x) :
    ∃ a : Int, cs = intC a ∧ In64 a := by
  obtain ⟨a, q, _, hw⟩ := DataW.trod_int Try.underlying3 h
  refine ⟨a, q, ?_⟩
  have hm : IntKind.i64.min = -9223372036854775808 := by decide
  have hM : IntKind.i64.max = 9223372036854775807 := by decide
  simp [Lit.wf] at hw
  unfold In64
  omega
set_option maxRecDepth 100000 in
theorem open_u {fuel : Nat} {cs : List Value} {x : DataW H × List MemPlace} (h : DataW.trod enc Try.prog W base spare held fuel 5 cs = some x) :
    ∃ a : UInt8, cs = byteC a := by
  obtain ⟨c, q, _, hw⟩ := DataW.trod_int Try.underlying5 h
  have hm : IntKind.u8.min = 0 := by decide
  have hM : IntKind.u8.max = 255 := by decide
  simp [Lit.wf] at hw
  refine ⟨UInt8.ofNat c.toNat, ?_⟩
  rw [q]
  simp only [byteC, UInt8.toNat_ofNat']
  congr 2
  omega
set_option maxRecDepth 100000 in
theorem open_met {fuel : Nat} {cs : List Value} {x : DataW H × List MemPlace} (h : DataW.trod enc Try.prog W base spare held fuel 41 cs = some x) :
    ∃ m : Met, cs = m.cells ∧ In64 m.rest := by
  obtain ⟨ys, n, _, hy, hlen, hyl, hf⟩ := DataW.trod_struct Try.underlying41 h
  rw [zM] at hlen
  match cs, hlen with
  | [c0, c1, c2, c3, c4, c5], _ =>
    match ys, hyl with
    | [y0, y1, y2, y3, y4, y5], _ =>
      have k0 : DataW.trod enc Try.prog W base spare held n 3 [c0] = some y0 := by have := hf 0 _ rfl; simpa [zI] using this
      have k1 : DataW.trod enc Try.prog W base spare held n 3 [c1] = some y1 := by have := hf 1 _ rfl; simpa [zI] using this
      have k2 : DataW.trod enc Try.prog W base spare held n 3 [c2] = some y2 := by have := hf 2 _ rfl; simpa [zI] using this
      have k3 : DataW.trod enc Try.prog W base spare held n 3 [c3] = some y3 := by have := hf 3 _ rfl; simpa [zI] using this
      have k4 : DataW.trod enc Try.prog W base spare held n 3 [c4] = some y4 := by have := hf 4 _ rfl; simpa [zI] using this
      have k5 : DataW.trod enc Try.prog W base spare held n 3 [c5] = some y5 := by have := hf 5 _ rfl; simpa [zI] using this
      obtain ⟨a0, q0, w0⟩ := open_i k0
      obtain ⟨a1, q1, w1⟩ := open_i k1
      obtain ⟨a2, q2, w2⟩ := open_i k2
      obtain ⟨a3, q3, w3⟩ := open_i k3
      obtain ⟨a4, q4, w4⟩ := open_i k4
      obtain ⟨a5, q5, w5⟩ := open_i k5
      simp only [intC, List.cons.injEq, and_true] at q0 q1 q2 q3 q4 q5
      subst q0 q1 q2 q3 q4 q5
      exact ⟨⟨a0, a1, a2, a3, a4, a5⟩, rfl, w5⟩
set_option maxRecDepth 100000 in
theorem open_stp {fuel : Nat} {cs : List Value} {x : DataW H × List MemPlace} (h : DataW.trod enc Try.prog W base spare held fuel 64 cs = some x) :
    ∃ m : Stp, cs = m.cells := by
  obtain ⟨ys, n, _, hy, hlen, hyl, hf⟩ := DataW.trod_struct Try.underlying64 h
  rw [zS] at hlen
  match cs, hlen with
  | [c0, c1, c2, c3], _ =>
    match ys, hyl with
    | [y0, y1, y2, y3], _ =>
      have k0 : DataW.trod enc Try.prog W base spare held n 5 [c0] = some y0 := by have := hf 0 _ rfl; simpa [zU] using this
      have k1 : DataW.trod enc Try.prog W base spare held n 5 [c1] = some y1 := by have := hf 1 _ rfl; simpa [zU] using this
      have k2 : DataW.trod enc Try.prog W base spare held n 5 [c2] = some y2 := by have := hf 2 _ rfl; simpa [zU] using this
      have k3 : DataW.trod enc Try.prog W base spare held n 5 [c3] = some y3 := by have := hf 3 _ rfl; simpa [zU] using this
      obtain ⟨a0, q0⟩ := open_u k0
      obtain ⟨a1, q1⟩ := open_u k1
      obtain ⟨a2, q2⟩ := open_u k2
      obtain ⟨a3, q3⟩ := open_u k3
      simp only [byteC, List.cons.injEq, and_true] at q0 q1 q2 q3
      subst q0 q1 q2 q3
      exact ⟨⟨a0, a1, a2, a3⟩, rfl⟩
set_option maxRecDepth 100000 in
theorem open_pce {fuel : Nat} {cs : List Value} {x : DataW H × List MemPlace} (h : DataW.trod enc Try.prog W base spare held fuel 65 cs = some x) :
    ∃ m : Pce, cs = m.cells := by
  obtain ⟨_, _, _, _, hlen, _, _⟩ := DataW.trod_array Try.underlying65 h
  rw [zA] at hlen
  match cs, hlen with
  | [c0, c1, c2, c3], _ =>
    obtain ⟨y0, y1, y2, y3, n, _, k0, k1, k2, k3⟩ := trod_array4 Try.underlying65 zU h
    obtain ⟨a0, q0⟩ := open_u k0
    obtain ⟨a1, q1⟩ := open_u k1
    obtain ⟨a2, q2⟩ := open_u k2
    obtain ⟨a3, q3⟩ := open_u k3
    simp only [byteC, List.cons.injEq, and_true] at q0 q1 q2 q3
    subst q0 q1 q2 q3
    exact ⟨⟨a0, a1, a2, a3⟩, rfl⟩
set_option maxRecDepth 100000 in
theorem open_fnt {fuel : Nat} {cs : List Value} {x : DataW H × List MemPlace} (h : DataW.trod enc Try.prog W base spare held fuel 35 cs = some x) (hb : Rows.uptoBulk x.1 ≤ 1048576) :
    ∃ (F : Fnt) (u : FV), cs = (F.cs u).toList ∧ RdF W u F := by
  obtain ⟨ys, n, _, hy, hlen, hyl, hf⟩ := DataW.trod_struct Try.underlying35 h
  rw [zF] at hlen
  match cs, hlen with
  | [c0, c1, c2, c3, c4, c5, c6, c7], _ =>
    match ys, hyl with
    | [y0, y1, y2, y3, y4, y5, y6, y7], _ =>
      have k0 : DataW.trod enc Try.prog W base spare held n 29 [c0] = some y0 := by have := hf 0 _ rfl; simpa [zI, zU, zW, z23, z24, z25, z26] using this
      have k1 : DataW.trod enc Try.prog W base spare held n 3 [c1] = some y1 := by have := hf 1 _ rfl; simpa [zI, zU, zW, z23, z24, z25, z26] using this
      have k2 : DataW.trod enc Try.prog W base spare held n 3 [c2] = some y2 := by have := hf 2 _ rfl; simpa [zI, zU, zW, z23, z24, z25, z26] using this
      have k3 : DataW.trod enc Try.prog W base spare held n 30 [c3] = some y3 := by have := hf 3 _ rfl; simpa [zI, zU, zW, z23, z24, z25, z26] using this
      have k4 : DataW.trod enc Try.prog W base spare held n 31 [c4] = some y4 := by have := hf 4 _ rfl; simpa [zI, zU, zW, z23, z24, z25, z26] using this
      have k5 : DataW.trod enc Try.prog W base spare held n 32 [c5] = some y5 := by have := hf 5 _ rfl; simpa [zI, zU, zW, z23, z24, z25, z26] using this
      have k6 : DataW.trod enc Try.prog W base spare held n 33 [c6] = some y6 := by have := hf 6 _ rfl; simpa [zI, zU, zW, z23, z24, z25, z26] using this
      have k7 : DataW.trod enc Try.prog W base spare held n 32 [c7] = some y7 := by have := hf 7 _ rfl; simpa [zI, zU, zW, z23, z24, z25, z26] using this
      obtain ⟨a0, q0, _, _⟩ := DataW.trod_int Try.underlying29 k0
      obtain ⟨a1, q1, _, _⟩ := DataW.trod_int Try.underlying3 k1
      obtain ⟨a2, q2, _, _⟩ := DataW.trod_int Try.underlying3 k2
      obtain ⟨v3, L3, q3, r3, p3, b3⟩ := open_list (f := Met.cells) (k := 6) (Pp := fun m => In64 m.rest) met0 met_len (by omega) Try.underlying30 zM (fun n cs x h => open_met h) k3
      obtain ⟨v4, L4, q4, r4, -, b4⟩ := open_list (f := Stp.cells) (k := 4) (Pp := fun _ => True) stp0 stp_len (by omega) Try.underlying31 zS (fun n cs x h => let ⟨m, e⟩ := open_stp h; ⟨m, e, trivial⟩) k4
      obtain ⟨v5, L5, q5, r5, -, b5⟩ := open_list (f := intC) (k := 1) (Pp := fun _ => True) 0 int_len (by omega) Try.underlying32 zI (fun n cs x h => let ⟨m, e, _⟩ := open_i h; ⟨m, e, trivial⟩) k5
      obtain ⟨v6, L6, q6, r6, -, b6⟩ := open_list (f := Pce.cells) (k := 4) (Pp := fun _ => True) ⟨0, 0, 0, 0⟩ pce_len (by omega) Try.underlying33 zA (fun n cs x h => let ⟨m, e⟩ := open_pce h; ⟨m, e, trivial⟩) k6
      obtain ⟨v7, L7, q7, r7, -, b7⟩ := open_list (f := intC) (k := 1) (Pp := fun _ => True) 0 int_len (by omega) Try.underlying32 zI (fun n cs x h => let ⟨m, e, _⟩ := open_i h; ⟨m, e, trivial⟩) k7
      simp only [List.cons.injEq, and_true] at q0 q1 q2 q3 q4 q5 q6 q7
      subst q0 q1 q2 q3 q4 q5 q6 q7
      rw [hy] at hb
      simp only [List.map_cons, List.map_nil, Rows.uptoBulk, Rows.uptoBulkAll] at hb
      exact ⟨⟨a0, a1, a2, L3, L4, L5, L6, L7⟩, ⟨c3, c4, c5, c6, c7⟩, rfl, r3, r4, r5, r6, r7, p3, by simp only; omega, by simp only; omega, by simp only; omega, by simp only; omega, by simp only; omega⟩
set_option maxRecDepth 100000 in
theorem open_font {v : Value} {d : DataW H} {p : List MemPlace} {b0 : Nat} {r : Reach} (hv : Value.okWide Try.prog W r b0 35 v) (h : DataW.Trod enc Try.prog W base spare held 35 v d p) (hb : Rows.uptoBulk d ≤ 1048576) :
    ∃ (F : Fnt) (u : FV), v = F.val u ∧ RdF W u F := by
  obtain ⟨fuel, hf⟩ := h
  obtain ⟨cs, rfl, _⟩ := okWide_struct Try.underlying35 hv
  obtain ⟨F, u, he, hr⟩ := open_fnt hf hb
  refine ⟨F, u, ?_, hr⟩
  have h4 : cs.toList = (F.cs u).toList := he
  rw [Array.toList_inj.1 h4]
  rfl
set_option maxRecDepth 100000 in
theorem open_word {v : Value} {d : DataW H} {p : List MemPlace} {b0 : Nat} {r : Reach} (hv : Value.okWide Try.prog W r b0 36 v) (h : DataW.Trod enc Try.prog W base spare held 36 v d p) :
    ∃ L : List UInt8, RdL byteC 1 W v L := by
  obtain ⟨fuel, hf⟩ := h
  obtain ⟨u, L, he, hr, -⟩ := open_list (f := byteC) (k := 1) (Pp := fun _ => True) 0 byte_len (by omega) Try.underlying36 zU (fun n cs x h => let ⟨m, e⟩ := open_u h; ⟨m, e, trivial⟩) hf
  refine ⟨L, ?_⟩
  have e : v = u := by
    obtain ⟨a, n, c, e1⟩ := okWide_slice Try.underlying36 hv
    subst e1
    simpa [Value.cells] using he
  rw [e]
  exact hr
end
set_option maxRecDepth 100000 in
theorem byte_of {n : Int} (h : (Lit.int .u8 n).wf = true) : ∃ c : UInt8, n = c.toNat := by
  have hm : IntKind.u8.min = 0 := by decide
  have hM : IntKind.u8.max = 255 := by decide
  simp [Lit.wf] at h
  refine ⟨UInt8.ofNat n.toNat, ?_⟩
  rw [UInt8.toNat_ofNat']
  omega
end Go.Proofs.Ytembknlhocijkaa
