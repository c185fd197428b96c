
/-
  Tokens: as values, as cells, lists of them that are read. Conditions: none.
-/
import Derived.Test.YtjeinldhbajknaaRows
import Derived.Test.YtjeinldhbajknaaSep
namespace Go.Proofs.Ytjeinldhbajknaa
open Go.RowKit Go.Sp

structure Tok where
  cat : Int
  chr : UInt8
  name : ByteArray

instance : DecidableEq Tok := fun a b =>
  decidable_of_iff (a.cat = b.cat ∧ a.chr = b.chr ∧ a.name = b.name) ⟨fun ⟨h1, h2, h3⟩ => by cases a; cases b; simp_all, fun h => by subst h; exact ⟨rfl, rfl, rfl⟩⟩

instance : Inhabited Tok := ⟨⟨0, 0, ByteArray.empty⟩⟩

def Tok.cells (t : Tok) : List Value := [.int .i64 t.cat, .int .u8 t.chr.toNat, .string t.name]
abbrev Tok.val (t : Tok) : Value := .agg #[.int .i64 t.cat, .int .u8 t.chr.toNat, .string t.name]
def flat (L : List Tok) : List Value := L.flatMap Tok.cells

theorem flat_length (L : List Tok) : (flat L).length = L.length * 3 := by
  induction L with
  | nil => rfl
  | cons x L ih => simp [flat, Tok.cells] at ih ⊢; omega

theorem flat_append (L M : List Tok) : flat (L ++ M) = flat L ++ flat M := by simp [flat]
theorem flat_cons (t : Tok) (L : List Tok) : flat (t :: L) = t.cells ++ flat L := rfl

theorem flat_get (L : List Tok) : ∀ (i j : Nat) (v : Value), (h : i < L.length) → L[i].cells[j]? = some v → (flat L)[i * 3 + j]? = some v := by
  induction L with
  | nil => intro i j v h; simp at h
  | cons x L ih =>
    intro i j v h hv
    cases i with
    | zero =>
      have hj : j < x.cells.length := (List.getElem?_eq_some_iff.1 hv).1
      rw [flat_cons, List.getElem?_append_left (by simpa using hj)]
      simpa using hv
    | succ i =>
      rw [flat_cons, List.getElem?_append_right (by simp [Tok.cells]; omega)]
      have := ih i j v (by simpa using h) (by simpa using hv)
      rw [← this]
      congr 1
      simp [Tok.cells]; omega

theorem flat_one (L : List Tok) : ∀ u ∈ flat L, u.oneCell' = true := by
  intro u hu
  simp only [flat, List.mem_flatMap, Tok.cells] at hu
  obtain ⟨t, _, h⟩ := hu
  simp only [List.mem_cons, List.not_mem_nil, or_false] at h
  rcases h with rfl | rfl | rfl <;> rfl

theorem flat_take (L : List Tok) (k : Nat) : flat (L.take k) = (flat L).take (k * 3) := by
  induction L generalizing k with
  | nil => simp [flat]
  | cons x L ih =>
    cases k with
    | zero => simp [flat]
    | succ k =>
      rw [List.take_succ_cons, flat_cons, flat_cons, ih, List.take_append]
      have h1 : x.cells.length = 3 := rfl
      rw [List.take_of_length_le (l := x.cells) (by omega), h1]
      congr 2
      omega

theorem flat_drop (L : List Tok) (k : Nat) : flat (L.drop k) = (flat L).drop (k * 3) := by
  induction L generalizing k with
  | nil => simp [flat]
  | cons x L ih =>
    cases k with
    | zero => simp
    | succ k =>
      rw [List.drop_succ_cons, flat_cons, ih, List.drop_append]
      have h1 : x.cells.length = 3 := rfl
      rw [show List.drop ((k + 1) * 3) x.cells = [] from List.drop_eq_nil_of_le (by omega), h1, List.nil_append]
      congr 1
      omega

/-- In w the slice v is the list L. -/
def RdT (w : World) (v : Value) (L : List Tok) : Prop := Rd w v L.length 3 (flat L) ∧ ∃ a cap, v = .slice a L.length cap ∧ L.length ≤ cap

/-- a token in memory -/
structure At (w : World) (b o : Nat) (t : Tok) : Prop where
  c0 : w.cell? ⟨b, o, none⟩ = some (.int .i64 t.cat)
  c1 : w.cell? ⟨b, o + 1, none⟩ = some (.int .u8 t.chr.toNat)
  c2 : w.cell? ⟨b, o + 2, none⟩ = some (.string t.name)

variable {w w' : World} {v : Value} {L : List Tok}

theorem At.ext {b o : Nat} {t : Tok} (h : At w b o t) (k : Ext w w') : At w' b o t := ⟨k.cell h.c0, k.cell h.c1, k.cell h.c2⟩
theorem At.lt {b o : Nat} {t : Tok} (h : At w b o t) : b < w.heap.size := World.block_lt_of_cell? w _ h.c0

theorem RdT.ext (h : RdT w v L) (k : Ext w w') : RdT w' v L := ⟨Rd.ext h.1 k, h.2⟩
theorem RdT.drewN (h : RdT w v L) (q : Nat) : RdT (w.drewN q) v L := ⟨Rd.drewN h.1 q, h.2⟩
theorem RdT.le (h : RdT w v L) : L.length ≤ 9223372036854775807 := h.1.2.1
theorem RdT.val (h : RdT w v L) : ∃ a cap, v = .slice a L.length cap := by
  obtain ⟨_, _, a, cap, h3, _⟩ := h.1
  exact ⟨a, cap, h3⟩
theorem RdT.capd (h : RdT w v L) : ∃ a cap, v = .slice a L.length cap ∧ L.length ≤ cap := h.2
theorem RdT.cap {a : Option Addr} {n cap : Nat} (h : RdT w (.slice a n cap) L) : n = L.length ∧ n ≤ cap := by
  obtain ⟨_, a', cap', e, hc⟩ := h
  simp only [Value.slice.injEq] at e
  obtain ⟨_, rfl, rfl⟩ := e
  exact ⟨rfl, hc⟩
theorem RdT.head (h : RdT w v L) (hn : 0 < L.length) : ∃ b off cap, v = .slice (some ⟨b, off, none⟩) L.length cap ∧ ∀ i, (hi : i < L.length) → At w b (off + i * 3) L[i] := by
  obtain ⟨b, off, cap, h1, h2⟩ := Rd.head h.1 hn (by omega)
  refine ⟨b, off, cap, h1, fun i hi => ⟨?_, ?_, ?_⟩⟩
  · exact h2 (i * 3) _ (by simpa using flat_get L i 0 _ hi rfl)
  · have := h2 (i * 3 + 1) _ (flat_get L i 1 _ hi rfl); simpa [Nat.add_assoc] using this
  · have := h2 (i * 3 + 2) _ (flat_get L i 2 _ hi rfl); simpa [Nat.add_assoc] using this

theorem RdT.at {a : Option Addr} {cap n i : Nat} (h : RdT w (.slice a n cap) L) (hi : i < L.length) : ∃ b off, a = some ⟨b, off, none⟩ ∧ At w b (off + i * 3) L[i] ∧ b < w.heap.size := by
  obtain ⟨b, off, cap', hv, hc⟩ := h.head (by omega)
  simp only [Value.slice.injEq] at hv
  obtain ⟨rfl, _, _⟩ := hv
  exact ⟨b, off, rfl, hc i hi, (hc i hi).lt⟩

theorem RdT.take {a : Option Addr} {cap n m : Nat} (h : RdT w (.slice a n cap) L) (hm : m ≤ L.length) : RdT w (.slice a m cap) (L.take m) := by
  obtain ⟨hn, hc⟩ := h.cap
  obtain ⟨⟨h1, h2, a', cap', h3, h4⟩, -⟩ := h
  simp only [Value.slice.injEq] at h3
  obtain ⟨rfl, rfl, rfl⟩ := h3
  have hlen : (L.take m).length = m := by rw [List.length_take]; omega
  refine ⟨⟨by rw [flat_length, hlen], by rw [hlen]; omega, a, cap, by rw [hlen], fun j u hu => h4 j u ?_⟩, a, cap, by rw [hlen], by omega⟩
  rw [flat_take, List.getElem?_take] at hu
  split at hu
  · exact hu
  · cases hu

/-- 's[m:]': where it is not at the capacity's end -/
theorem RdT.drop {b off cap n m : Nat} (h : RdT w (.slice (some ⟨b, off, none⟩) n cap) L) (hm : m ≤ L.length) : RdT w (.slice (some ⟨b, off + m * 3, none⟩) (L.length - m) (cap - m)) (L.drop m) := by
  obtain ⟨hn, hc⟩ := h.cap
  obtain ⟨⟨h1, h2, a', cap', h3, h4⟩, -⟩ := h
  simp only [Value.slice.injEq] at h3
  obtain ⟨rfl, rfl, rfl⟩ := h3
  have hlen : (L.drop m).length = L.length - m := by rw [List.length_drop]
  refine ⟨⟨by rw [flat_length, hlen], by rw [hlen]; omega, _, _, by rw [hlen], fun j u hu => ?_⟩, _, _, by rw [hlen], by omega⟩
  rw [flat_drop, List.getElem?_drop] at hu
  obtain ⟨b', off', e, hc⟩ := h4 _ u hu
  simp only [Option.some.injEq, Addr.mk.injEq, and_true] at e
  obtain ⟨rfl, rfl⟩ := e
  exact ⟨b, off + m * 3, rfl, by rw [← hc, Nat.add_assoc]⟩

theorem RdT.empty (w : World) (a : Option Addr) (cap : Nat) : RdT w (.slice a 0 cap) [] := ⟨⟨rfl, Nat.zero_le _, a, cap, rfl, fun j u hu => by simp [flat] at hu⟩, a, cap, rfl, Nat.zero_le _⟩

theorem take_eq_succT {xs ys : List Tok} {k : Nat} (h : xs.take k = ys.take k) (hx : k < xs.length) (hy : k < ys.length) (he : xs[k] = ys[k]) : xs.take (k + 1) = ys.take (k + 1) := by
  rw [List.take_succ_eq_append_getElem hx, List.take_succ_eq_append_getElem hy, h, he]


theorem beq_bytes (a b : ByteArray) : (a.toList == b.toList) = decide (a = b) := by
  rw [Bool.eq_iff_iff, decide_eq_true_iff, beq_iff_eq]
  constructor
  · intro h
    have := beq_toListBytes a b
    rw [h] at this
    simp only [beq_self_eq_true] at this
    obtain ⟨x⟩ := a
    obtain ⟨y⟩ := b
    have h2 : (x == y) = true := this
    rw [beq_iff_eq] at h2
    rw [h2]
  · rintro rfl; rfl

end Go.Proofs.Ytjeinldhbajknaa
