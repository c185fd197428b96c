
/-
  Bytes that a call made: '[]byte(s)', and what is appended to it. Conditions: those that each theorem names.
-/
import Derived.Test.YtembknlhocijkaaRows
import Derived.Test.YtembknlhocijkaaSep
import Derived.Laws.IdiomStrings
import Derived.Laws.IdiomCopy
import Derived.ArgAppend
namespace Go.Sp
open Go Go.RowKit
variable {W w w' : World} {A : HProp} {v : Value} {xs : List UInt8}

def bytesV (xs : List UInt8) : List Value := xs.map fun c => .int .u8 c.toNat
theorem bytesV_len (xs : List UInt8) : (bytesV xs).length = xs.length := by simp [bytesV]
theorem bytesV_get (xs : List UInt8) (j : Nat) (h : j < xs.length) : (bytesV xs)[j]? = some (.int .u8 xs[j].toNat) := by simp [bytesV, List.getElem?_map, List.getElem?_eq_getElem h]

/-- bytes at the head of a block; none of its cells is frozen (a mark may stand behind its end) -/
def rowM (v : Value) (xs : List UInt8) : HProp := fun h =>
  (v = .slice none 0 0 ∧ xs = [] ∧ emp h) ∨
  ∃ g cap cur f, v = .slice (some ⟨g, 0, none⟩) xs.length cap ∧ xs.length ≤ cap ∧ cap ≤ maxLen ∧ Array.size cur = cap ∧ cur.toList.take xs.length = bytesV xs ∧ (f = (0, 0) ∨ cur.size ≤ f.1) ∧ pts g (.cells cur 5 f) h

theorem Sat.rowM_nil (h : Sat W A w) : Sat W (rowM (.slice none 0 0) [] * A) w := by
  have h' : Sat W (emp * A) w := h.of_eq emp_star.symm
  exact h'.imp_l fun x hx => .inl ⟨rfl, rfl, hx⟩

theorem Sat.rowM_cases (h : Sat W (rowM v xs * A) w) : (v = .slice none 0 0 ∧ xs = [] ∧ Sat W A w) ∨
    ∃ g cap cur f, v = .slice (some ⟨g, 0, none⟩) xs.length cap ∧ xs.length ≤ cap ∧ cap ≤ maxLen ∧ Array.size cur = cap ∧ cur.toList.take xs.length = bytesV xs ∧ (f = (0, 0) ∨ cur.size ≤ f.1) ∧ Sat W (pts g (.cells cur 5 f) * A) w := by
  obtain ⟨h1, x, hx, a, b, hd, hu, ha, hb⟩ := h
  rcases ha with ⟨rfl, rfl, he⟩ | ⟨g, cap, cur, f, e1, e2, e3, e4, e5, e6, e7⟩
  · refine .inl ⟨rfl, rfl, h1, b, fun k o ho => hx k o ?_, hb⟩
    rw [hu k, he k]; simpa using ho
  · exact .inr ⟨g, cap, cur, f, e1, e2, e3, e4, e5, e6, h1, x, hx, a, b, hd, hu, e7, hb⟩

theorem Sat.rowM_mk {g cap : Nat} {cur : Array Value} {f : Nat × Nat} (h : Sat W (pts g (.cells cur 5 f) * A) w) (h2 : xs.length ≤ cap) (h3 : cap ≤ maxLen) (h4 : cur.size = cap) (h5 : cur.toList.take xs.length = bytesV xs) (h6 : f = (0, 0) ∨ cur.size ≤ f.1) :
    Sat W (rowM (.slice (some ⟨g, 0, none⟩) xs.length cap) xs * A) w :=
  h.imp_l fun _ hx => .inr ⟨g, cap, cur, f, rfl, h2, h3, h4, h5, h6, hx⟩

theorem frozen_off {b i : Nat} {cs : Array Value} {e : TypeId} {f : Nat × Nat} (h : Sat W (pts b (.cells cs e f) * A) w) (hi : i < cs.size) (hf : f = (0, 0) ∨ cs.size ≤ f.1) : w.frozen? ⟨b, i, none⟩ = false := by
  obtain ⟨lo, hi2⟩ := f
  simp only [World.frozen?, h.blk]
  rcases hf with hf | hf
  · cases hf; simp
  · simp only at hf
    have : ¬ lo ≤ i := by omega
    simp [this]

/-- the value; its cells -/
theorem Sat.rowM_val (h : Sat W (rowM v xs * A) w) : ∃ a cap, v = .slice a xs.length cap ∧ xs.length ≤ cap ∧ cap ≤ maxLen ∧ ∀ j, (hj : j < xs.length) → ∃ g, a = some ⟨g, 0, none⟩ ∧ w.cell? ⟨g, j, none⟩ = some (.int .u8 xs[j].toNat) ∧ w.frozen? ⟨g, j, none⟩ = false ∧ g < w.heap.size := by
  rcases h.rowM_cases with ⟨rfl, rfl, _⟩ | ⟨g, cap, cur, f, rfl, h2, h3, h4, h5, h6, h7⟩
  · exact ⟨none, 0, rfl, Nat.le_refl _, Nat.zero_le _, by simp⟩
  · refine ⟨_, cap, rfl, h2, h3, fun j hj => ⟨g, rfl, ?_, frozen_off h7 (by omega) h6, h7.lt⟩⟩
    have h8 := bytesV_get xs j hj
    rw [← h5, List.getElem?_take, if_pos hj] at h8
    exact h7.cell (by simpa using h8)

theorem Sat.rowM_set {g n cap j : Nat} {c : UInt8} (h : Sat W (rowM (.slice (some ⟨g, 0, none⟩) n cap) xs * A) w) :
    Sat W (rowM (.slice (some ⟨g, 0, none⟩) n cap) (xs.set j c) * A) (w.setCell ⟨g, j, none⟩ (.int .u8 c.toNat)) := by
  rcases h.rowM_cases with ⟨h0, _⟩ | ⟨g', cap', cur, f, h1, h2, h3, h4, h5, h6, h7⟩
  · simp at h0
  · simp only [Value.slice.injEq, Option.some.injEq, Addr.mk.injEq, and_true] at h1
    obtain ⟨rfl, rfl, rfl⟩ := h1
    have := (h7.set (i := j) (v := .int .u8 c.toNat)).rowM_mk (xs := xs.set j c) (cap := cap) (by simpa using h2) h3 (by simpa using h4) (by
      rw [Array.toList_setIfInBounds, List.length_set, List.take_set, h5]
      simp [bytesV, List.map_set]) (by simpa using h6)
    simpa using this

/-- '[]byte(s)' -/
theorem Sat.rowM_new {l : List UInt8} {cap : Nat} (h : Sat W A w) (hc : l.length ≤ cap) (hm : cap ≤ maxLen) :
    Sat W (rowM (.slice (some ⟨w.heap.size, 0, none⟩) l.length cap) l * A) (w.drew.alloc (.cells (bytesRow ⟨l.toArray⟩ cap) 5 ((bytesRow ⟨l.toArray⟩ cap).size, (bytesRow ⟨l.toArray⟩ cap).size + 1))) := by
  have hs : (bytesRow ⟨l.toArray⟩ cap).size = cap := by simp [bytesRow, ByteArray.size]; omega
  refine Sat.rowM_mk (h.drew.alloc _) hc hm hs ?_ (.inr (Nat.le_refl _))
  simp only [bytesRow, Array.toList_append, List.map_toArray, Array.toList_replicate]
  rw [List.take_append_of_le_length (by simp), List.take_of_length_le (by simp)]
  rfl

theorem Sat.rowM_append {P : Program} (t ty : TypeId) (i : TypeInfo) (ht : P.underlying t = some (.slice 5)) (hi : P.info? 5 = some i) (hz : i.zero = some (.int .u8 0)) (hsize : i.size = 1) (hby : i.bytes = 1)
    (h : Sat W (rowM v xs * A) w) (a : Addr) (c0 : Nat) (c : UInt8) (hnew : w.cell? a = some (.int .u8 c.toNat)) (h63 : xs.length ≤ 4000000000) :
    ∃ v' w', (Builtin.append_ #[t, t] ty #[v, .slice (some a) 1 c0]).run P w = .ok v' w' ∧ Sat W (rowM v' (xs ++ [c]) * A) w' := by
  have hnews : ∀ j u, ([.int .u8 c.toNat] : List Value)[j]? = some u → w.cell? (a.add j) = some u := by
    intro j u hu
    cases j with
    | zero => simp at hu; subst hu; have : a.add 0 = a := by simp [Addr.add]
              rw [this]; exact hnew
    | succ j => simp at hu
  have h1 : ∀ u ∈ ([.int .u8 c.toNat] : List Value), u.oneCell' = true := by simp [Value.oneCell']
  have hl : ([.int .u8 c.toNat] : List Value).length = 1 * i.size := by rw [hsize]; rfl
  have hzs : (Value.int .u8 0).cells.size = 1 := rfl
  have grown : Sat W A w → ∀ (old : Nat), Sat W (rowM (.slice (some ⟨w.heap.size, 0, none⟩) (xs ++ [c]).length (grownCap w (xs.length + 1) old 5)) (xs ++ [c]) * A)
      (w.drew.alloc (.cells ((bytesV xs).toArray ++ ([.int .u8 c.toNat] : List Value).toArray ++ Builtin.zeroCells (Value.int .u8 0).cells (grownCap w (xs.length + 1) old 5 - (xs.length + 1))) 5)) := by
    intro hA old
    have hge := grownCap_ge w (xs.length + 1) old 5
    have hcm : grownCap w (xs.length + 1) old 5 ≤ maxLen := grownCap_le_maxLen w (xs.length + 1) old 5 (by simp [maxLen]; omega)
    refine Sat.rowM_mk (hA.drew.alloc _) (by simpa using hge) hcm ?_ ?_ (.inl rfl)
    · simp only [Array.size_append, List.size_toArray, size_zeroCells, hzs, bytesV_len, List.length_singleton]
      omega
    · simp only [Array.toList_append, List.append_assoc]
      rw [← List.append_assoc, show bytesV xs ++ [Value.int .u8 c.toNat] = bytesV (xs ++ [c]) by simp [bytesV], ← bytesV_len (xs ++ [c])]
      exact List.take_left
  rcases h.rowM_cases with ⟨rfl, rfl, hA⟩ | ⟨g, cap, cur, f, rfl, h2, h3, h4, h5, h6, h7⟩
  · have hr := run_append_nil (P := P) w t ty 5 i (.int .u8 0) ht hi hz a 1 c0 [.int .u8 c.toNat] hl hnews (by omega) (by omega) (by rw [hby]; omega)
    have hgr := grown hA 0
    simp only [List.length_nil, Nat.zero_add, bytesV, List.map_nil, Array.empty_append, List.nil_append, List.length_singleton] at hgr ⊢
    exact ⟨_, _, hr, hgr⟩
  · by_cases hroom : xs.length + 1 ≤ cap
    · have hr := run_append_room_cells (P := P) w t ty 5 i ht hi g 0 xs.length cap a 1 c0 [.int .u8 c.toNat] hl hnews h1 hroom
        (by intro j hj
            simp only [List.length_singleton] at hj
            obtain rfl : j = 0 := by omega
            rw [hsize]
            rw [show 0 + xs.length * 1 + 0 = xs.length by omega]
            rw [h7.cell (i := xs.length) (v := cur[xs.length]'(by omega)) (by simp)]
            rfl)
        (by intro j hj
            simp only [List.length_singleton] at hj
            obtain rfl : j = 0 := by omega
            rw [hsize, show 0 + xs.length * 1 + 0 = xs.length by omega]
            exact frozen_off h7 (by omega) h6)
      rw [hsize, show 0 + xs.length * 1 = xs.length by omega] at hr
      refine ⟨_, _, hr, ?_⟩
      have h8 := (h7.set (i := xs.length) (v := .int .u8 c.toNat)).rowM_mk (xs := xs ++ [c]) (cap := cap) (by simpa using hroom) h3 (by simpa using h4) (by
        rw [Array.toList_setIfInBounds, List.length_append, List.length_singleton, List.take_add_one, List.take_set_of_le (Nat.le_refl _), h5]
        rw [List.getElem?_set_self (by simp; omega)]
        simp [bytesV]) (by simpa using h6)
      simpa [World.setCells] using h8
    · have holds : ∀ j u, (bytesV xs)[j]? = some u → w.cell? ((⟨g, 0, none⟩ : Addr).add j) = some u := by
        intro j u hu
        have hj : j < xs.length := by have := (List.getElem?_eq_some_iff.1 hu).1; rwa [bytesV_len] at this
        rw [← h5, List.getElem?_take, if_pos hj] at hu
        rw [Addr.add_lit, Nat.zero_add]
        exact h7.cell (by simpa using hu)
      have hr := run_append_grow (P := P) w t ty 5 i (.int .u8 0) ht hi hz ⟨g, 0, none⟩ xs.length cap (bytesV xs) (by rw [bytesV_len, hsize, Nat.mul_one]) holds a 1 c0 [.int .u8 c.toNat] hl hnews (by omega) (by omega) (growslice_fits (by omega) (by rw [hby]; omega))
      have hgr := grown h7.r cap
      simp only [List.length_append, List.length_singleton] at hgr ⊢
      exact ⟨_, _, hr, hgr⟩

theorem wpList_append_M {P : Program} {ops : Array Oper} {rest : List Oper} {o : Oper} {ac : Act} {Q : Exit → Act → World → Prop} (hgd : o.guard = none) (s x : Operand) (t : TypeId)
    (ho : o.op = .call { callee := .builtin .append, args := #[s, x], argTypes := #[t, t] })
    (i : TypeInfo) (ht : P.underlying t = some (.slice 5)) (hi : P.info? 5 = some i) (hz : i.zero = some (.int .u8 0)) (hsize : i.size = 1) (hby : i.bytes = 1)
    (hs : ac.eval s = v) (h : Sat W (rowM v xs * A) w) (a : Addr) (c0 : Nat) (c : UInt8) (hx : ac.eval x = .slice (some a) 1 c0) (hnew : w.cell? a = some (.int .u8 c.toNat)) (h63 : xs.length ≤ 4000000000)
    (hK : ∀ v' w', Sat W (rowM v' (xs ++ [c]) * A) w' → wpList P ops Q rest (ac.put o.dst v') w') : wpList P ops Q (o :: rest) ac w := by
  refine wpList_plain hgd fun K hK' => ?_
  obtain ⟨v', w', hrun, r1⟩ := Sat.rowM_append (P := P) t o.type i ht hi hz hsize hby h a c0 c hnew h63
  unfold Oper.wp
  simp [execOp, ho, resolve, invoke, builtin, hs, hx, hrun, Result.andThen]
  exact hK' _ _ (hK v' w' r1)

end Go.Sp

namespace Go.Proofs.Ytembknlhocijkaa
open Go.RowKit Go.Sp
theorem info_u8 : (Try.prog.info? 5).map (fun i => (i.zero, i.size, i.bytes)) = some (some (.int .u8 0), 1, 1) := by kernel_rfl
theorem info_parts3 {P : Program} {e : TypeId} {z : Value} {s b : Nat} (h : (P.info? e).map (fun i => (i.zero, i.size, i.bytes)) = some (some z, s, b)) : ∃ i, P.info? e = some i ∧ i.zero = some z ∧ i.size = s ∧ i.bytes = b := by
  cases hi : P.info? e with
  | none => rw [hi] at h; cases h
  | some i =>
    rw [hi] at h
    simp only [Option.map_some, Option.some.injEq, Prod.mk.injEq] at h
    exact ⟨i, rfl, h.1, h.2.1, h.2.2⟩

end Go.Proofs.Ytembknlhocijkaa
