import Derived.WalkKit
import Derived.WalkSpells
import Derived.WalkLawsBesides
import Derived.Deep.QuietTactic
import Derived.BigQuiet
import Derived.Lib.Hide
import Derived.StillTailTactics
import Derived.Deep.RegionWith
import Derived.Laws.EntriesVeiled
import Derived.Test.YticljfpippbkkaaRows
import Derived.MapKept
import Derived.Maps.RangeRun
import Derived.DeepKeys3
import Derived.WideKeyRuns
import Derived.Carry
import Derived.ChangeKeysEq
import Derived.Laws.IdiomStrings
import Derived.Laws.IdiomCopy
import Derived.ArgAppend
import Derived.StillTail
import Derived.RegionTactic
import Derived.Laws.Rows
import Derived.Deep.RegionLaw
/-
  A small logic of heaps: what a call owns, said as a product of parts ('A * B'), read over a world by 'Sat'.
  Conditions: none; it speaks of any program. No text of the program is named here.
-/
namespace Go.Sp
open Go.RowKit

/-- A part of the heap, said of. -/
def HProp : Type := (Nat → Option Obj) → Prop

def HProp.star (P Q : HProp) : HProp := fun h =>
  ∃ a b : Nat → Option Obj, (∀ k, a k = none ∨ b k = none) ∧ (∀ k, h k = (a k).or (b k)) ∧ P a ∧ Q b

instance : Mul HProp := ⟨HProp.star⟩

def emp : HProp := fun h => ∀ k, h k = none
def ex {α : Type} (P : α → HProp) : HProp := fun h => ∃ x, P x h
def fact (p : Prop) (A : HProp) : HProp := fun h => p ∧ A h
def pts (b : Nat) (o : Obj) : HProp := fun h => h b = some o ∧ ∀ k, k ≠ b → h k = none
/-- The heap in which the call began. -/
def own (W : World) : HProp := fun h => ∀ k, h k = W.heap[k]?

theorem HProp.ext {A B : HProp} (h : ∀ x, A x ↔ B x) : A = B := funext fun x => propext (h x)

theorem star_comm (A B : HProp) : A * B = B * A := by
  have key : ∀ (A B : HProp) x, (A * B) x → (B * A) x := by
    rintro A B x ⟨a, b, hd, hu, ha, hb⟩
    refine ⟨b, a, fun k => (hd k).symm, fun k => ?_, hb, ha⟩
    rw [hu k]
    rcases hd k with h | h <;> simp [h]
  exact HProp.ext fun x => ⟨key A B x, key B A x⟩

theorem star_assoc (A B C : HProp) : A * B * C = A * (B * C) := by
  refine HProp.ext fun x => ⟨?_, ?_⟩
  · rintro ⟨ab, c, hd, hu, ⟨a, b, hd2, hu2, ha, hb⟩, hc⟩
    refine ⟨a, fun k => (b k).or (c k), ?_, ?_, ha, b, c, ?_, fun _ => rfl, hb, hc⟩
    · intro k
      have h1 := hd k; have h2 := hd2 k; rw [hu2 k] at h1
      cases ha' : a k <;> cases hb' : b k <;> simp_all
    · intro k; rw [hu k, hu2 k]; cases a k <;> simp
    · intro k
      have h1 := hd k; have h2 := hd2 k; rw [hu2 k] at h1
      cases ha' : a k <;> cases hb' : b k <;> simp_all
  · rintro ⟨a, bc, hd, hu, ha, b, c, hd2, hu2, hb, hc⟩
    refine ⟨fun k => (a k).or (b k), c, ?_, ?_, ⟨a, b, ?_, fun _ => rfl, ha, hb⟩, hc⟩
    · intro k
      have h1 := hd k; have h2 := hd2 k; rw [hu2 k] at h1
      cases ha' : a k <;> cases hb' : b k <;> simp_all
    · intro k; rw [hu k, hu2 k]; show _ = ((a k).or (b k)).or (c k); cases a k <;> simp
    · intro k
      have h1 := hd k; have h2 := hd2 k; rw [hu2 k] at h1
      cases ha' : a k <;> cases hb' : b k <;> simp_all

instance : Std.Commutative (α := HProp) (· * ·) := ⟨star_comm⟩
instance : Std.Associative (α := HProp) (· * ·) := ⟨star_assoc⟩

theorem star_left_comm (A B C : HProp) : A * (B * C) = B * (A * C) := by
  rw [← star_assoc, star_comm A B, star_assoc]

theorem star_ex {α : Type} (P : α → HProp) (Q : HProp) : ex P * Q = ex fun x => P x * Q :=
  HProp.ext fun _ => ⟨fun ⟨a, b, hd, hu, ⟨x, ha⟩, hb⟩ => ⟨x, a, b, hd, hu, ha, hb⟩, fun ⟨x, a, b, hd, hu, ha, hb⟩ => ⟨a, b, hd, hu, ⟨x, ha⟩, hb⟩⟩

theorem star_fact (p : Prop) (A B : HProp) : fact p A * B = fact p (A * B) :=
  HProp.ext fun _ => ⟨fun ⟨a, b, hd, hu, ⟨hp, ha⟩, hb⟩ => ⟨hp, a, b, hd, hu, ha, hb⟩, fun ⟨hp, a, b, hd, hu, ha, hb⟩ => ⟨a, b, hd, hu, ⟨hp, ha⟩, hb⟩⟩

theorem star_mono {A A' B : HProp} (h : ∀ x, A x → A' x) : ∀ x, (A * B) x → (A' * B) x :=
  fun _ ⟨a, b, hd, hu, ha, hb⟩ => ⟨a, b, hd, hu, h _ ha, hb⟩

/-- In the world w, whose streams and tape are W's, a part of the heap is as A says; of the rest nothing is said. -/
def Sat (W : World) (A : HProp) (w : World) : Prop :=
  (w.os = W.os ∧ w.tape = W.tape ∧ w.output = W.output) ∧ ∃ h : Nat → Option Obj, (∀ k o, h k = some o → w.heap[k]? = some o) ∧ A h

section
variable {W w w' : World} {A B C : HProp}

theorem Sat.imp (h : Sat W A w) (hA : ∀ x, A x → B x) : Sat W B w := ⟨h.1, let ⟨x, hx, a⟩ := h.2; ⟨x, hx, hA x a⟩⟩
theorem Sat.of_eq (h : Sat W A w) (e : A = B) : Sat W B w := e ▸ h
theorem Sat.l (h : Sat W (A * B) w) : Sat W A w := by
  obtain ⟨h1, x, hx, a, b, hd, hu, ha, hb⟩ := h
  refine ⟨h1, a, fun k o ho => hx k o ?_, ha⟩
  rw [hu k, ho]; rfl
theorem Sat.comm (h : Sat W (A * B) w) : Sat W (B * A) w := h.of_eq (star_comm A B)
theorem Sat.r (h : Sat W (A * B) w) : Sat W B w := h.comm.l
theorem Sat.ex {α : Type} {P : α → HProp} (h : Sat W (ex P) w) : ∃ x, Sat W (P x) w :=
  let ⟨h1, x, hx, y, hy⟩ := h; ⟨y, h1, x, hx, hy⟩
theorem Sat.ex_intro {α : Type} {P : α → HProp} (x : α) (h : Sat W (P x) w) : Sat W (Sp.ex P) w :=
  let ⟨h1, y, hy, z⟩ := h; ⟨h1, y, hy, x, z⟩
theorem Sat.ex_l {α : Type} {P : α → HProp} (h : Sat W (Sp.ex P * A) w) : ∃ x, Sat W (P x * A) w := (h.of_eq (star_ex P A)).ex
theorem Sat.ex_l_intro {α : Type} {P : α → HProp} (x : α) (h : Sat W (P x * A) w) : Sat W (Sp.ex P * A) w :=
  Sat.of_eq (Sat.ex_intro (P := fun x => P x * A) x h) (star_ex P A).symm
theorem Sat.fact_l {p : Prop} (h : Sat W (fact p A * B) w) : p ∧ Sat W (A * B) w := by
  rw [star_fact] at h
  obtain ⟨h1, x, hx, hp, ha⟩ := h
  exact ⟨hp, h1, x, hx, ha⟩
theorem Sat.fact_l_intro {p : Prop} (hp : p) (h : Sat W (A * B) w) : Sat W (fact p A * B) w := by
  rw [star_fact]
  obtain ⟨h1, x, hx, ha⟩ := h
  exact ⟨h1, x, hx, hp, ha⟩
theorem Sat.rot (h : Sat W (A * (B * C)) w) : Sat W (B * (A * C)) w := h.of_eq (star_left_comm A B C)
theorem Sat.asc (h : Sat W (A * B * C) w) : Sat W (A * (B * C)) w := h.of_eq (star_assoc A B C)
theorem Sat.asc' (h : Sat W (A * (B * C)) w) : Sat W (A * B * C) w := h.of_eq (star_assoc A B C).symm
theorem Sat.imp_l (h : Sat W (A * C) w) (hA : ∀ x, A x → B x) : Sat W (B * C) w := h.imp (star_mono hA)

/-- What is said of the heap is kept where no block is lost. -/
theorem Sat.keep (h : Sat W A w) (he : w'.os = w.os ∧ w'.tape = w.tape ∧ w'.output = w.output) (hb : ∀ (k : Nat) (o : Obj), w.heap[k]? = some o → w'.heap[k]? = some o) : Sat W A w' := by
  obtain ⟨⟨h1, h2, h3⟩, x, hx, a⟩ := h
  exact ⟨⟨he.1.trans h1, he.2.1.trans h2, he.2.2.trans h3⟩, x, fun k o ho => hb k o (hx k o ho), a⟩

theorem Sat.drew (h : Sat W A w) : Sat W A w.drew := h.keep ⟨rfl, rfl, rfl⟩ fun _ _ h => h
theorem Sat.drewN (h : Sat W A w) {n : Nat} : Sat W A (w.drewN n) := by
  induction n with
  | zero => exact h
  | succ n ih => exact ih.drew

theorem heap_alloc_keep (w : World) (o : Obj) (k : Nat) (x : Obj) (h : w.heap[k]? = some x) : (w.alloc o).heap[k]? = some x := by
  have hk := (Array.getElem?_eq_some_iff.1 h).1
  rw [Below.heap_alloc w o k hk]; exact h

/-- A new block, not spoken of. -/
theorem Sat.allocD (h : Sat W A w) {o : Obj} : Sat W A (w.alloc o) := h.keep ⟨rfl, rfl, rfl⟩ (heap_alloc_keep w o)

/-- A new block. -/
theorem Sat.alloc (h : Sat W A w) (o : Obj) : Sat W (pts w.heap.size o * A) (w.alloc o) := by
  obtain ⟨h1, x, hx, a⟩ := h
  have hn : x w.heap.size = none := by
    cases hh : x w.heap.size with
    | none => rfl
    | some o' => have := hx _ _ hh; have := (Array.getElem?_eq_some_iff.1 this).1; omega
  refine ⟨h1, fun k => if k = w.heap.size then some o else x k, fun k o' ho => ?_, fun k => if k = w.heap.size then some o else none, x, fun k => ?_, fun k => ?_, ⟨by simp, fun k hk => by simp [hk]⟩, a⟩
  · by_cases hk : k = w.heap.size
    · subst hk; simp at ho; subst ho; exact Go.heap_alloc_new w _
    · simp [hk] at ho; exact heap_alloc_keep w o k o' (hx k o' ho)
  · by_cases hk : k = w.heap.size
    · subst hk; exact .inr hn
    · exact .inl (by simp [hk])
  · by_cases hk : k = w.heap.size <;> simp [hk]

theorem Sat.blk {b : Nat} {o : Obj} (h : Sat W (pts b o * A) w) : w.heap[b]? = some o := by
  obtain ⟨_, x, hx, hp⟩ := h.l
  exact hx b o hp.1
theorem Sat.blk1 {b : Nat} {o : Obj} (h : Sat W (pts b o) w) : w.heap[b]? = some o := by
  obtain ⟨_, x, hx, hp⟩ := h
  exact hx b o hp.1
theorem Sat.lt {b : Nat} {o : Obj} (h : Sat W (pts b o * A) w) : b < w.heap.size := (Array.getElem?_eq_some_iff.1 h.blk).1
theorem Sat.ne {b c : Nat} {o p : Obj} (h : Sat W (pts b o * (pts c p * A)) w) : b ≠ c := by
  rintro rfl
  obtain ⟨_, x, hx, a, r, hd, hu, ha, a2, r2, hd2, hu2, ha2, _⟩ := h
  have h1 := hd b
  rw [ha.1, hu2 b, ha2.1] at h1
  simp at h1
theorem Sat.cell {b i : Nat} {cs : Array Value} {e : TypeId} {f : Nat × Nat} {v : Value} (h : Sat W (pts b (.cells cs e f) * A) w) (hv : cs[i]? = some v) : w.cell? ⟨b, i, none⟩ = some v := by
  rw [cell_of_row w b i cs e f h.blk]; exact hv
theorem Sat.free {b i : Nat} {cs : Array Value} {e : TypeId} (h : Sat W (pts b (.cells cs e (0, 0)) * A) w) : w.frozen? ⟨b, i, none⟩ = false := by
  simp [World.frozen?, h.blk]

/-- One block is changed; the rest stays. -/
theorem Sat.upd {b : Nat} {o o' : Obj} (h : Sat W (pts b o * A) w) (he : w'.os = w.os ∧ w'.tape = w.tape ∧ w'.output = w.output)
    (hb : w'.heap[b]? = some o') (hk : ∀ (k : Nat) (x : Obj), k ≠ b → w.heap[k]? = some x → w'.heap[k]? = some x) : Sat W (pts b o' * A) w' := by
  obtain ⟨⟨h1, h2, h3⟩, x, hx, a, r, hd, hu, ha, hr⟩ := h
  refine ⟨⟨he.1.trans h1, he.2.1.trans h2, he.2.2.trans h3⟩, fun k => if k = b then some o' else x k, ?_, fun k => if k = b then some o' else none, r, ?_, ?_, ⟨by simp, fun k hk => by simp [hk]⟩, hr⟩
  · intro k y hy
    by_cases hkb : k = b
    · subst hkb; simp at hy; subst hy; exact hb
    · simp [hkb] at hy; exact hk k y hkb (hx k y hy)
  · intro k
    by_cases hkb : k = b
    · subst hkb; rcases hd k with h | h
      · rw [ha.1] at h; cases h
      · exact .inr h
    · exact .inl (by simp [hkb])
  · intro k
    by_cases hkb : k = b
    · subst hkb; simp
    · simp [hkb]; rw [hu k, ha.2 k hkb]; simp

theorem Sat.set {b i : Nat} {cs : Array Value} {e : TypeId} {f : Nat × Nat} {v : Value} (h : Sat W (pts b (.cells cs e f) * A) w) :
    Sat W (pts b (.cells (cs.setIfInBounds i v) e f) * A) (w.setCell ⟨b, i, none⟩ v) := by
  refine h.upd ⟨rfl, rfl, rfl⟩ ?_ ?_
  · simp only [World.setCell, Array.getElem?_modify]
    simp [h.blk]
  · intro k x hk hx
    rw [Below.heap_setCell w ⟨b, i, none⟩ v k hk]; exact hx

/-- Out of the heap in which the call began. -/
theorem Sat.own_blk {k : Nat} {o : Obj} (h : Sat W (own W) w) (hk : W.heap[k]? = some o) : w.heap[k]? = some o := by
  obtain ⟨_, x, hx, ho⟩ := h
  exact hx k o ((ho k).trans hk)
theorem Sat.own_cell {a : Addr} {v : Value} (h : Sat W (own W) w) (hc : W.cell? a = some v) : w.cell? a = some v := by
  have hk := World.block_lt_of_cell? W a hc
  have := h.own_blk (Array.getElem?_eq_getElem hk)
  rw [World.cell?_of_block (w := W) (w' := w) (by rw [this]; exact (Array.getElem?_eq_getElem hk).symm)]
  exact hc
theorem Sat.below (h : Sat W (own W) w) : Below W.heap.size W w := by
  refine ⟨h.1.1, h.1.2.1, h.1.2.2, ?_, fun k hk => ?_⟩
  · rcases Nat.eq_zero_or_pos W.heap.size with h0 | h0
    · omega
    · have := h.own_blk (k := W.heap.size - 1) (Array.getElem?_eq_getElem (by omega))
      have := (Array.getElem?_eq_some_iff.1 this).1
      omega
  · rw [h.own_blk (Array.getElem?_eq_getElem hk), Array.getElem?_eq_getElem hk]
theorem Sat.start (W : World) : Sat W (own W) W := ⟨⟨rfl, rfl, rfl⟩, fun k => W.heap[k]?, fun _ _ h => h, fun _ => rfl⟩
end

/-! ### Slices that the call made: 'row v n e size xs': n elements of size cells each lie at the head of a block. -/
def row (v : Value) (n : Nat) (e : TypeId) (size : Nat) (xs : List Value) : HProp := fun h =>
  xs.length = n * size ∧ ((v = .slice none 0 0 ∧ n = 0 ∧ emp h) ∨
    ∃ g cap cur, v = .slice (some ⟨g, 0, none⟩) n cap ∧ n ≤ cap ∧ cap ≤ maxLen ∧ cur.size = cap * size ∧ cur.toList.take (n * size) = xs ∧ pts g (.cells cur e (0, 0)) h)

section
variable {W w w' : World} {A : HProp} {v : Value} {n : Nat} {e : TypeId} {size : Nat} {xs : List Value}

theorem emp_star : emp * A = A := by
  refine HProp.ext fun x => ⟨?_, fun h => ⟨fun _ => none, x, fun _ => .inl rfl, fun _ => by simp, fun _ => rfl, h⟩⟩
  rintro ⟨a, b, _, hu, ha, hb⟩
  have : x = b := funext fun k => by rw [hu k, ha k]; simp
  exact this ▸ hb

theorem Sat.row_nil (h : Sat W A w) : Sat W (row (.slice none 0 0) 0 e size [] * A) w := by
  have h' : Sat W (emp * A) w := h.of_eq emp_star.symm
  exact h'.imp_l fun x hx => ⟨by simp, .inl ⟨rfl, rfl, hx⟩⟩

theorem Sat.row_cases (h : Sat W (row v n e size xs * A) w) : xs.length = n * size ∧ ((v = .slice none 0 0 ∧ n = 0 ∧ xs = [] ∧ Sat W A w) ∨
    ∃ g cap cur, v = .slice (some ⟨g, 0, none⟩) n cap ∧ n ≤ cap ∧ cap ≤ maxLen ∧ cur.size = cap * size ∧ cur.toList.take (n * size) = xs ∧ Sat W (pts g (.cells cur e (0, 0)) * A) w) := by
  obtain ⟨h1, x, hx, a, b, hd, hu, ⟨hl, ha⟩, hb⟩ := h
  refine ⟨hl, ?_⟩
  rcases ha with ⟨rfl, rfl, he⟩ | ⟨g, cap, cur, rfl, h2, h3, h4, h5, h6⟩
  · refine .inl ⟨rfl, rfl, List.eq_nil_of_length_eq_zero (by simpa using hl), h1, b, fun k o ho => hx k o ?_, hb⟩
    rw [hu k, he k]; simpa using ho
  · exact .inr ⟨g, cap, cur, rfl, h2, h3, h4, h5, h1, x, hx, a, b, hd, hu, h6, hb⟩

theorem Sat.row_mk {g cap : Nat} {cur : Array Value} (h : Sat W (pts g (.cells cur e (0, 0)) * A) w) (h2 : n ≤ cap) (h3 : cap ≤ maxLen) (h4 : cur.size = cap * size) (h5 : cur.toList.take (n * size) = xs) (hl : xs.length = n * size) :
    Sat W (row (.slice (some ⟨g, 0, none⟩) n cap) n e size xs * A) w :=
  h.imp_l fun _ hx => ⟨hl, .inr ⟨g, cap, cur, rfl, h2, h3, h4, h5, hx⟩⟩

/-- A block that is laid whole. -/
theorem Sat.row_whole {g : Nat} {cur : Array Value} (n : Nat) (h : Sat W (pts g (.cells cur e (0, 0)) * A) w) (h3 : n ≤ maxLen) (h4 : cur.size = n * size) :
    Sat W (row (.slice (some ⟨g, 0, none⟩) n n) n e size cur.toList * A) w :=
  h.row_mk (Nat.le_refl _) h3 h4 (by rw [← h4, ← Array.length_toList, List.take_length]) h4

theorem Sat.row_len (h : Sat W (row v n e size xs * A) w) : xs.length = n * size ∧ n ≤ maxLen := by
  obtain ⟨hl, h⟩ := h.row_cases
  refine ⟨hl, ?_⟩
  rcases h with ⟨_, rfl, _⟩ | ⟨_, _, _, _, h2, h3, _⟩
  · exact Nat.zero_le _
  · omega

/-- The value of an owned slice. -/
theorem Sat.row_val (h : Sat W (row v n e size xs * A) w) : ∃ a cap, v = .slice a n cap ∧ ∀ j u, xs[j]? = some u → ∃ g, a = some ⟨g, 0, none⟩ ∧ w.cell? ⟨g, j, none⟩ = some u := by
  obtain ⟨hl, h⟩ := h.row_cases
  rcases h with ⟨rfl, rfl, rfl, _⟩ | ⟨g, cap, cur, rfl, h2, h3, h4, h5, h6⟩
  · exact ⟨none, 0, rfl, by simp⟩
  · refine ⟨some ⟨g, 0, none⟩, cap, rfl, fun j u hu => ⟨g, rfl, h6.cell ?_⟩⟩
    rw [← h5, List.getElem?_take] at hu
    split at hu
    · simpa using hu
    · cases hu

theorem Sat.upd_row {g : Nat} {cur : Array Value} (h : Sat W (pts g (.cells cur e (0, 0)) * A) w) (cs : Array Value) : Sat W (pts g (.cells cs e (0, 0)) * A) (w.setRow g cs) :=
  h.upd ⟨rfl, rfl, rfl⟩ (setRow_heap w g cur cs e _ h.blk) fun k _ hk hx => by rw [setRow_other w g k cs hk]; exact hx

/-- append: what is appended lies at 'a'. -/
theorem Sat.run_append {P : Program} (t ty : TypeId) (i : TypeInfo) (z : Value) (bytes : Nat) (ht : P.underlying t = some (.slice e)) (hi : P.info? e = some i) (hz : i.zero = some z)
    (hsize : i.size = size) (hby : i.bytes = bytes) (hzs : z.cells.size = size)
    (h : Sat W (row v n e size xs * A) w)
    (a : Addr) (m c : Nat) (news : List Value) (hl : news.length = m * size) (hnews : ∀ j u, news[j]? = some u → w.cell? (a.add j) = some u) (h1 : ∀ u ∈ news, u.oneCell' = true)
    (h63 : n + m ≤ maxLen) (hbytes : (n + m) * bytes ≤ 140737488355328) :
    ∃ v' w', (Builtin.append_ #[t, t] ty #[v, .slice (some a) m c]).run P w = .ok v' w' ∧ Sat W (row v' (n + m) e size (xs ++ news) * A) w' ∧
      (v' = .slice none 0 0 ↔ v = .slice none 0 0 ∧ m = 0) := by
  subst hsize
  subst hby
  have hsmall : n + m ≤ 9223372036854775807 := by simp only [maxLen] at h63; omega
  obtain ⟨hxl, hc⟩ := h.row_cases
  have hlen : (xs ++ news).length = (n + m) * i.size := by rw [List.length_append, hxl, hl, Nat.add_mul]
  have grown : Sat W A w → ∀ (old : Nat), Sat W (row (.slice (some ⟨w.heap.size, 0, none⟩) (n + m) (grownCap w (n + m) old e)) (n + m) e i.size (xs ++ news) * A)
      (w.drew.alloc (.cells (xs.toArray ++ news.toArray ++ Builtin.zeroCells z.cells (grownCap w (n + m) old e - (n + m))) e)) := by
    intro hA old
    have hge := grownCap_ge w (n + m) old e
    have hcm : grownCap w (n + m) old e ≤ maxLen := grownCap_le_maxLen w (n + m) old e h63
    refine Sat.row_mk (hA.drew.alloc _) hge hcm ?_ ?_ hlen
    · simp only [Array.size_append, List.size_toArray, size_zeroCells, hzs, hxl, hl, ← Nat.add_mul]
      congr 1
      omega
    · simp only [Array.toList_append, List.append_assoc]
      rw [← List.append_assoc, ← hlen]
      exact List.take_left
  rcases hc with ⟨rfl, rfl, rfl, hA⟩ | ⟨g, cap, cur, rfl, hnc, hcm, hcs, htake, hA⟩
  · by_cases hm : m = 0
    · subst hm
      have hn : news = [] := List.eq_nil_of_length_eq_zero (by simpa using hl)
      subst hn
      refine ⟨.slice none 0 0, w, ?_, hA.row_nil, by simp⟩
      simp [Builtin.append_, run_underlying ht, sizeOf, typeInfo, hi, Builtin.lenOf, Builtin.firstCells, loadCells, loadCellsFrom]
    · have hr := run_append_nil (P := P) w t ty e i z ht hi hz a m c news hl hnews (by omega) (by omega) (by have hb := hbytes; simp only [Nat.zero_add] at hb; omega)
      have hgr := grown hA 0
      simp only [Nat.zero_add, List.nil_append, Array.empty_append] at hgr ⊢
      exact ⟨_, _, hr, hgr, by simp [hm]⟩
  · by_cases hroom : n + m ≤ cap
    · have hfit : n * i.size + news.length ≤ cur.size := by rw [hl, hcs, ← Nat.add_mul]; exact Nat.mul_le_mul_right _ hroom
      have hr := run_append_room (P := P) w t ty e i ht hi g n cap cur hA.blk a m c news hl hnews h1 hroom hfit
      refine ⟨_, _, hr, Sat.row_mk (hA.upd_row _) hroom hcm ?_ ?_ hlen, by simp⟩
      · simp only [List.size_toArray, List.length_append, List.length_take, List.length_drop, Array.length_toList]
        omega
      · rw [htake, ← hlen]
        exact List.take_left
    · have holds : ∀ j u, xs[j]? = some u → w.cell? ((⟨g, 0, none⟩ : Addr).add j) = some u := by
        intro j u hu
        obtain ⟨a', c', ev, hh⟩ := h.row_val
        obtain ⟨g', e', hcell⟩ := hh j u hu
        simp only [Value.slice.injEq] at ev
        obtain ⟨ev, _, _⟩ := ev
        rw [← ev] at e'
        simp only [Option.some.injEq, Addr.mk.injEq] at e'
        obtain ⟨rfl, _, _⟩ := e'
        rw [Addr.add_lit]; simpa using hcell
      have hr := run_append_grow (P := P) w t ty e i z ht hi hz ⟨g, 0, none⟩ n cap xs hxl holds a m c news hl hnews (by omega) (by omega) (growslice_fits (by omega) hbytes)
      exact ⟨_, _, hr, grown hA.r cap, by simp⟩

theorem wpList_append_sep {P : Program} {ops : Array Oper} {rest : List Oper} {o : Oper} {ac : Act} {Q : Exit → Act → World → Prop} (hgd : o.guard = none) (s x : Operand) (t : TypeId)
    (ho : o.op = .call { callee := .builtin .append, args := #[s, x], argTypes := #[t, t] })
    (i : TypeInfo) (z : Value) (bytes : Nat) (ht : P.underlying t = some (.slice e)) (hi : P.info? e = some i) (hz : i.zero = some z)
    (hsize : i.size = size) (hby : i.bytes = bytes) (hzs : z.cells.size = size)
    (hs : ac.eval s = v) (h : Sat W (row v n e size xs * A) w)
    (a : Addr) (m c : Nat) (news : List Value) (hx : ac.eval x = .slice (some a) m c) (hl : news.length = m * size) (hnews : ∀ j u, news[j]? = some u → w.cell? (a.add j) = some u) (h1 : ∀ u ∈ news, u.oneCell' = true)
    (h63 : n + m ≤ maxLen) (hbytes : (n + m) * bytes ≤ 140737488355328)
    (hK : ∀ v' w', Sat W (row v' (n + m) e size (xs ++ news) * A) w' → wpList P ops Q rest (ac.put o.dst v') w') : wpList P ops Q (o :: rest) ac w := by
  refine wpList_plain hgd fun K hK' => ?_
  obtain ⟨v', w', hrun, r1, _⟩ := Sat.run_append (P := P) t o.type i z bytes ht hi hz hsize hby hzs h a m c news hl hnews h1 h63 hbytes
  unfold Oper.wp
  simp [execOp, ho, resolve, invoke, builtin, hs, hx, hrun, Result.andThen]
  exact hK' _ _ (hK v' w' r1)

theorem Sat.row_set {g cap i : Nat} {u : Value} (h : Sat W (row (.slice (some ⟨g, 0, none⟩) n cap) n e size xs * A) w) :
    Sat W (row (.slice (some ⟨g, 0, none⟩) n cap) n e size (xs.set i u) * A) (w.setCell ⟨g, i, none⟩ u) := by
  obtain ⟨hl, h⟩ := h.row_cases
  rcases h with ⟨h0, _⟩ | ⟨g', cap', cur, h1, h2, h3, h4, h5, h6⟩
  · simp at h0
  · simp only [Value.slice.injEq, Option.some.injEq, Addr.mk.injEq, true_and, and_true] at h1
    obtain ⟨rfl, rfl⟩ := h1
    refine Sat.row_mk h6.set h2 h3 (by simpa using h4) ?_ (by simpa using hl)
    rw [← h5, Array.toList_setIfInBounds, List.take_set]

/-- the elements of an owned slice, by its address -/
theorem Sat.row_cell {g cap j : Nat} {u : Value} (h : Sat W (row (.slice (some ⟨g, 0, none⟩) n cap) n e size xs * A) w) (hj : xs[j]? = some u) : w.cell? ⟨g, j, none⟩ = some u := by
  obtain ⟨a, c, h1, h2⟩ := h.row_val
  obtain ⟨g', h3, h4⟩ := h2 j u hj
  simp only [Value.slice.injEq] at h1
  rw [h3] at h1
  simp only [Option.some.injEq, Addr.mk.injEq, and_true, true_and] at h1
  rw [h1.1]; exact h4

theorem Sat.row_free {g cap i : Nat} (h : Sat W (row (.slice (some ⟨g, 0, none⟩) n cap) n e size xs * A) w) : w.frozen? ⟨g, i, none⟩ = false := by
  obtain ⟨_, h⟩ := h.row_cases
  rcases h with ⟨h0, _⟩ | ⟨g', cap', cur, h1, h2, h3, h4, h5, h6⟩
  · simp at h0
  · simp only [Value.slice.injEq, Option.some.injEq, Addr.mk.injEq, true_and, and_true] at h1
    obtain ⟨rfl, rfl⟩ := h1
    exact h6.free

/-- a shorter slice of the same block -/
theorem Sat.row_take {g cap m : Nat} (h : Sat W (row (.slice (some ⟨g, 0, none⟩) n cap) n e size xs * A) w) (hm : m ≤ n) :
    Sat W (row (.slice (some ⟨g, 0, none⟩) m cap) m e size (xs.take (m * size)) * A) w := by
  obtain ⟨hl, h⟩ := h.row_cases
  have hms : m * size ≤ n * size := Nat.mul_le_mul_right _ hm
  rcases h with ⟨h0, _⟩ | ⟨g', cap', cur, h1, h2, h3, h4, h5, h6⟩
  · simp at h0
  · simp only [Value.slice.injEq, Option.some.injEq, Addr.mk.injEq, true_and, and_true] at h1
    obtain ⟨rfl, rfl⟩ := h1
    refine Sat.row_mk h6 (Nat.le_trans hm h2) h3 h4 ?_ (by rw [List.length_take]; omega)
    rw [← h5, List.take_take, Nat.min_eq_left hms]
end

/-- the cells of a block that was just laid -/
theorem new_cells (w : World) (cs : Array Value) (e : TypeId) : ∀ (j : Nat) (u : Value), cs.toList[j]? = some u → (w.alloc (.cells cs e)).cell? ((⟨w.heap.size, 0, none⟩ : Addr).add j) = some u := by
  intro j u hu
  rw [Addr.add_lit, Nat.zero_add, World.cell?_alloc_new]
  simpa using hu

/-! ### Slices that are read: 'Rd w v n size xs': in w the slice v has n elements of size cells each, and they are xs. -/
def Rd (w : World) (v : Value) (n size : Nat) (xs : List Value) : Prop :=
  xs.length = n * size ∧ n ≤ maxLen ∧ ∃ a cap, v = .slice a n cap ∧ ∀ j u, xs[j]? = some u → ∃ b off, a = some ⟨b, off, none⟩ ∧ w.cell? ⟨b, off + j, none⟩ = some u

theorem Rd.drewN {w : World} {v : Value} {n size : Nat} {xs : List Value} (h : Rd w v n size xs) (q : Nat) : Rd (w.drewN q) v n size xs := by
  obtain ⟨h1, h2, a, cap, h3, h4⟩ := h
  exact ⟨h1, h2, a, cap, h3, fun j u hu => let ⟨b, off, e, c⟩ := h4 j u hu; ⟨b, off, e, by simpa using c⟩⟩

theorem Rd.keep {w w' : World} {v : Value} {n size : Nat} {xs : List Value} (h : Rd w v n size xs) (hk : ∀ a u, w.cell? a = some u → w'.cell? a = some u) : Rd w' v n size xs := by
  obtain ⟨h1, h2, a, cap, h3, h4⟩ := h
  exact ⟨h1, h2, a, cap, h3, fun j u hu => let ⟨b, off, e, c⟩ := h4 j u hu; ⟨b, off, e, hk _ _ c⟩⟩

theorem Sat.rd {W w : World} {A : HProp} {v : Value} {n : Nat} {e : TypeId} {size : Nat} {xs : List Value} (h : Sat W (row v n e size xs * A) w) : Rd w v n size xs := by
  obtain ⟨h1, h2⟩ := h.row_len
  obtain ⟨a, cap, h3, h4⟩ := h.row_val
  exact ⟨h1, h2, a, cap, h3, fun j u hu => let ⟨g, e, c⟩ := h4 j u hu; ⟨g, 0, e, by simpa using c⟩⟩

/-- Its head, where there is an element. -/
theorem Rd.head {w : World} {v : Value} {n size : Nat} {xs : List Value} (h : Rd w v n size xs) (hn : 0 < n) (hs : 0 < size) :
    ∃ b off cap, v = .slice (some ⟨b, off, none⟩) n cap ∧ ∀ j u, xs[j]? = some u → w.cell? ⟨b, off + j, none⟩ = some u := by
  obtain ⟨h1, h2, a, cap, h3, h4⟩ := h
  have hp : 0 < xs.length := by rw [h1]; exact Nat.mul_pos hn hs
  obtain ⟨b, off, rfl, _⟩ := h4 0 xs[0] (by simp [hp])
  refine ⟨b, off, cap, h3, fun j u hu => ?_⟩
  obtain ⟨b', off', e, c⟩ := h4 j u hu
  cases e
  exact c

/-- A slice of integers of one kind. -/
def RdI (w : World) (k : IntKind) (v : Value) (xs : List Int) : Prop := Rd w v xs.length 1 (xs.map (Value.int k))

theorem RdI.drewN {w : World} {k : IntKind} {v : Value} {xs : List Int} (h : RdI w k v xs) (q : Nat) : RdI (w.drewN q) k v xs := Rd.drewN h q
theorem RdI.le {w : World} {k : IntKind} {v : Value} {xs : List Int} (h : RdI w k v xs) : xs.length ≤ 9223372036854775807 := h.2.1
theorem RdI.head {w : World} {k : IntKind} {v : Value} {xs : List Int} (h : RdI w k v xs) (hn : 0 < xs.length) :
    ∃ b off cap, v = .slice (some ⟨b, off, none⟩) xs.length cap ∧ ∀ j, j < xs.length → w.cell? ⟨b, off + j, none⟩ = some (.int k (xs.getD j 0)) := by
  obtain ⟨b, off, cap, h1, h2⟩ := Rd.head h hn (by omega)
  exact ⟨b, off, cap, h1, fun j hj => h2 j _ (by simp [hj, List.getD])⟩
theorem RdI.val {w : World} {k : IntKind} {v : Value} {xs : List Int} (h : RdI w k v xs) : ∃ a cap, v = .slice a xs.length cap := by
  obtain ⟨_, _, a, cap, h3, _⟩ := h
  exact ⟨a, cap, h3⟩

theorem take_eq_succ {xs ys : List Int} {k : Nat} (h : xs.take k = ys.take k) (hx : k < xs.length) (hy : k < ys.length) (he : xs.getD k 0 = ys.getD k 0) : xs.take (k + 1) = ys.take (k + 1) := by
  rw [List.take_succ_eq_append_getElem hx, List.take_succ_eq_append_getElem hy, h]
  simp [List.getD, hx, hy] at he
  rw [he]

/-! ### What a call that only reads and makes leaves: all blocks are as they were, there may be more. -/
def Ext (w w' : World) : Prop := (w'.os = w.os ∧ w'.tape = w.tape ∧ w'.output = w.output) ∧ ∀ (k : Nat) (o : Obj), w.heap[k]? = some o → w'.heap[k]? = some o

section
variable {W w w' w'' : World} {A : HProp}
theorem Ext.refl (w : World) : Ext w w := ⟨⟨rfl, rfl, rfl⟩, fun _ _ h => h⟩
theorem Ext.trans (h : Ext w w') (k : Ext w' w'') : Ext w w'' :=
  ⟨⟨k.1.1.trans h.1.1, k.1.2.1.trans h.1.2.1, k.1.2.2.trans h.1.2.2⟩, fun i o ho => k.2 i o (h.2 i o ho)⟩
theorem Ext.drew (h : Ext w w') : Ext w w'.drew := h.trans ⟨⟨rfl, rfl, rfl⟩, fun _ _ h => h⟩
theorem drewN_ext (w : World) (n : Nat) : Ext w (w.drewN n) := by
  induction n with
  | zero => exact Ext.refl w
  | succ n ih => exact ih.drew
theorem Ext.drewN (h : Ext w w') {n : Nat} : Ext w (w'.drewN n) := h.trans (drewN_ext w' n)
theorem Ext.alloc (h : Ext w w') {o : Obj} : Ext w (w'.alloc o) := h.trans ⟨⟨rfl, rfl, rfl⟩, heap_alloc_keep w' o⟩
theorem Sat.ext (h : Sat W A w) (k : Ext w w') : Sat W A w' := h.keep k.1 k.2
theorem Ext.cell (h : Ext w w') {a : Addr} {v : Value} (hc : w.cell? a = some v) : w'.cell? a = some v := by
  have hk := World.block_lt_of_cell? w a hc
  have := h.2 _ _ (Array.getElem?_eq_getElem hk)
  rw [World.cell?_of_block (w := w) (w' := w') (by rw [this]; exact (Array.getElem?_eq_getElem hk).symm)]
  exact hc
theorem Ext.free (h : Ext w w') {a : Addr} (hk : a.block < w.heap.size) (hc : w.frozen? a = false) : w'.frozen? a = false := by
  have := h.2 _ _ (Array.getElem?_eq_getElem hk)
  rw [World.frozen?_of_block (w := w) (w' := w') (by rw [this]; exact (Array.getElem?_eq_getElem hk).symm)]
  exact hc
theorem Ext.lt (h : Ext w w') {b : Nat} (hb : b < w.heap.size) : b < w'.heap.size :=
  (Array.getElem?_eq_some_iff.1 (h.2 _ _ (Array.getElem?_eq_getElem hb))).1
theorem Ext.le (h : Ext w w') : w.heap.size ≤ w'.heap.size := by
  rcases Nat.eq_zero_or_pos w.heap.size with h0 | h0
  · omega
  · have := h.lt (b := w.heap.size - 1) (by omega)
    omega
theorem Rd.ext {v : Value} {n size : Nat} {xs : List Value} (h : Rd w v n size xs) (k : Ext w w') : Rd w' v n size xs := h.keep fun _ _ hc => k.cell hc
/-- out of what a part of the heap says -/
theorem Sat.rdF {v : Value} {n : Nat} {e : TypeId} {size : Nat} {xs : List Value} {B : HProp} (h : Sat W (B * (row v n e size xs * A)) w) : Rd w v n size xs := h.rot.rd
end

section
variable {W w w' : World} {A F B : HProp}
theorem Sat.toExt (h : Sat w (own w) w') : Ext w w' := ⟨h.1, fun _ _ hk => h.own_blk hk⟩
theorem Sat.extR (h : Sat w (A * own w) w') : Ext w w' := h.r.toExt
theorem Ext.toSat (h : Ext w w') : Sat w (own w) w' := ⟨h.1, fun k => w.heap[k]?, h.2, fun _ => rfl⟩

/-- What a call that changes nothing leaves, in any frame. -/
theorem Sat.frame (hF : Sat W F w) (h : Sat w (A * own w) w') : Sat W (A * F) w' := by
  obtain ⟨⟨e1, e2, e3⟩, x, hx, hf⟩ := hF
  obtain ⟨⟨g1, g2, g3⟩, y, hy, a, o, hd, hu, ha, ho⟩ := h
  refine ⟨⟨g1.trans e1, g2.trans e2, g3.trans e3⟩, fun k => (a k).or (x k), fun k b (hk : (a k).or (x k) = some b) => ?_, a, x, fun k => ?_, fun _ => rfl, ha, hf⟩
  · cases hak : a k with
    | none =>
      rw [hak] at hk
      have h1 : x k = some b := by simpa using hk
      refine hy k b ?_
      rw [hu k, hak, ho k, hx k b h1]; rfl
    | some c =>
      rw [hak] at hk
      refine hy k b ?_
      rw [hu k, hak]; simpa using hk
  · rcases hd k with h1 | h1
    · exact .inl h1
    · rw [ho k] at h1
      cases hxk : x k with
      | none => exact .inr rfl
      | some c => rw [hx k c hxk] at h1; cases h1
end
end Go.Sp

/-
  Tokens: as values, as cells, lists of them that are read. Conditions: none.
-/
namespace Go.Proofs.Yticljfpippbkkaa
open Go.RowKit Go.Sp

structure Tok where
  cat : Int
  chr : UInt8
  name : ByteArray

instance : DecidableEq Tok := fun a b =>
  decidable_of_iff (a.cat = b.cat ∧ a.chr = b.chr ∧ a.name = b.name) ⟨fun ⟨h1, h2, h3⟩ => by cases a; cases b; simp_all, fun h => by subst h; exact ⟨rfl, rfl, rfl⟩⟩

instance : Inhabited Tok := ⟨⟨0, 0, ByteArray.empty⟩⟩

def Tok.cells (t : Tok) : List Value := [.int .i64 t.cat, .int .u8 t.chr.toNat, .string t.name]
abbrev Tok.val (t : Tok) : Value := .agg #[.int .i64 t.cat, .int .u8 t.chr.toNat, .string t.name]
/-- the block of a token that is boxed -/
abbrev Tok.box (t : Tok) : Obj := .cells #[.int .i64 t.cat, .int .u8 t.chr.toNat, .string t.name] 28

def flat (L : List Tok) : List Value := L.flatMap Tok.cells

theorem flat_length (L : List Tok) : (flat L).length = L.length * 3 := by
  induction L with
  | nil => rfl
  | cons x L ih => simp [flat, Tok.cells] at ih ⊢; omega

theorem flat_append (L M : List Tok) : flat (L ++ M) = flat L ++ flat M := by simp [flat]
theorem flat_cons (t : Tok) (L : List Tok) : flat (t :: L) = t.cells ++ flat L := rfl

theorem flat_get (L : List Tok) : ∀ (i j : Nat) (v : Value), (h : i < L.length) → L[i].cells[j]? = some v → (flat L)[i * 3 + j]? = some v := by
  induction L with
  | nil => intro i j v h; simp at h
  | cons x L ih =>
    intro i j v h hv
    cases i with
    | zero =>
      have hj : j < x.cells.length := (List.getElem?_eq_some_iff.1 hv).1
      rw [flat_cons, List.getElem?_append_left (by simpa using hj)]
      simpa using hv
    | succ i =>
      rw [flat_cons, List.getElem?_append_right (by simp [Tok.cells]; omega)]
      have := ih i j v (by simpa using h) (by simpa using hv)
      rw [← this]
      congr 1
      simp [Tok.cells]; omega

theorem flat_one (L : List Tok) : ∀ u ∈ flat L, u.oneCell' = true := by
  intro u hu
  simp only [flat, List.mem_flatMap, Tok.cells] at hu
  obtain ⟨t, _, h⟩ := hu
  simp only [List.mem_cons, List.not_mem_nil, or_false] at h
  rcases h with rfl | rfl | rfl <;> rfl

theorem flat_take (L : List Tok) (k : Nat) : flat (L.take k) = (flat L).take (k * 3) := by
  induction L generalizing k with
  | nil => simp [flat]
  | cons x L ih =>
    cases k with
    | zero => simp [flat]
    | succ k =>
      rw [List.take_succ_cons, flat_cons, flat_cons, ih, List.take_append]
      have h1 : x.cells.length = 3 := rfl
      rw [List.take_of_length_le (l := x.cells) (by omega), h1]
      congr 2
      omega

theorem flat_drop (L : List Tok) (k : Nat) : flat (L.drop k) = (flat L).drop (k * 3) := by
  induction L generalizing k with
  | nil => simp [flat]
  | cons x L ih =>
    cases k with
    | zero => simp
    | succ k =>
      rw [List.drop_succ_cons, flat_cons, ih, List.drop_append]
      have h1 : x.cells.length = 3 := rfl
      rw [show List.drop ((k + 1) * 3) x.cells = [] from List.drop_eq_nil_of_le (by omega), h1, List.nil_append]
      congr 1
      omega

/-- In w the slice v is the list L. -/
def RdT (w : World) (v : Value) (L : List Tok) : Prop := Rd w v L.length 3 (flat L) ∧ ∃ a cap, v = .slice a L.length cap ∧ L.length ≤ cap

/-- a token in memory -/
structure At (w : World) (b o : Nat) (t : Tok) : Prop where
  c0 : w.cell? ⟨b, o, none⟩ = some (.int .i64 t.cat)
  c1 : w.cell? ⟨b, o + 1, none⟩ = some (.int .u8 t.chr.toNat)
  c2 : w.cell? ⟨b, o + 2, none⟩ = some (.string t.name)

variable {w w' : World} {v : Value} {L : List Tok}

theorem At.ext {b o : Nat} {t : Tok} (h : At w b o t) (k : Ext w w') : At w' b o t := ⟨k.cell h.c0, k.cell h.c1, k.cell h.c2⟩
theorem At.lt {b o : Nat} {t : Tok} (h : At w b o t) : b < w.heap.size := World.block_lt_of_cell? w _ h.c0

theorem RdT.ext (h : RdT w v L) (k : Ext w w') : RdT w' v L := ⟨Rd.ext h.1 k, h.2⟩
theorem RdT.drewN (h : RdT w v L) (q : Nat) : RdT (w.drewN q) v L := ⟨Rd.drewN h.1 q, h.2⟩
theorem RdT.le (h : RdT w v L) : L.length ≤ 9223372036854775807 := h.1.2.1
theorem RdT.val (h : RdT w v L) : ∃ a cap, v = .slice a L.length cap := by
  obtain ⟨_, _, a, cap, h3, _⟩ := h.1
  exact ⟨a, cap, h3⟩
theorem RdT.capd (h : RdT w v L) : ∃ a cap, v = .slice a L.length cap ∧ L.length ≤ cap := h.2
theorem RdT.cap {a : Option Addr} {n cap : Nat} (h : RdT w (.slice a n cap) L) : n = L.length ∧ n ≤ cap := by
  obtain ⟨_, a', cap', e, hc⟩ := h
  simp only [Value.slice.injEq] at e
  obtain ⟨_, rfl, rfl⟩ := e
  exact ⟨rfl, hc⟩
theorem RdT.head (h : RdT w v L) (hn : 0 < L.length) : ∃ b off cap, v = .slice (some ⟨b, off, none⟩) L.length cap ∧ ∀ i, (hi : i < L.length) → At w b (off + i * 3) L[i] := by
  obtain ⟨b, off, cap, h1, h2⟩ := Rd.head h.1 hn (by omega)
  refine ⟨b, off, cap, h1, fun i hi => ⟨?_, ?_, ?_⟩⟩
  · exact h2 (i * 3) _ (by simpa using flat_get L i 0 _ hi rfl)
  · have := h2 (i * 3 + 1) _ (flat_get L i 1 _ hi rfl); simpa [Nat.add_assoc] using this
  · have := h2 (i * 3 + 2) _ (flat_get L i 2 _ hi rfl); simpa [Nat.add_assoc] using this

theorem RdT.at {a : Option Addr} {cap n i : Nat} (h : RdT w (.slice a n cap) L) (hi : i < L.length) : ∃ b off, a = some ⟨b, off, none⟩ ∧ At w b (off + i * 3) L[i] ∧ b < w.heap.size := by
  obtain ⟨b, off, cap', hv, hc⟩ := h.head (by omega)
  simp only [Value.slice.injEq] at hv
  obtain ⟨rfl, _, _⟩ := hv
  exact ⟨b, off, rfl, hc i hi, (hc i hi).lt⟩

theorem RdT.take {a : Option Addr} {cap n m : Nat} (h : RdT w (.slice a n cap) L) (hm : m ≤ L.length) : RdT w (.slice a m cap) (L.take m) := by
  obtain ⟨hn, hc⟩ := h.cap
  obtain ⟨⟨h1, h2, a', cap', h3, h4⟩, -⟩ := h
  simp only [Value.slice.injEq] at h3
  obtain ⟨rfl, rfl, rfl⟩ := h3
  have hlen : (L.take m).length = m := by rw [List.length_take]; omega
  refine ⟨⟨by rw [flat_length, hlen], by rw [hlen]; omega, a, cap, by rw [hlen], fun j u hu => h4 j u ?_⟩, a, cap, by rw [hlen], by omega⟩
  rw [flat_take, List.getElem?_take] at hu
  split at hu
  · exact hu
  · cases hu

/-- 's[m:]': where it is not at the capacity's end -/
theorem RdT.drop {b off cap n m : Nat} (h : RdT w (.slice (some ⟨b, off, none⟩) n cap) L) (hm : m ≤ L.length) : RdT w (.slice (some ⟨b, off + m * 3, none⟩) (L.length - m) (cap - m)) (L.drop m) := by
  obtain ⟨hn, hc⟩ := h.cap
  obtain ⟨⟨h1, h2, a', cap', h3, h4⟩, -⟩ := h
  simp only [Value.slice.injEq] at h3
  obtain ⟨rfl, rfl, rfl⟩ := h3
  have hlen : (L.drop m).length = L.length - m := by rw [List.length_drop]
  refine ⟨⟨by rw [flat_length, hlen], by rw [hlen]; omega, _, _, by rw [hlen], fun j u hu => ?_⟩, _, _, by rw [hlen], by omega⟩
  rw [flat_drop, List.getElem?_drop] at hu
  obtain ⟨b', off', e, hc⟩ := h4 _ u hu
  simp only [Option.some.injEq, Addr.mk.injEq, and_true] at e
  obtain ⟨rfl, rfl⟩ := e
  exact ⟨b, off + m * 3, rfl, by rw [← hc, Nat.add_assoc]⟩

theorem RdT.empty (w : World) (a : Option Addr) (cap : Nat) : RdT w (.slice a 0 cap) [] := ⟨⟨rfl, Nat.zero_le _, a, cap, rfl, fun j u hu => by simp [flat] at hu⟩, a, cap, rfl, Nat.zero_le _⟩

theorem take_eq_succT {xs ys : List Tok} {k : Nat} (h : xs.take k = ys.take k) (hx : k < xs.length) (hy : k < ys.length) (he : xs[k] = ys[k]) : xs.take (k + 1) = ys.take (k + 1) := by
  rw [List.take_succ_eq_append_getElem hx, List.take_succ_eq_append_getElem hy, h, he]


theorem beq_bytes (a b : ByteArray) : (a.toList == b.toList) = decide (a = b) := by
  rw [Bool.eq_iff_iff, decide_eq_true_iff, beq_iff_eq]
  constructor
  · intro h
    have := beq_toListBytes a b
    rw [h] at this
    simp only [beq_self_eq_true] at this
    obtain ⟨x⟩ := a
    obtain ⟨y⟩ := b
    have h2 : (x == y) = true := this
    rw [beq_iff_eq] at h2
    rw [h2]
  · rintro rfl; rfl

theorem run_eq_tok (w : World) (a b : Tok) : (Op.equalIn 10000 28 a.val b.val).run Try.prog w = .ok (decide (a = b)) w := by
  obtain ⟨c, h, n⟩ := a
  obtain ⟨c', h', n'⟩ := b
  have e : decide (Tok.mk c h n = ⟨c', h', n'⟩) = (c == c' && ((h.toNat : Int) == (h'.toNat : Int)) && (n.toList == n'.toList)) := by
    rw [beq_bytes, Bool.eq_iff_iff]
    simp only [Tok.mk.injEq, decide_eq_true_eq, Bool.and_eq_true, beq_iff_eq]
    constructor
    · rintro ⟨rfl, rfl, rfl⟩; simp
    · rintro ⟨⟨rfl, h2⟩, rfl⟩; exact ⟨rfl, UInt8.toNat.inj (by omega), rfl⟩
  rw [e]
  go_simp
  by_cases h1 : c = c' <;> by_cases h2 : (h.toNat : Int) = h'.toNat <;> by_cases h3 : n.toList = n'.toList <;> simp [h1, h2, h3]

theorem run_neq (w : World) (a b : Tok) : (binOp .neq 28 a.val b.val).run Try.prog w = .ok (.bool (!decide (a = b))) w := by
  simp only [binOp, Op.equal, Op.maxDepth, Sem.run_bind, run_eq_tok, Result.andThen_ok, Sem.run_pure]

theorem run_eql (w : World) (a b : Tok) : (binOp .eql 28 a.val b.val).run Try.prog w = .ok (.bool (decide (a = b))) w := by
  simp only [binOp, Op.equal, Op.maxDepth, Sem.run_bind, run_eq_tok, Result.andThen_ok, Sem.run_pure]

end Go.Proofs.Yticljfpippbkkaa

/-
  Maps that the call owns, said as functions from keys to values. Conditions: those of the theorems.
-/
namespace Go.Sp
open Go Go.RowKit Go.MapKept

/-- Values of one type that can be keys, as Lean's. -/
structure KeyT (P : Program) (kt : TypeId) {K : Type} (kE : K → Value) : Prop where
  inj : ∀ a b, kE a = kE b → a = b
  chk : ∀ (em : Bool) (w : World) (k : K), (Instr.checkKey em 10000 kt (kE k)).run P w = .ok () w
  fnd : ∀ (k : K) (w : World) (l : List MapEntry), (∀ e ∈ l, ∃ k', e.key = kE k') →
    ((Instr.findKey kt (kE k) l).run P w = .ok none w ∧ ∀ e ∈ l, e.key ≠ kE k) ∨ ∃ i e, (Instr.findKey kt (kE k) l).run P w = .ok (some (i, e.val)) w ∧ l[i]? = some e ∧ e.key = kE k
  stay : ∀ (k : K) (w : World), (Instr.keyThatStays (kE k) (kE k)).run P w = .ok (kE k) w

/-- the keys that are strings -/
theorem keyT_string {P : Program} {kt : TypeId} (hk : P.underlying kt = some .string) : KeyT P kt Value.string where
  inj := fun a b h => by simpa using h
  chk := fun em w k => run_checkKey hk (by trivial) em 9999
  fnd := fun k w l hl => by
    rcases findNow_spec (d := .string) (k := .string k) (by trivial) l 0 (fun x hx => by obtain ⟨k', e⟩ := hl x hx; rw [e]; trivial) with ⟨h1, h2⟩ | ⟨j, e, h1, h2, h3⟩
    · exact .inl ⟨run_findKey hk h1, h2⟩
    · exact .inr ⟨j, e, by rw [Nat.zero_add] at h1; exact run_findKey hk h1, h2, h3⟩
  stay := fun k w => run_keyThatStays (d := .string) (by trivial)

/-- the keys that are whole numbers -/
theorem keyT_int {P : Program} {kt : TypeId} {q : IntKind} (hk : P.underlying kt = some (.int q)) : KeyT P kt (Value.int q) where
  inj := fun a b h => by simpa using h
  chk := fun em w k => run_checkKey hk (show IsKey (.int q) (.int q k) from rfl) em 9999
  fnd := fun k w l hl => by
    rcases findNow_spec (d := .int q) (k := .int q k) rfl l 0 (fun x hx => by obtain ⟨k', e⟩ := hl x hx; rw [e]; rfl) with ⟨h1, h2⟩ | ⟨j, e, h1, h2, h3⟩
    · exact .inl ⟨run_findKey hk h1, h2⟩
    · exact .inr ⟨j, e, by rw [Nat.zero_add] at h1; exact run_findKey hk h1, h2, h3⟩
  stay := fun k w => run_keyThatStays (d := .int q) rfl

section
variable {K V : Type}
/-- entries that are a function -/
def MapR (kE : K → Value) (vE : V → Value) (arr : Array MapEntry) (f : K → Option V) : Prop :=
  (∀ e ∈ arr.toList, ∃ k v, e.key = kE k ∧ e.val = vE v ∧ f k = some v) ∧ ∀ k v, f k = some v → ∃ e ∈ arr.toList, e.key = kE k ∧ e.val = vE v

/-- A map of at most n entries, that is a function. -/
def mapH (kE : K → Value) (vE : V → Value) (b n : Nat) (f : K → Option V) : HProp := fun h =>
  ∃ (arr : Array MapEntry) (clock : Nat), Stamped arr clock ∧ arr.size ≤ n ∧ MapR kE vE arr f ∧ pts b (.map arr clock) h

open Classical in
noncomputable def mput (f : K → Option V) (k : K) (v : V) : K → Option V := fun j => if j = k then some v else f j
open Classical in
noncomputable def mdel (f : K → Option V) (k : K) : K → Option V := fun j => if j = k then none else f j

theorem mput_same (f : K → Option V) (k : K) (v : V) : mput f k v k = some v := by simp [mput]
theorem mput_other (f : K → Option V) {k j : K} (v : V) (h : j ≠ k) : mput f k v j = f j := by simp [mput, h]
theorem mdel_same (f : K → Option V) (k : K) : mdel f k k = none := by simp [mdel]
theorem mdel_other (f : K → Option V) {k j : K} (h : j ≠ k) : mdel f k j = f j := by simp [mdel, h]

variable {W w w' : World} {A : HProp} {kE : K → Value} {vE : V → Value} {b n : Nat} {f : K → Option V} {P : Program} {kt et mt : TypeId}

theorem Sat.map_open (h : Sat W (mapH kE vE b n f * A) w) : ∃ (arr : Array MapEntry) (clock : Nat), Stamped arr clock ∧ arr.size ≤ n ∧ MapR kE vE arr f ∧ Sat W (pts b (.map arr clock) * A) w := by
  obtain ⟨h1, x, hx, a, r, hd, hu, ⟨arr, clock, h2, h3, h4, h5⟩, hr⟩ := h
  exact ⟨arr, clock, h2, h3, h4, h1, x, hx, a, r, hd, hu, h5, hr⟩
theorem Sat.map_mk {arr : Array MapEntry} {clock : Nat} (h : Sat W (pts b (.map arr clock) * A) w) (h2 : Stamped arr clock) (h3 : arr.size ≤ n) (h4 : MapR kE vE arr f) : Sat W (mapH kE vE b n f * A) w :=
  h.imp_l fun _ hx => ⟨arr, clock, h2, h3, h4, hx⟩
theorem Sat.map_mono (h : Sat W (mapH kE vE b n f * A) w) {m : Nat} (hm : n ≤ m) : Sat W (mapH kE vE b m f * A) w := by
  obtain ⟨arr, clock, h2, h3, h4, h5⟩ := h.map_open
  exact h5.map_mk h2 (Nat.le_trans h3 hm) h4

/-- 'make(map..)' -/
theorem Sat.map_new (h : Sat W A w) : Sat W (mapH kE vE w.heap.size 0 (fun _ => none) * A) (w.alloc (.map #[] 0)) :=
  (h.alloc (.map #[] 0)).map_mk (stamped_empty 0) (Nat.le_refl _) ⟨fun e he => by simp at he, fun k v h => by cases h⟩

theorem MapR.keys {arr : Array MapEntry} (h : MapR kE vE arr f) : ∀ e ∈ arr.toList, ∃ k', e.key = kE k' := fun e he => let ⟨k, _, h1, _⟩ := h.1 e he; ⟨k, h1⟩

theorem MapR.none {arr : Array MapEntry} (h : MapR kE vE arr f) {k : K} (hn : ∀ e ∈ arr.toList, e.key ≠ kE k) : f k = none := by
  cases hf : f k with
  | none => rfl
  | some v =>
    obtain ⟨e, he, h1, _⟩ := h.2 k v hf
    exact absurd h1 (hn e he)
theorem MapR.some (T : KeyT P kt kE) {arr : Array MapEntry} (h : MapR kE vE arr f) {k : K} {e : MapEntry} (he : e ∈ arr.toList) (hk : e.key = kE k) : ∃ v, f k = some v ∧ e.val = vE v := by
  obtain ⟨k', v, h1, h2, h3⟩ := h.1 e he
  have := T.inj k k' (hk.symm.trans h1)
  subst this
  exact ⟨v, h3, h2⟩

/-- 'm[k]' -/
theorem Sat.map_look (T : KeyT P kt kE) (ht : P.underlying mt = some (.map kt et)) {z : Value} (hz : ∀ w, (zeroValue et).run P w = .ok z w) (h : Sat W (mapH kE vE b n f * A) w) (k : K) (c : Bool) :
    (Instr.lookup mt (.map (some b)) (kE k) c).run P w = .ok (if c then .tuple #[((f k).map vE).getD z, .bool (f k).isSome] else ((f k).map vE).getD z) w := by
  obtain ⟨arr, clock, h2, h3, h4, h5⟩ := h.map_open
  have hb := h5.blk
  simp only [Instr.lookup, Sem.run_bind, run_underlying ht, Result.andThen_ok, Go.MapKept.run_getObj_map hb, Sem.run_pure, T.chk]
  rcases T.fnd k w arr.toList h4.keys with ⟨h6, h7⟩ | ⟨i, e, h6, h7, h8⟩
  · have hf := h4.none h7
    simp only [h6, Result.andThen_ok, Sem.run_bind, hz, Sem.run_pure, hf]
    cases c <;> rfl
  · obtain ⟨v, hf, hv⟩ := h4.some T (List.mem_of_getElem? h7) h8
    simp only [h6, Result.andThen_ok, Sem.run_bind, Sem.run_pure, hf, hv]
    cases c <;> rfl

theorem Sat.map_set {arr : Array MapEntry} {clock : Nat} (h : Sat W (pts b (.map arr clock) * A) w) (o : Obj) : Sat W (pts b o * A) { w with heap := w.heap.setIfInBounds b o } :=
  h.upd ⟨rfl, rfl, rfl⟩ (heap_set h.blk).1 fun k x hk hx => by
    show (w.heap.setIfInBounds b o)[k]? = _
    rw [(heap_set (o' := o) h.blk).2 k hk]; exact hx

/-- 'm[k] = v' -/
theorem Sat.map_upd (T : KeyT P kt kE) (ht : P.underlying mt = some (.map kt et)) (h : Sat W (mapH kE vE b n f * A) w) (k : K) (v : V) :
    ∃ w', (Instr.mapUpdate mt (.map (some b)) (kE k) (vE v)).run P w = .ok () w' ∧ Sat W (mapH kE vE b (n + 1) (mput f k v) * A) w' := by
  obtain ⟨arr, clock, h2, h3, h4, h5⟩ := h.map_open
  have hb := h5.blk
  simp only [Instr.mapUpdate, Sem.run_bind, run_underlying ht, Result.andThen_ok, Go.MapKept.run_getObj_map hb, T.chk]
  rcases T.fnd k w arr.toList h4.keys with ⟨h6, h7⟩ | ⟨i, e, h6, h7, h8⟩
  · simp only [h6, Result.andThen_ok, Go.MapKept.run_setObj_map _ hb]
    refine ⟨_, rfl, (h5.map_set _).map_mk (stamped_push h2 h7) (by simp; omega) ⟨fun x hx => ?_, fun j u hj => ?_⟩⟩
    · rw [Array.toList_push, List.mem_append] at hx
      rcases hx with hx | hx
      · obtain ⟨j, u, h9, h10, h11⟩ := h4.1 x hx
        refine ⟨j, u, h9, h10, ?_⟩
        rw [mput_other f v (fun e => h7 x hx (by rw [h9, e]))]
        exact h11
      · obtain rfl := List.mem_singleton.1 hx
        exact ⟨k, v, rfl, rfl, mput_same f k v⟩
    · by_cases hjk : j = k
      · subst hjk
        rw [mput_same] at hj
        cases hj
        exact ⟨_, by rw [Array.toList_push]; exact List.mem_append_right _ (List.mem_singleton.2 rfl), rfl, rfl⟩
      · rw [mput_other f v hjk] at hj
        obtain ⟨x, hx, h9, h10⟩ := h4.2 j u hj
        exact ⟨x, by rw [Array.toList_push]; exact List.mem_append_left _ hx, h9, h10⟩
  · have hi : arr[i]? = some e := by simpa using h7
    have hlt : i < arr.size := (Array.getElem?_eq_some_iff.1 hi).1
    simp only [h6, Result.andThen_ok, hi, Option.map_some, Option.getD_some, h8, T.stay, Sem.run_bind, Go.MapKept.run_setObj_map _ hb]
    refine ⟨_, rfl, (h5.map_set _).map_mk (stamped_modify h2 i _ (fun _ _ => rfl) (fun x hx hxi => by rw [hi] at hxi; cases hxi; exact h8.symm)) (by simp; omega) ⟨fun x hx => ?_, fun j u hj => ?_⟩⟩
    · obtain ⟨m, hm⟩ := List.mem_iff_getElem?.1 hx
      rw [Array.getElem?_toList, Array.getElem?_modify] at hm
      by_cases him : i = m
      · subst him
        simp [hi] at hm
        subst hm
        exact ⟨k, v, rfl, rfl, mput_same f k v⟩
      · simp [him] at hm
        have hx2 : x ∈ arr.toList := List.mem_of_getElem? (by rw [Array.getElem?_toList]; exact hm)
        obtain ⟨j, u, h9, h10, h11⟩ := h4.1 x hx2
        refine ⟨j, u, h9, h10, ?_⟩
        rw [mput_other f v ?_]
        · exact h11
        · rintro rfl
          have hp := (stamped_iff _ _).1 h2
          have := List.pairwise_iff_getElem.1 hp.2.2
          have hml : m < arr.size := (Array.getElem?_eq_some_iff.1 hm).1
          have hem : arr[m] = x := (Array.getElem?_eq_some_iff.1 hm).2
          have hei : arr[i] = e := (Array.getElem?_eq_some_iff.1 hi).2
          rcases Nat.lt_or_gt_of_ne him with hl | hl
          · exact this i m (by simpa using hlt) (by simpa using hml) hl (by simp [hem, hei, h8, h9])
          · exact this m i (by simpa using hml) (by simpa using hlt) hl (by simp [hem, hei, h8, h9])
    · by_cases hjk : j = k
      · subst hjk
        rw [mput_same] at hj
        cases hj
        refine ⟨{ e with key := kE j, val := vE v }, List.mem_of_getElem? (i := i) ?_, rfl, rfl⟩
        rw [Array.getElem?_toList, Array.getElem?_modify]
        simp [hi]
      · rw [mput_other f v hjk] at hj
        obtain ⟨x, hx, h9, h10⟩ := h4.2 j u hj
        obtain ⟨m, hm⟩ := List.mem_iff_getElem?.1 hx
        refine ⟨x, List.mem_of_getElem? (i := m) ?_, h9, h10⟩
        rw [Array.getElem?_toList] at hm
        rw [Array.getElem?_toList, Array.getElem?_modify]
        have : i ≠ m := by
          rintro rfl
          rw [hi] at hm
          cases hm
          exact hjk (T.inj _ _ (h9.symm.trans h8))
        simp [this, hm]

/-- 'delete(m, k)' -/
theorem Sat.map_del (T : KeyT P kt kE) (ht : P.underlying mt = some (.map kt et)) (h : Sat W (mapH kE vE b n f * A) w) (k : K) (ty : TypeId) :
    ∃ w', (Builtin.delete_ #[mt, kt] ty #[.map (some b), kE k]).run P w = .ok (.tuple #[]) w' ∧ Sat W (mapH kE vE b n (mdel f k) * A) w' := by
  obtain ⟨arr, clock, h2, h3, h4, h5⟩ := h.map_open
  have hb := h5.blk
  have e1 : (#[mt, kt] : Array TypeId)[0]? = some mt := rfl
  have e2 : (#[Value.map (some b), kE k] : Array Value)[0]? = some (.map (some b)) := rfl
  have e3 : (#[Value.map (some b), kE k] : Array Value)[1]? = some (kE k) := rfl
  simp only [Builtin.delete_, e1, e2, e3, Sem.run_bind, run_underlying ht, Result.andThen_ok, Go.MapKept.run_getObj_map hb, T.chk]
  rcases T.fnd k w arr.toList h4.keys with ⟨h6, h7⟩ | ⟨i, e, h6, h7, h8⟩
  · simp only [h6, Result.andThen_ok, Sem.run_bind, Go.MapKept.run_setObj_map _ hb, Sem.run_pure]
    refine ⟨_, rfl, (h5.map_set _).map_mk h2 h3 ⟨fun x hx => ?_, fun j u hj => ?_⟩⟩
    · obtain ⟨j, u, h9, h10, h11⟩ := h4.1 x hx
      exact ⟨j, u, h9, h10, by rw [mdel_other f (fun e => h7 x hx (by rw [h9, e]))]; exact h11⟩
    · by_cases hjk : j = k
      · subst hjk; rw [mdel_same] at hj; cases hj
      · rw [mdel_other f hjk] at hj; exact h4.2 j u hj
  · have hi : arr[i]? = some e := by simpa using h7
    have hlt : i < arr.size := (Array.getElem?_eq_some_iff.1 hi).1
    simp only [h6, Result.andThen_ok, Sem.run_bind, Go.MapKept.run_setObj_map _ hb, Sem.run_pure]
    have hel : (arr.eraseIdxIfInBounds i).toList = arr.toList.eraseIdx i := by
      unfold Array.eraseIdxIfInBounds; rw [dif_pos hlt, Array.toList_eraseIdx]
    refine ⟨_, rfl, (h5.map_set _).map_mk (stamped_erase h2 i) ?_ ⟨fun x hx => ?_, fun j u hj => ?_⟩⟩
    · have h9 : (arr.eraseIdxIfInBounds i).toList.length ≤ arr.toList.length := by rw [hel]; exact (List.eraseIdx_sublist _ _).length_le
      simp only [Array.length_toList] at h9
      omega
    · rw [hel] at hx
      obtain ⟨m, hm⟩ := List.mem_iff_getElem?.1 hx
      rw [List.getElem?_eraseIdx] at hm
      obtain ⟨q, hq, hqi⟩ : ∃ q, arr.toList[q]? = some x ∧ q ≠ i := by
        split at hm
        · exact ⟨m, hm, by omega⟩
        · exact ⟨m + 1, hm, by omega⟩
      obtain ⟨j, u, h9, h10, h11⟩ := h4.1 x (List.mem_of_getElem? hq)
      refine ⟨j, u, h9, h10, ?_⟩
      rw [mdel_other f ?_]
      · exact h11
      · rintro rfl
        have hp := ((stamped_iff _ _).1 h2).2.2
        have := List.pairwise_iff_getElem.1 hp
        have hq1 := (List.getElem?_eq_some_iff.1 hq)
        obtain ⟨hql, hqe⟩ := hq1
        have h71 := (List.getElem?_eq_some_iff.1 h7)
        obtain ⟨h7l, h7e⟩ := h71
        rcases Nat.lt_or_gt_of_ne hqi with hl | hl
        · exact this q i hql h7l hl (by rw [hqe, h7e, h8, h9])
        · exact this i q h7l hql hl (by rw [hqe, h7e, h8, h9])
    · by_cases hjk : j = k
      · subst hjk; rw [mdel_same] at hj; cases hj
      · rw [mdel_other f hjk] at hj
        obtain ⟨x, hx, h9, h10⟩ := h4.2 j u hj
        refine ⟨x, ?_, h9, h10⟩
        rw [hel]
        obtain ⟨m, hm⟩ := List.mem_iff_getElem?.1 hx
        have hmi : m ≠ i := by
          rintro rfl
          rw [h7] at hm
          cases hm
          exact hjk (T.inj _ _ (h9.symm.trans h8))
        refine List.mem_iff_getElem?.2 ?_
        rcases Nat.lt_or_gt_of_ne hmi with hl | hl
        · exact ⟨m, by rw [List.getElem?_eraseIdx, if_pos hl]; exact hm⟩
        · exact ⟨m - 1, by rw [List.getElem?_eraseIdx, if_neg (by omega), Nat.sub_add_cancel (by omega)]; exact hm⟩

/-- 'len(m)' -/
theorem Sat.map_len (ht : P.underlying mt = some (.map kt et)) (h : Sat W (mapH kE vE b n f * A) w) (ty : TypeId) :
    ∃ m : Nat, m ≤ n ∧ (Builtin.len_ #[mt] ty #[.map (some b)]).run P w = .ok (.int .i64 m) w := by
  obtain ⟨arr, clock, h2, h3, h4, h5⟩ := h.map_open
  refine ⟨arr.size, h3, ?_⟩
  simp [Builtin.len_, run_underlying ht, Go.MapKept.run_getObj_map h5.blk, Result.andThen, goInt]

/-! ### ranging over a map that stays as it is meanwhile -/
/-- The map, and an iterator over it: 'left' is still to come, c entries; cur: the entry that came last. -/
def iterH (kE : K → Value) (vE : V → Value) (b r n : Nat) (f left : K → Option V) (c : Nat) (cur : Option (K × V)) : HProp :=
  ex fun arr : Array MapEntry => ex fun clock : Nat => ex fun seen : Array Nat => ex fun c0 : Nat =>
    fact (Stamped arr clock ∧ arr.size ≤ n ∧ MapR kE vE arr f ∧ clock ≤ c0 ∧ MapR kE vE (leftOf arr seen) left ∧ (leftOf arr seen).size = c ∧
      ∀ kv, cur = some kv → ∃ (e : MapEntry) (s0 : Array Nat), e ∈ arr.toList ∧ seen = s0.push e.born ∧ e.key = kE kv.1 ∧ e.val = vE kv.2)
    (pts b (.map arr clock) * pts r (.mapIter (some b) clock seen c0))

theorem Sat.iter_open {r c : Nat} {left : K → Option V} {cur : Option (K × V)} (h : Sat W (iterH kE vE b r n f left c cur * A) w) :
    ∃ (arr : Array MapEntry) (clock : Nat) (seen : Array Nat) (c0 : Nat), (Stamped arr clock ∧ arr.size ≤ n ∧ MapR kE vE arr f ∧ clock ≤ c0 ∧ MapR kE vE (leftOf arr seen) left ∧ (leftOf arr seen).size = c ∧
      ∀ kv, cur = some kv → ∃ (e : MapEntry) (s0 : Array Nat), e ∈ arr.toList ∧ seen = s0.push e.born ∧ e.key = kE kv.1 ∧ e.val = vE kv.2) ∧ Sat W (pts b (.map arr clock) * (pts r (.mapIter (some b) clock seen c0) * A)) w := by
  obtain ⟨arr, h1⟩ := h.ex_l
  obtain ⟨clock, h2⟩ := h1.ex_l
  obtain ⟨seen, h3⟩ := h2.ex_l
  obtain ⟨c0, h4⟩ := h3.ex_l
  obtain ⟨h5, h6⟩ := h4.fact_l
  exact ⟨arr, clock, seen, c0, h5, h6.asc⟩

theorem Sat.iter_mk {r c : Nat} {left : K → Option V} {cur : Option (K × V)} {arr : Array MapEntry} {clock : Nat} {seen : Array Nat} {c0 : Nat} (h5 : Stamped arr clock ∧ arr.size ≤ n ∧ MapR kE vE arr f ∧ clock ≤ c0 ∧ MapR kE vE (leftOf arr seen) left ∧ (leftOf arr seen).size = c ∧
      ∀ kv, cur = some kv → ∃ (e : MapEntry) (s0 : Array Nat), e ∈ arr.toList ∧ seen = s0.push e.born ∧ e.key = kE kv.1 ∧ e.val = vE kv.2) (h : Sat W (pts b (.map arr clock) * (pts r (.mapIter (some b) clock seen c0) * A)) w) :
    Sat W (iterH kE vE b r n f left c cur * A) w :=
  Sat.ex_l_intro arr (Sat.ex_l_intro clock (Sat.ex_l_intro seen (Sat.ex_l_intro c0 (Sat.fact_l_intro h5 h.asc'))))

theorem leftOf_empty (arr : Array MapEntry) : leftOf arr #[] = arr := by
  unfold leftOf
  rw [Array.filter_eq_self]
  intro x _
  simp

/-- 'range m' -/
theorem Sat.map_range (ht : P.underlying mt = some (.map kt et)) (h : Sat W (mapH kE vE b n f * A) w) :
    ∃ (o : Obj) (c : Nat), (Instr.range mt (.map (some b))).run P w = .ok (.pointer (some ⟨w.heap.size, 0, none⟩)) (w.alloc o) ∧ Sat W (iterH kE vE b w.heap.size n f f c none * A) (w.alloc o) := by
  obtain ⟨arr, clock, h2, h3, h4, h5⟩ := h.map_open
  refine ⟨_, arr.size, run_range_map w mt kt et b arr clock ht h5.blk, ?_⟩
  refine Sat.iter_mk (seen := #[]) (c0 := clock) ⟨h2, h3, h4, Nat.le_refl _, ?_, ?_, fun kv h => by cases h⟩ ((h5.alloc _).rot)
  · rw [leftOf_empty]; exact h4
  · rw [leftOf_empty]

/-- after the loop: the map -/
theorem Sat.iter_map {r c : Nat} {left : K → Option V} {cur : Option (K × V)} (h : Sat W (iterH kE vE b r n f left c cur * A) w) : Sat W (mapH kE vE b n f * A) w := by
  obtain ⟨arr, clock, seen, c0, ⟨h2, h3, h4, _⟩, h5⟩ := h.iter_open
  exact (h5.rot.r).map_mk h2 h3 h4

theorem same_key {arr : Array MapEntry} {clock : Nat} (h : Stamped arr clock) {x y : MapEntry} (hx : x ∈ arr.toList) (hy : y ∈ arr.toList) (hk : x.key = y.key) : x = y := by
  have hp := ((stamped_iff _ _).1 h).2.2
  obtain ⟨i, hi, rfl⟩ := List.mem_iff_getElem.1 hx
  obtain ⟨j, hj, rfl⟩ := List.mem_iff_getElem.1 hy
  rcases Nat.lt_trichotomy i j with hl | rfl | hl
  · exact absurd hk (List.pairwise_iff_getElem.1 hp i j hi hj hl)
  · rfl
  · exact absurd hk.symm (List.pairwise_iff_getElem.1 hp j i hj hi hl)
theorem same_born {arr : Array MapEntry} {clock : Nat} (h : Stamped arr clock) {x y : MapEntry} (hx : x ∈ arr.toList) (hy : y ∈ arr.toList) (hk : x.born = y.born) : x = y := by
  have hp := ((stamped_iff _ _).1 h).2.1
  rw [List.Nodup, List.pairwise_map] at hp
  obtain ⟨i, hi, rfl⟩ := List.mem_iff_getElem.1 hx
  obtain ⟨j, hj, rfl⟩ := List.mem_iff_getElem.1 hy
  rcases Nat.lt_trichotomy i j with hl | rfl | hl
  · exact absurd hk (List.pairwise_iff_getElem.1 hp i j hi hj hl)
  · rfl
  · exact absurd hk.symm (List.pairwise_iff_getElem.1 hp j i hj hi hl)
theorem leftOf_sub {arr : Array MapEntry} {seen : Array Nat} {e : MapEntry} (h : e ∈ (leftOf arr seen).toList) : e ∈ arr.toList := by
  unfold leftOf at h
  simp at h
  simpa using h.1

/-- 'next' -/
theorem Sat.iter_next {r c : Nat} {left : K → Option V} {cur : Option (K × V)} (inj : ∀ a b, kE a = kE b → a = b) (vinj : ∀ a b, vE a = vE b → a = b) (ty : TypeId) (h : Sat W (iterH kE vE b r n f left c cur * A) w) :
    ((∀ k, left k = none) ∧ (Instr.next (.pointer (some ⟨r, 0, none⟩)) false ty).run P w = .ok (.tuple #[.bool false]) w) ∨
    ∃ (k : K) (v : V) (w' : World) (c' : Nat), c' < c ∧ left k = some v ∧ f k = some v ∧ (Instr.next (.pointer (some ⟨r, 0, none⟩)) false ty).run P w = .ok (.tuple #[.bool true, kE k, vE v]) w' ∧
      (Instr.entry (.pointer (some ⟨r, 0, none⟩))).run P w' = .ok (.tuple #[kE k, vE v]) w' ∧ Sat W (iterH kE vE b r n f (mdel left k) c' (some (k, v)) * A) w' := by
  obtain ⟨arr, clock, seen, c0, ⟨h2, h3, h4, h6, h7, h8, h9⟩, h5⟩ := h.iter_open
  have hst := (stamped_iff _ _).1 h2
  rcases run_next_at (P := P) w ty r b clock c0 seen arr clock h5.rot.blk h5.blk hst.1 h6 with ⟨h10, h11⟩ | ⟨e, he, w1, hw1, hrun⟩
  · refine .inl ⟨fun k => ?_, h11⟩
    cases hk : left k with
    | none => rfl
    | some v =>
      obtain ⟨x, hx, _⟩ := h7.2 k v hk
      rw [Array.eq_empty_of_size_eq_zero h10] at hx
      simp at hx
  · have hea : e ∈ arr.toList := by
      unfold leftOf at he
      simp at he
      simpa using he.1
    obtain ⟨k, v, h12, h13, h14⟩ := h7.1 e he
    obtain ⟨k2, v2, h15, h16, h17⟩ := h4.1 e hea
    obtain rfl : k = k2 := inj _ _ (h12.symm.trans h15)
    have hw1s : Sat W (pts b (.map arr clock) * (pts r (.mapIter (some b) clock seen c0) * A)) w1 := by
      rcases hw1 with rfl | rfl
      · exact h5
      · exact h5.drew
    have hr1 := hw1s.rot.blk
    have hset : Sat W (pts r (.mapIter (some b) clock (seen.push e.born) clock) * (pts b (.map arr clock) * A)) (Go.ChangeMaps.setBlock w1 r (.mapIter (some b) clock (seen.push e.born) clock)) :=
      hw1s.rot.upd ⟨rfl, rfl, rfl⟩ (heap_set hr1).1 fun q x hq hx => by
        show (w1.heap.setIfInBounds r _)[q]? = _
        rw [(heap_set (o' := .mapIter (some b) clock (seen.push e.born) clock) hr1).2 q hq]; exact hx
    have hleft : leftOf arr (seen.push e.born) = (leftOf arr seen).filter fun x => x.born != e.born := by
      unfold leftOf
      rw [Array.filter_filter]
      congr 1
      funext x
      rw [Array.contains_push]
      cases h1 : (x.born == e.born) <;> cases h2 : seen.contains x.born <;> simp_all
    have hcont : e ∈ (leftOf arr seen).toList := he
    refine .inr ⟨k, v, _, (leftOf arr (seen.push e.born)).size, ?_, h14, ?_, ?_, ?_, Sat.iter_mk ⟨h2, h3, h4, Nat.le_refl _, ?_, rfl, fun kv hkv => ?_⟩ hset.rot⟩
    · rw [← h8, hleft]
      have hl : ((leftOf arr seen).filter fun x => x.born != e.born).toList.length < (leftOf arr seen).toList.length := by
        rw [Array.toList_filter]
        exact List.length_filter_lt_length_iff_exists.2 ⟨e, hcont, by simp⟩
      simpa only [Array.length_toList] using hl
    · rw [h17, vinj _ _ (h13.symm.trans h16)]
    · rw [hrun, h12, h13]
    · have := run_entry_at (P := P) (Go.ChangeMaps.setBlock w1 r (.mapIter (some b) clock (seen.push e.born) clock)) r b clock seen arr clock e hset.blk hset.rot.blk hea hst.2.1
      rw [this, h12, h13]
    · rw [hleft]
      refine ⟨fun x hx => ?_, fun j u hj => ?_⟩
      · simp only [Array.toList_filter, List.mem_filter, bne_iff_ne, ne_eq] at hx
        obtain ⟨j, u, h18, h19, h20⟩ := h7.1 x hx.1
        refine ⟨j, u, h18, h19, ?_⟩
        rw [mdel_other left ?_]
        · exact h20
        · rintro rfl
          exact hx.2 (by rw [same_key h2 (leftOf_sub hx.1) hea (h18.trans h12.symm)])
      · by_cases hjk : j = k
        · subst hjk; rw [mdel_same] at hj; cases hj
        · rw [mdel_other left hjk] at hj
          obtain ⟨x, hx, h18, h19⟩ := h7.2 j u hj
          refine ⟨x, ?_, h18, h19⟩
          simp only [Array.toList_filter, List.mem_filter, bne_iff_ne, ne_eq]
          refine ⟨hx, fun hb => hjk ?_⟩
          have := same_born h2 (leftOf_sub hx) hea hb
          subst this
          exact inj _ _ (h18.symm.trans h12)
    · cases hkv
      exact ⟨e, seen, hea, rfl, h12, h13⟩
end
end Go.Sp

/-
  Keys that are pairs of numbers; names' and registers' maps. Conditions: none.
-/
namespace Go.Proofs.Yticljfpippbkkaa
open Go.RowKit Go.Sp

def kE2 (p : Int × Int) : Value := .agg #[.int .i64 p.1, .int .i64 p.2]

theorem part2 (a b : Value) (w : World) : (part 3 #[a, b] 0).run Try.prog w = .ok a w ∧ (part 3 #[a, b] 1).run Try.prog w = .ok b w :=
  ⟨run_part_plain (P := Try.prog) w (e := 3) (by kernel_rfl) rfl, run_part_plain (P := Try.prog) w (e := 3) (by kernel_rfl) rfl⟩

theorem cellsOf_int : Try.prog.cellsOf 3 = 1 := by kernel_rfl
theorem infoInt : ∃ i, Try.prog.info? 3 = some i := by
  cases h : Try.prog.info? 3 with
  | none => exact absurd (show (Try.prog.info? 3).isSome = true by kernel_rfl) (by simp [h])
  | some i => exact ⟨i, rfl⟩

theorem run_eq2 (p q : Int × Int) (w : World) : (Op.equal 170 (kE2 p) (kE2 q)).run Try.prog w = .ok (decide (p = q)) w := by
  obtain ⟨a, b⟩ := p
  obtain ⟨c, d⟩ := q
  obtain ⟨i, hi⟩ := infoInt
  show (Op.equalIn (9999 + 1) 170 (.agg #[.int .i64 a, .int .i64 b]) (.agg #[.int .i64 c, .int .i64 d])).run Try.prog w = _
  rw [run_equalIn_array (P := Try.prog) w 9999 _ _ Try.underlying170 hi, cellsOf_int]
  have e1 := run_equalIn_int (P := Try.prog) w 9998 3 .i64 .i64 a c Try.underlying3
  have e2 := run_equalIn_int (P := Try.prog) w 9998 3 .i64 .i64 b d Try.underlying3
  have p1 := part2 (.int .i64 a) (.int .i64 b) w
  have p2 := part2 (.int .i64 c) (.int .i64 d) w
  simp only [List.range, List.range.loop, Op.eqItems, Sem.run_bind, Nat.zero_mul, Nat.one_mul, p1.1, p2.1, e1, Result.andThen_ok]
  by_cases h1 : a = c
  · subst h1
    simp only [beq_self_eq_true, Bool.not_true, Bool.false_eq_true, if_false, Sem.run_bind, p1.2, p2.2, e2, Result.andThen_ok]
    by_cases h2 : b = d <;> simp [h2]
  · simp [h1]

theorem find2 (p : Int × Int) (w : World) : ∀ (l : List MapEntry) (i : Nat), (∀ e ∈ l, ∃ k', e.key = kE2 k') →
    ((Instr.findAsking 170 (kE2 p) l i).run Try.prog w = .ok none w ∧ ∀ e ∈ l, e.key ≠ kE2 p) ∨ ∃ j e, (Instr.findAsking 170 (kE2 p) l i).run Try.prog w = .ok (some (i + j, e.val)) w ∧ l[j]? = some e ∧ e.key = kE2 p := by
  intro l
  induction l with
  | nil => intro i _; exact .inl ⟨rfl, by simp⟩
  | cons e l ih =>
    intro i h
    obtain ⟨q, hq⟩ := h e (.head _)
    rw [Instr.findAsking]
    simp only [Sem.run_bind, hq, run_eq2, Result.andThen_ok]
    by_cases hpq : p = q
    · subst hpq
      refine .inr ⟨0, e, ?_, rfl, hq⟩
      simp
    · simp only [hpq, decide_false, Bool.false_eq_true, if_false]
      rcases ih (i + 1) (fun x hx => h x (.tail _ hx)) with ⟨h1, h2⟩ | ⟨j, x, h1, h2, h3⟩
      · refine .inl ⟨h1, fun x hx => ?_⟩
        cases hx with
        | head => rw [hq]; intro he; apply hpq; unfold kE2 at he; simp at he; exact (Prod.ext he.1 he.2).symm
        | tail _ hx => exact h2 x hx
      · exact .inr ⟨j + 1, x, by rw [h1]; congr 3; omega, by simpa using h2, h3⟩

theorem chk2 (em : Bool) (w : World) (a b : Int) : (Instr.checkKey em 10000 170 (.agg #[.int .i64 a, .int .i64 b])).run Try.prog w = .ok () w := by
  obtain ⟨i, hi⟩ := infoInt
  have p1 := part2 (.int .i64 a) (.int .i64 b) w
  have k1 : ∀ x : Int, (Instr.checkKey em 9999 3 (.int .i64 x)).run Try.prog w = .ok () w := fun x => Go.MapKept.run_checkKey Try.underlying3 (show Go.MapKept.IsKey (.int .i64) (.int .i64 x) from rfl) em 9998
  rw [Instr.checkKey]
  simp only [Sem.run_bind, run_underlying (P := Try.prog) Try.underlying170, Result.andThen_ok]
  simp only [Std.Legacy.Range.forIn_eq_forIn_range', Std.Legacy.Range.size, Nat.sub_zero, Nat.add_one_sub_one, Nat.div_one, List.range', List.forIn_cons, List.forIn_nil, Sem.run_bind, run_sizeOf (P := Try.prog) w hi, cellsOf_int, Result.andThen_ok, Nat.zero_mul, Nat.zero_add, Nat.one_mul, p1.1, p1.2, k1, Sem.run_pure]

theorem key2 : KeyT Try.prog 170 kE2 where
  inj := fun a b h => by unfold kE2 at h; simp at h; exact Prod.ext h.1 h.2
  chk := fun em w k => chk2 em w k.1 k.2
  fnd := fun k w l hl => by
    rw [run_findKey_eq (P := Try.prog) (w := w) (k := 170) (by kernel_rfl)]
    rcases find2 k w l 0 hl with h | ⟨j, e, h1, h2, h3⟩
    · exact .inl h
    · exact .inr ⟨j, e, by rw [Nat.zero_add] at h1; exact h1, h2, h3⟩
  stay := fun k w => by unfold kE2; simp [Instr.keyThatStays, Instr.sameBits]

end Go.Proofs.Yticljfpippbkkaa

/-
  Bytes that a call made: '[]byte(s)', and what is appended to it. Conditions: those that each theorem names.
-/
namespace Go.Sp
open Go Go.RowKit
variable {W w w' : World} {A : HProp} {v : Value} {xs : List UInt8}

def bytesV (xs : List UInt8) : List Value := xs.map fun c => .int .u8 c.toNat
theorem bytesV_len (xs : List UInt8) : (bytesV xs).length = xs.length := by simp [bytesV]
theorem bytesV_get (xs : List UInt8) (j : Nat) (h : j < xs.length) : (bytesV xs)[j]? = some (.int .u8 xs[j].toNat) := by simp [bytesV, List.getElem?_map, List.getElem?_eq_getElem h]

/-- bytes at the head of a block; none of its cells is frozen (a mark may stand behind its end) -/
def rowM (v : Value) (xs : List UInt8) : HProp := fun h =>
  (v = .slice none 0 0 ∧ xs = [] ∧ emp h) ∨
  ∃ g cap cur f, v = .slice (some ⟨g, 0, none⟩) xs.length cap ∧ xs.length ≤ cap ∧ cap ≤ maxLen ∧ Array.size cur = cap ∧ cur.toList.take xs.length = bytesV xs ∧ (f = (0, 0) ∨ cur.size ≤ f.1) ∧ pts g (.cells cur 5 f) h

theorem Sat.rowM_nil (h : Sat W A w) : Sat W (rowM (.slice none 0 0) [] * A) w := by
  have h' : Sat W (emp * A) w := h.of_eq emp_star.symm
  exact h'.imp_l fun x hx => .inl ⟨rfl, rfl, hx⟩

theorem Sat.rowM_cases (h : Sat W (rowM v xs * A) w) : (v = .slice none 0 0 ∧ xs = [] ∧ Sat W A w) ∨
    ∃ g cap cur f, v = .slice (some ⟨g, 0, none⟩) xs.length cap ∧ xs.length ≤ cap ∧ cap ≤ maxLen ∧ Array.size cur = cap ∧ cur.toList.take xs.length = bytesV xs ∧ (f = (0, 0) ∨ cur.size ≤ f.1) ∧ Sat W (pts g (.cells cur 5 f) * A) w := by
  obtain ⟨h1, x, hx, a, b, hd, hu, ha, hb⟩ := h
  rcases ha with ⟨rfl, rfl, he⟩ | ⟨g, cap, cur, f, e1, e2, e3, e4, e5, e6, e7⟩
  · refine .inl ⟨rfl, rfl, h1, b, fun k o ho => hx k o ?_, hb⟩
    rw [hu k, he k]; simpa using ho
  · exact .inr ⟨g, cap, cur, f, e1, e2, e3, e4, e5, e6, h1, x, hx, a, b, hd, hu, e7, hb⟩

theorem Sat.rowM_mk {g cap : Nat} {cur : Array Value} {f : Nat × Nat} (h : Sat W (pts g (.cells cur 5 f) * A) w) (h2 : xs.length ≤ cap) (h3 : cap ≤ maxLen) (h4 : cur.size = cap) (h5 : cur.toList.take xs.length = bytesV xs) (h6 : f = (0, 0) ∨ cur.size ≤ f.1) :
    Sat W (rowM (.slice (some ⟨g, 0, none⟩) xs.length cap) xs * A) w :=
  h.imp_l fun _ hx => .inr ⟨g, cap, cur, f, rfl, h2, h3, h4, h5, h6, hx⟩

theorem frozen_off {b i : Nat} {cs : Array Value} {e : TypeId} {f : Nat × Nat} (h : Sat W (pts b (.cells cs e f) * A) w) (hi : i < cs.size) (hf : f = (0, 0) ∨ cs.size ≤ f.1) : w.frozen? ⟨b, i, none⟩ = false := by
  obtain ⟨lo, hi2⟩ := f
  simp only [World.frozen?, h.blk]
  rcases hf with hf | hf
  · cases hf; simp
  · simp only at hf
    have : ¬ lo ≤ i := by omega
    simp [this]

/-- the value; its cells -/
theorem Sat.rowM_val (h : Sat W (rowM v xs * A) w) : ∃ a cap, v = .slice a xs.length cap ∧ xs.length ≤ cap ∧ cap ≤ maxLen ∧ ∀ j, (hj : j < xs.length) → ∃ g, a = some ⟨g, 0, none⟩ ∧ w.cell? ⟨g, j, none⟩ = some (.int .u8 xs[j].toNat) ∧ w.frozen? ⟨g, j, none⟩ = false ∧ g < w.heap.size := by
  rcases h.rowM_cases with ⟨rfl, rfl, _⟩ | ⟨g, cap, cur, f, rfl, h2, h3, h4, h5, h6, h7⟩
  · exact ⟨none, 0, rfl, Nat.le_refl _, Nat.zero_le _, by simp⟩
  · refine ⟨_, cap, rfl, h2, h3, fun j hj => ⟨g, rfl, ?_, frozen_off h7 (by omega) h6, h7.lt⟩⟩
    have h8 := bytesV_get xs j hj
    rw [← h5, List.getElem?_take, if_pos hj] at h8
    exact h7.cell (by simpa using h8)

theorem Sat.rowM_set {g n cap j : Nat} {c : UInt8} (h : Sat W (rowM (.slice (some ⟨g, 0, none⟩) n cap) xs * A) w) :
    Sat W (rowM (.slice (some ⟨g, 0, none⟩) n cap) (xs.set j c) * A) (w.setCell ⟨g, j, none⟩ (.int .u8 c.toNat)) := by
  rcases h.rowM_cases with ⟨h0, _⟩ | ⟨g', cap', cur, f, h1, h2, h3, h4, h5, h6, h7⟩
  · simp at h0
  · simp only [Value.slice.injEq, Option.some.injEq, Addr.mk.injEq, and_true] at h1
    obtain ⟨rfl, rfl, rfl⟩ := h1
    have := (h7.set (i := j) (v := .int .u8 c.toNat)).rowM_mk (xs := xs.set j c) (cap := cap) (by simpa using h2) h3 (by simpa using h4) (by
      rw [Array.toList_setIfInBounds, List.length_set, List.take_set, h5]
      simp [bytesV, List.map_set]) (by simpa using h6)
    simpa using this

/-- '[]byte(s)' -/
theorem Sat.rowM_new {l : List UInt8} {cap : Nat} (h : Sat W A w) (hc : l.length ≤ cap) (hm : cap ≤ maxLen) :
    Sat W (rowM (.slice (some ⟨w.heap.size, 0, none⟩) l.length cap) l * A) (w.drew.alloc (.cells (bytesRow ⟨l.toArray⟩ cap) 5 ((bytesRow ⟨l.toArray⟩ cap).size, (bytesRow ⟨l.toArray⟩ cap).size + 1))) := by
  have hs : (bytesRow ⟨l.toArray⟩ cap).size = cap := by simp [bytesRow, ByteArray.size]; omega
  refine Sat.rowM_mk (h.drew.alloc _) hc hm hs ?_ (.inr (Nat.le_refl _))
  simp only [bytesRow, Array.toList_append, List.map_toArray, Array.toList_replicate]
  rw [List.take_append_of_le_length (by simp), List.take_of_length_le (by simp)]
  rfl

theorem Sat.rowM_append {P : Program} (t ty : TypeId) (i : TypeInfo) (ht : P.underlying t = some (.slice 5)) (hi : P.info? 5 = some i) (hz : i.zero = some (.int .u8 0)) (hsize : i.size = 1) (hby : i.bytes = 1)
    (h : Sat W (rowM v xs * A) w) (a : Addr) (c0 : Nat) (c : UInt8) (hnew : w.cell? a = some (.int .u8 c.toNat)) (h63 : xs.length ≤ 4000000000) :
    ∃ v' w', (Builtin.append_ #[t, t] ty #[v, .slice (some a) 1 c0]).run P w = .ok v' w' ∧ Sat W (rowM v' (xs ++ [c]) * A) w' := by
  have hnews : ∀ j u, ([.int .u8 c.toNat] : List Value)[j]? = some u → w.cell? (a.add j) = some u := by
    intro j u hu
    cases j with
    | zero => simp at hu; subst hu; have : a.add 0 = a := by simp [Addr.add]
              rw [this]; exact hnew
    | succ j => simp at hu
  have h1 : ∀ u ∈ ([.int .u8 c.toNat] : List Value), u.oneCell' = true := by simp [Value.oneCell']
  have hl : ([.int .u8 c.toNat] : List Value).length = 1 * i.size := by rw [hsize]; rfl
  have hzs : (Value.int .u8 0).cells.size = 1 := rfl
  have grown : Sat W A w → ∀ (old : Nat), Sat W (rowM (.slice (some ⟨w.heap.size, 0, none⟩) (xs ++ [c]).length (grownCap w (xs.length + 1) old 5)) (xs ++ [c]) * A)
      (w.drew.alloc (.cells ((bytesV xs).toArray ++ ([.int .u8 c.toNat] : List Value).toArray ++ Builtin.zeroCells (Value.int .u8 0).cells (grownCap w (xs.length + 1) old 5 - (xs.length + 1))) 5)) := by
    intro hA old
    have hge := grownCap_ge w (xs.length + 1) old 5
    have hcm : grownCap w (xs.length + 1) old 5 ≤ maxLen := grownCap_le_maxLen w (xs.length + 1) old 5 (by simp [maxLen]; omega)
    refine Sat.rowM_mk (hA.drew.alloc _) (by simpa using hge) hcm ?_ ?_ (.inl rfl)
    · simp only [Array.size_append, List.size_toArray, size_zeroCells, hzs, bytesV_len, List.length_singleton]
      omega
    · simp only [Array.toList_append, List.append_assoc]
      rw [← List.append_assoc, show bytesV xs ++ [Value.int .u8 c.toNat] = bytesV (xs ++ [c]) by simp [bytesV], ← bytesV_len (xs ++ [c])]
      exact List.take_left
  rcases h.rowM_cases with ⟨rfl, rfl, hA⟩ | ⟨g, cap, cur, f, rfl, h2, h3, h4, h5, h6, h7⟩
  · have hr := run_append_nil (P := P) w t ty 5 i (.int .u8 0) ht hi hz a 1 c0 [.int .u8 c.toNat] hl hnews (by omega) (by omega) (by rw [hby]; omega)
    have hgr := grown hA 0
    simp only [List.length_nil, Nat.zero_add, bytesV, List.map_nil, Array.empty_append, List.nil_append, List.length_singleton] at hgr ⊢
    exact ⟨_, _, hr, hgr⟩
  · by_cases hroom : xs.length + 1 ≤ cap
    · have hr := run_append_room_cells (P := P) w t ty 5 i ht hi g 0 xs.length cap a 1 c0 [.int .u8 c.toNat] hl hnews h1 hroom
        (by intro j hj
            simp only [List.length_singleton] at hj
            obtain rfl : j = 0 := by omega
            rw [hsize]
            rw [show 0 + xs.length * 1 + 0 = xs.length by omega]
            rw [h7.cell (i := xs.length) (v := cur[xs.length]'(by omega)) (by simp)]
            rfl)
        (by intro j hj
            simp only [List.length_singleton] at hj
            obtain rfl : j = 0 := by omega
            rw [hsize, show 0 + xs.length * 1 + 0 = xs.length by omega]
            exact frozen_off h7 (by omega) h6)
      rw [hsize, show 0 + xs.length * 1 = xs.length by omega] at hr
      refine ⟨_, _, hr, ?_⟩
      have h8 := (h7.set (i := xs.length) (v := .int .u8 c.toNat)).rowM_mk (xs := xs ++ [c]) (cap := cap) (by simpa using hroom) h3 (by simpa using h4) (by
        rw [Array.toList_setIfInBounds, List.length_append, List.length_singleton, List.take_add_one, List.take_set_of_le (Nat.le_refl _), h5]
        rw [List.getElem?_set_self (by simp; omega)]
        simp [bytesV]) (by simpa using h6)
      simpa [World.setCells] using h8
    · have holds : ∀ j u, (bytesV xs)[j]? = some u → w.cell? ((⟨g, 0, none⟩ : Addr).add j) = some u := by
        intro j u hu
        have hj : j < xs.length := by have := (List.getElem?_eq_some_iff.1 hu).1; rwa [bytesV_len] at this
        rw [← h5, List.getElem?_take, if_pos hj] at hu
        rw [Addr.add_lit, Nat.zero_add]
        exact h7.cell (by simpa using hu)
      have hr := run_append_grow (P := P) w t ty 5 i (.int .u8 0) ht hi hz ⟨g, 0, none⟩ xs.length cap (bytesV xs) (by rw [bytesV_len, hsize, Nat.mul_one]) holds a 1 c0 [.int .u8 c.toNat] hl hnews (by omega) (by omega) (growslice_fits (by omega) (by rw [hby]; omega))
      have hgr := grown h7.r cap
      simp only [List.length_append, List.length_singleton] at hgr ⊢
      exact ⟨_, _, hr, hgr⟩

theorem wpList_append_M {P : Program} {ops : Array Oper} {rest : List Oper} {o : Oper} {ac : Act} {Q : Exit → Act → World → Prop} (hgd : o.guard = none) (s x : Operand) (t : TypeId)
    (ho : o.op = .call { callee := .builtin .append, args := #[s, x], argTypes := #[t, t] })
    (i : TypeInfo) (ht : P.underlying t = some (.slice 5)) (hi : P.info? 5 = some i) (hz : i.zero = some (.int .u8 0)) (hsize : i.size = 1) (hby : i.bytes = 1)
    (hs : ac.eval s = v) (h : Sat W (rowM v xs * A) w) (a : Addr) (c0 : Nat) (c : UInt8) (hx : ac.eval x = .slice (some a) 1 c0) (hnew : w.cell? a = some (.int .u8 c.toNat)) (h63 : xs.length ≤ 4000000000)
    (hK : ∀ v' w', Sat W (rowM v' (xs ++ [c]) * A) w' → wpList P ops Q rest (ac.put o.dst v') w') : wpList P ops Q (o :: rest) ac w := by
  refine wpList_plain hgd fun K hK' => ?_
  obtain ⟨v', w', hrun, r1⟩ := Sat.rowM_append (P := P) t o.type i ht hi hz hsize hby h a c0 c hnew h63
  unfold Oper.wp
  simp [execOp, ho, resolve, invoke, builtin, hs, hx, hrun, Result.andThen]
  exact hK' _ _ (hK v' w' r1)

end Go.Sp

namespace Go.Proofs.Yticljfpippbkkaa
open Go.RowKit Go.Sp
theorem info_u8 : (Try.prog.info? 5).map (fun i => (i.zero, i.size, i.bytes)) = some (some (.int .u8 0), 1, 1) := by kernel_rfl
theorem info_parts3 {P : Program} {e : TypeId} {z : Value} {s b : Nat} (h : (P.info? e).map (fun i => (i.zero, i.size, i.bytes)) = some (some z, s, b)) : ∃ i, P.info? e = some i ∧ i.zero = some z ∧ i.size = s ∧ i.bytes = b := by
  cases hi : P.info? e with
  | none => rw [hi] at h; cases h
  | some i =>
    rw [hi] at h
    simp only [Option.map_some, Option.some.injEq, Prod.mk.injEq] at h
    exact ⟨i, rfl, h.1, h.2.1, h.2.2⟩

end Go.Proofs.Yticljfpippbkkaa

/-
  Lists of tokens that a call makes. Conditions: those that each theorem names.
-/
namespace Go.Sp
open Go Go.RowKit
section
variable {W w w' : World} {A : HProp} {v : Value} {n : Nat} {e : TypeId} {size : Nat} {xs : List Value}

theorem run_append_empty {P : Program} (t ty : TypeId) (i : TypeInfo) (ht : P.underlying t = some (.slice e)) (hi : P.info? e = some i) (w : World) (base : Option Addr) (n cap c : Nat) (hn : n ≤ cap) :
    (Builtin.append_ #[t, t] ty #[.slice base n cap, .slice none 0 c]).run P w = .ok (.slice base n cap) w := by
  cases base <;> simp [Builtin.append_, run_underlying ht, sizeOf, typeInfo, hi, Builtin.lenOf, hn, Builtin.firstCells, loadCells, storeCells]

/-- append of what can be read -/
theorem wpList_append_rd {P : Program} {ops : Array Oper} {rest : List Oper} {o : Oper} {ac : Act} {Q : Exit → Act → World → Prop} (hgd : o.guard = none) (s x : Operand) (t : TypeId)
    (ho : o.op = .call { callee := .builtin .append, args := #[s, x], argTypes := #[t, t] })
    (i : TypeInfo) (z : Value) (bytes : Nat) (ht : P.underlying t = some (.slice e)) (hi : P.info? e = some i) (hz : i.zero = some z)
    (hsize : i.size = size) (hby : i.bytes = bytes) (hzs : z.cells.size = size) (hsz : 0 < size)
    (hs : ac.eval s = v) (h : Sat W (row v n e size xs * A) w)
    (u : Value) (m : Nat) (news : List Value) (hx : ac.eval x = u) (hr : Rd w u m size news) (h1 : ∀ u ∈ news, u.oneCell' = true)
    (h63 : n + m ≤ maxLen) (hbytes : (n + m) * bytes ≤ 140737488355328)
    (hK : ∀ v' w', Sat W (row v' (n + m) e size (xs ++ news) * A) w' → wpList P ops Q rest (ac.put o.dst v') w') : wpList P ops Q (o :: rest) ac w := by
  have hr' := hr
  obtain ⟨hl, hm, a, c, rfl, hcell⟩ := hr'
  cases a with
  | some a =>
    refine wpList_append_sep hgd s x t ho i z bytes ht hi hz hsize hby hzs hs h a m c news hx hl (fun j u hu => ?_) h1 h63 hbytes hK
    obtain ⟨b, off, e1, e2⟩ := hcell j u hu
    cases e1
    rw [Addr.add_lit]; exact e2
  | none =>
    have hm0 : m = 0 := by
      rcases Nat.eq_zero_or_pos m with h0 | h0
      · exact h0
      · obtain ⟨b, off, cap, e1, _⟩ := hr.head h0 hsz
        cases e1
    subst hm0
    have hn : news = [] := List.eq_nil_of_length_eq_zero (by simpa using hl)
    subst hn
    refine wpList_plain hgd fun K hK' => ?_
    unfold Oper.wp
    have key : ∃ b cap, v = .slice b n cap ∧ n ≤ cap := by
      obtain ⟨_, hc⟩ := h.row_cases
      rcases hc with ⟨rfl, rfl, _⟩ | ⟨g, cap, cur, rfl, hc, _⟩
      · exact ⟨none, 0, rfl, Nat.le_refl _⟩
      · exact ⟨_, cap, rfl, hc⟩
    obtain ⟨b, cap, rfl, hc⟩ := key
    simp [execOp, ho, resolve, invoke, builtin, hs, hx, run_append_empty (P := P) t o.type i ht hi w b n cap c hc, Result.andThen]
    have := hK (.slice b n cap) w (by simpa using h)
    exact hK' _ _ this

theorem Rd.frame {B : HProp} {v : Value} {n : Nat} {size : Nat} {xs : List Value} (h : Rd w v n size xs) (k : Sat w (B * own w) w') : Rd w' v n size xs := h.ext k.extR
end
end Go.Sp

namespace Go.Proofs.Yticljfpippbkkaa
open Go.RowKit Go.Sp
variable {W w w' : World} {F : HProp}

theorem info_tok : (Try.prog.info? 28).map (fun i => (i.zero, i.size, i.bytes)) = some (some (.agg #[.int .i64 0, .int .u8 0, .string ByteArray.empty]), 3, 32) := by kernel_rfl

/-- a list of tokens that is owned -/
def rowT (v : Value) (L : List Tok) : HProp := row v L.length 28 3 (flat L)

theorem rowT_rd {A : HProp} {v : Value} {L : List Tok} (h : Sat W (rowT v L * A) w) : RdT w v L := by
  refine ⟨h.rd, ?_⟩
  obtain ⟨_, hc⟩ := h.row_cases
  rcases hc with ⟨rfl, h0, _⟩ | ⟨g, cap, cur, rfl, hc, _⟩
  · exact ⟨none, 0, by rw [h0], by omega⟩
  · exact ⟨_, cap, rfl, hc⟩

theorem rowT_snoc {v : Value} {acc : List Tok} {t : Tok} {n : Nat} {xs : List Value} (h : Sat W (row v n 28 3 xs * F) w) (hn : n = acc.length + 1) (hx : xs = flat acc ++ t.cells) : Sat W (rowT v (acc ++ [t]) * F) w := by
  subst hn hx
  have e : flat (acc ++ [t]) = flat acc ++ t.cells := by rw [flat_append]; simp [flat]
  unfold rowT
  rw [e, List.length_append]
  exact h

theorem new_cells1 (w : World) (o : Obj) (cs : Array Value) (e : TypeId) : ∀ (j : Nat) (u : Value), cs.toList[j]? = some u → ((w.alloc o).alloc (.cells cs e)).cell? ((⟨w.heap.size + 1, 0, none⟩ : Addr).add j) = some u := by
  have h := new_cells (w.alloc o) cs e
  rw [show (w.alloc o).heap.size = w.heap.size + 1 by simp] at h
  exact h

theorem rowT_app {v : Value} {acc X : List Tok} {n : Nat} (h : Sat W (row v n 28 3 (flat acc ++ flat X) * F) w) (hn : n = acc.length + X.length) : Sat W (rowT v (acc ++ X) * F) w := by
  subst hn
  unfold rowT
  rw [flat_append, List.length_append]
  exact h

end Go.Proofs.Yticljfpippbkkaa

/-
  A region that draws its order: its first n operations yield the same values in every world of a class, and what follows them comes in one order. Conditions: those of the theorem.
-/
namespace Go.Sp
open Go
variable {P : Program} {ops : Array Oper} {md : Region.Mode} {C : World → Prop}

/-- Whatever order is picked among the first n; then L. -/
def anyT (P : Program) (md : Region.Mode) (ops : Array Oper) (C : World → Prop) (n : Nat) (L : Array Bool → Act → Prop) : Nat → Array Bool → Act → Prop
  | 0, listed, a => L listed a
  | f + 1, listed, a => Region.ready md ops listed ≠ [] ∧ ∀ i ∈ Region.ready md ops listed, i < n ∧ qOp P ops C i (anyT P md ops C n L f (listed.setIfInBounds i true)) a

theorem any_of_anyT {n g : Nat} {L : Array Bool → Act → Prop} {Q : Exit → Act → World → Prop} (hL : ∀ listed a w, C w → L listed a → wpAny P md ops Q g listed a w) (f : Nat) :
    ∀ (listed : Array Bool) (a : Act) (w : World), C w → anyT P md ops C n L f listed a → wpAny P md ops Q (f + g) listed a w := by
  induction f with
  | zero => intro listed a w hw h; rw [Nat.zero_add]; exact hL _ _ _ hw h
  | succ f ih =>
    intro listed a w hw h
    rw [Nat.add_right_comm]
    exact ⟨fun h0 => (h.1 h0).elim, fun i hi => wpOp_of_qOp hw (fun a' w' hw' h' => ih _ a' w' hw' h') (h.2 i hi).2⟩

theorem anyT_first {n i : Nat} {oi : Oper} {v : Value} {L : Array Bool → Act → Prop} (hi : ops[i]? = some oi) (hsel : ∀ (j : Nat) (o : Oper) cs b, ops[j]? = some o → o.op ≠ .select cs b)
    (hs : Region.sinkB md ops n = true) (hc : Region.chainB md ops n = true) (hn : n < ops.size) (hin : i < n)
    (hdone : ∀ listed a, L listed a → ∀ j ∈ Region.ready md ops listed, n ≤ j) (f : Nat) :
    ∀ (listed : Array Bool) (a : Act), HeadInv md ops n listed →
      (∀ j oj, ops[j]? = some oj → j ≠ i → listed.getD j true = false → (∀ e ∈ oj.after, Region.binds md e = true → e.on ≠ i) → oi.apart ops oj = true) →
      i ∈ Region.ready md ops listed → YieldsIn P ops C oi v a →
      anyT P md ops C n L f (listed.setIfInBounds i true) (a.put oi.dst v) → anyT P md ops C n L (f + 1) listed a := by
  induction f with
  | zero =>
    intro listed a inv _ hr hy H
    refine ⟨List.ne_nil_of_mem hr, fun j hj => ?_⟩
    have hjn : j < n := Nat.lt_of_not_le fun h => tail_waits hs hc hn inv _ i rfl hin (mem_ready.1 hr).1 j h hj
    refine ⟨hjn, ?_⟩
    by_cases hji : j = i
    · subst hji; exact hy.qOp hi H
    · exact absurd (hdone _ _ H j (ready_mono hj hji)) (by omega)
  | succ f ih =>
    intro listed a inv hfree hr hy H
    have hun := (mem_ready.1 hr).1
    refine ⟨List.ne_nil_of_mem hr, fun j hj => ?_⟩
    have hjn : j < n := Nat.lt_of_not_le fun h => tail_waits hs hc hn inv _ i rfl hin hun j h hj
    refine ⟨hjn, ?_⟩
    by_cases hji : j = i
    · subst hji; exact hy.qOp hi H
    · obtain ⟨hjun, oj, hoj, hall⟩ := mem_ready.1 hj
      have hap : oi.apart ops oj = true := hfree j oj hoj hji hjun fun e he hb heq => by
        have := hall e he hb
        rw [heq, getD_both hun] at this
        cases this
      have h2 := qOp_put hoj hap (fun cs b => hsel i oi cs b hi) (fun cs b => hsel j oj cs b hoj) hy (H.2 j (ready_mono hj hji)).2
      refine qOp_mono (fun a' h3 => ih _ a' (inv.set hj hjn) ?_ (ready_mono hr (Ne.symm hji)) h3.1 ?_) h2
      · intro k ok hk hki hkun hno
        refine hfree k ok hk hki ?_ hno
        by_cases hjk : j = k
        · subst hjk; exact hjun
        · rwa [getD_set_ne true hjk] at hkun
      · rw [Array.setIfInBounds_comm _ _ hji]
        exact h3.2

theorem anyT_lex {n g : Nat} {Lq : Act → Prop} (hsel : Region.noSelect ops = true) (hs : Region.sinkB md ops n = true) (hc : Region.chainB md ops n = true) (hn : n < ops.size) (l : List Oper) :
    ∀ (k : Nat) (listed : Array Bool) (a : Act), (∀ j, j < l.length → l[j]? = ops[k + j]?) → k + l.length = n → HeadInv md ops n listed →
    Region.lexHead md ops g l.length k listed = true → wpQuiet P ops C Lq l a →
    anyT P md ops C n (fun listed' a' => Region.seqB md ops g n listed' = true ∧ Lq a') l.length listed a := by
  induction l with
  | nil =>
    intro k listed a _ hk _ hB h
    obtain rfl : k = n := by simpa using hk
    exact ⟨hB, h⟩
  | cons o l ih =>
    intro k listed a hl hk inv hB h
    have h0 : ops[k]? = some o := by simpa using (hl 0 (by simp)).symm
    simp only [List.length_cons, Region.lexHead, Bool.and_eq_true] at hB hk
    obtain ⟨⟨hr, hf⟩, hB⟩ := hB
    have hr : k ∈ Region.ready md ops listed := by simpa using hr
    have hq : qOp P ops C k (wpQuiet P ops C Lq l) a := by unfold qOp; rw [h0]; exact h
    obtain ⟨v, hy, hK⟩ := yieldsIn_of_qOp h0 hq
    refine anyT_first h0 (Region.noSelect_spec hsel) hs hc hn (by omega) (fun _ _ hL => seqB_ready hL.1) l.length listed a inv (Region.free_spec h0 hf) hr hy ?_
    refine ih (k + 1) _ _ (fun j hj => ?_) (by omega) (inv.set hr (by omega)) hB hK
    have := hl (j + 1) (by simp only [List.length_cons]; omega)
    simpa [Nat.add_assoc, Nat.add_comm 1 j] using this

/-- The region, its operations written out. -/
theorem wp_region_tail (C : World → Prop) {id : Nat} {Q : Exit → Act → World → Prop} {a : Act} {w : World} {l : List Oper} (n : Nat) (hm : P.follows .mixedOrders = true) (hB : Region.lexTailB .any l.toArray n = true)
    (hC : C w.drew) (h : wpQuiet P l.toArray C (fun a' => ∀ w', C w' → wpList P l.toArray Q (l.drop n) a' w') (l.take n) a) : (Code.region id l.toArray true).wp P Q a w := by
  simp only [Region.lexTailB, Bool.and_eq_true, decide_eq_true_eq] at hB
  obtain ⟨⟨⟨⟨hsel, hn⟩, hs⟩, hc⟩, hlex⟩ := hB
  have hn' : n < l.length := by simpa using hn
  have htl : (l.take n).length = n := by simp; omega
  have hdl : (l.drop n).length = l.toArray.size - n := by simp
  have inv0 : HeadInv .any l.toArray n (Array.replicate l.toArray.size false) :=
    ⟨by simp, fun j _ _ hl => (by rw [getD_replicate_false] at hl; cases hl), fun t _ ht => getD_in (by simpa using ht) (getD_replicate_false _ _)⟩
  have H := anyT_lex (md := .any) (g := l.toArray.size - n) hsel hs hc hn (l.take n) 0 _ a (fun j hj => by
    rw [htl] at hj
    simp [hj]) (by simpa using htl) inv0 (by rw [htl]; exact hlex) h
  refine wp_region_any hm ?_
  have := any_of_anyT (C := C) (Q := Q) (g := l.toArray.size - n) (fun listed a' w' hw' hL => by
    rw [← hdl]
    exact wpAny_of_seq (l.drop n) n listed a' w' (fun j => by simp) (by rw [hdl]; exact hL.1) (hL.2 w' hw')) _ _ _ w.drew hC H
  rw [htl, show n + (l.toArray.size - n) = l.toArray.size by omega] at this
  exact this
end Go.Sp

/-
  A region that draws its order, walked once: what only reads a class of worlds is taken first, whatever the order. Conditions: those of the theorems.
-/
namespace Go.Sp
open Go
variable {P : Program} {ops : Array Oper} {md : Region.Mode} {C : World → Prop} {Q : Exit → Act → World → Prop}

/-- Whatever order is picked from here on; each world on the way is of the class. -/
def wpAnyC (P : Program) (md : Region.Mode) (ops : Array Oper) (C : World → Prop) (Q : Exit → Act → World → Prop) : Nat → Array Bool → Act → World → Prop
  | 0, listed, a, w => C w ∧ Region.ready md ops listed = [] ∧ Q .normal a w
  | fuel + 1, listed, a, w => C w ∧ (Region.ready md ops listed = [] → Q .normal a w) ∧
    ∀ i ∈ Region.ready md ops listed, wpOp P ops Q i (wpAnyC P md ops C Q fuel (listed.setIfInBounds i true)) a w

theorem wpAnyC.cls {f : Nat} {listed : Array Bool} {a : Act} {w : World} (h : wpAnyC P md ops C Q f listed a w) : C w := by
  cases f with
  | zero => exact h.1
  | succ f => exact h.1

theorem wpAny_of_C : ∀ (f : Nat) (listed : Array Bool) (a : Act) (w : World), wpAnyC P md ops C Q f listed a w → wpAny P md ops Q f listed a w
  | 0, _, _, _, h => h.2
  | f + 1, _, _, _, h => ⟨h.2.1, fun i hi => wpOp_mono (fun a' w' h' => wpAny_of_C f _ a' w' h') (h.2.2 i hi)⟩

/-- In each world of the class the operation yields v, and the world stays. -/
def YieldsC (P : Program) (ops : Array Oper) (C : World → Prop) (o : Oper) (v : Value) (a : Act) : Prop :=
  (Region.wanted o (yielded ops a.tmps) = true ∧ ∀ w, C w → (execOp a.eval o).run P w = .ok (.value v) w) ∨
  (Region.wanted o (yielded ops a.tmps) = false ∧ v = undef)

theorem YieldsC.wpOp {i : Nat} {o : Oper} {v : Value} {a : Act} (hi : ops[i]? = some o) (hy : YieldsC P ops C o v a)
    {K : Act → World → Prop} {w : World} (hw : C w) (h : K (a.put o.dst v) w) : wpOp P ops Q i K a w := by
  unfold Go.wpOp
  simp only [hi]
  rcases hy with ⟨hg, hv⟩ | ⟨hg, rfl⟩
  · simp only [hg, if_true, Oper.wp, hv w hw, Oper.upon]; exact .inl h
  · simp only [hg, Bool.false_eq_true, if_false]; exact h

theorem YieldsC.of_same {o : Oper} {v : Value} {a a' : Act} (hy : YieldsC P ops C o v a) (he : execOp a'.eval o = execOp a.eval o)
    (hw : Region.wanted o (yielded ops a'.tmps) = Region.wanted o (yielded ops a.tmps)) : YieldsC P ops C o v a' := by
  unfold YieldsC at *
  rw [he, hw]
  exact hy

theorem wpOp_putC {j : Nat} {oi oj : Oper} {v : Value} (hj : ops[j]? = some oj) (hap : oi.apart ops oj = true)
    (hsi : ∀ cs b, oi.op ≠ .select cs b) (hsj : ∀ cs b, oj.op ≠ .select cs b)
    (hQ : ∀ c a w, Q (.panic c) (a.put oi.dst v) w → Q (.panic c) a w) {K : Act → World → Prop} {a : Act} {w : World}
    (hy : YieldsC P ops C oi v a) (h : wpOp P ops Q j K (a.put oi.dst v) w) :
    wpOp P ops Q j (fun a' w' => YieldsC P ops C oi v a' ∧ K (a'.put oi.dst v) w') a w := by
  obtain ⟨h1, h2, h3⟩ := Oper.apart_spec hap
  have keep : ∀ (a : Act), YieldsC P ops C oi v a → ∀ u, YieldsC P ops C oi v (a.put oj.dst u) := fun a hy u =>
    hy.of_same (execOp_put oi hsi a oj.dst u h3) (wanted_put oi a oj.dst u h3)
  have keepD : ∀ d, YieldsC P ops C oi v { a with defers := d :: a.defers } := fun d => hy.of_same rfl rfl
  unfold Go.wpOp at *
  simp only [hj] at *
  rw [wanted_put oj a oi.dst v h1] at h
  split
  · rename_i hw
    simp only [hw, if_true] at h
    rcases h with h | ⟨hasks, hlets⟩
    case inr => exact .inr ⟨by unfold Oper.asks at *; rw [execOp_put oj hsj a oi.dst v h1] at hasks; exact hasks, hlets⟩
    refine .inl ?_
    unfold Oper.wp at *
    rw [execOp_put oj hsj a oi.dst v h1] at h
    generalize (execOp a.eval oj).run P w = r at *
    cases r with
    | ok n w' =>
      cases n <;> simp only [Oper.upon] at h ⊢
      case value u => exact ⟨keep a hy u, by rw [← Act.put_comm a v u h2]; exact h⟩
      case skip => exact ⟨keep a hy _, by rw [← Act.put_comm a v undef h2]; exact h⟩
      case defer d =>
        refine ⟨keep _ (keepD d) _, ?_⟩
        rw [← Act.put_comm _ v undef h2, ← Act.put_defers]
        exact h
      case enter f args =>
        refine Calls.mono h fun e w'' he => ?_
        cases e with
        | returned u => exact ⟨keep a hy u, by rw [← Act.put_comm a v u h2]; exact he⟩
        | panicked c => exact hQ _ _ _ he
        | outgrown => exact he
      case row row args => exact Rows.mono h fun u w'' he => ⟨keep a hy u, by rw [← Act.put_comm a v u h2]; exact he⟩
    | halt x w' =>
      cases x <;> simp only [Oper.upon] at h ⊢
      case panic u => exact hQ _ _ _ h
  · rename_i hw
    simp only [hw] at h
    exact ⟨keep a hy _, by rw [← Act.put_comm a v undef h2]; exact h⟩

theorem wpC_first {i : Nat} {oi : Oper} {v : Value} (hi : ops[i]? = some oi) (hsel : ∀ (j : Nat) (o : Oper) cs b, ops[j]? = some o → o.op ≠ .select cs b)
    (hQ : ∀ c a w, Q (.panic c) (a.put oi.dst v) w → Q (.panic c) a w) :
    ∀ (fuel : Nat) (listed : Array Bool) (a : Act) (w : World),
      (∀ j oj, ops[j]? = some oj → j ≠ i → listed.getD j true = false → (∀ e ∈ oj.after, Region.binds md e = true → e.on ≠ i) → oi.apart ops oj = true) →
      i ∈ Region.ready md ops listed → YieldsC P ops C oi v a →
      wpAnyC P md ops C Q fuel (listed.setIfInBounds i true) (a.put oi.dst v) w → wpAnyC P md ops C Q (fuel + 1) listed a w := by
  intro fuel
  induction fuel with
  | zero =>
    intro listed a w _ hr hy H
    refine ⟨H.cls, fun h => (by rw [h] at hr; cases hr), fun j hj => ?_⟩
    by_cases hji : j = i
    · subst hji; exact hy.wpOp hi H.cls H
    · have := ready_mono hj hji
      rw [H.2.1] at this
      cases this
  | succ fuel ih =>
    intro listed a w hfree hr hy H
    refine ⟨H.cls, fun h => (by rw [h] at hr; cases hr), fun j hj => ?_⟩
    by_cases hji : j = i
    · subst hji; exact hy.wpOp hi H.cls H
    · have h1 := H.2.2 j (ready_mono hj hji)
      obtain ⟨hjun, oj, hoj, hall⟩ := mem_ready.1 hj
      have hnot : ∀ e ∈ oj.after, Region.binds md e = true → e.on ≠ i := fun e he hb heq => by
        have h1 := hall e he hb
        have h0 := (mem_ready.1 hr).1
        rw [heq] at h1
        rcases Nat.lt_or_ge i listed.size with h' | h'
        · simp [h'] at h0 h1; rw [h0] at h1; cases h1
        · simp [Array.getElem?_eq_none h'] at h1
      have h2 := wpOp_putC hoj (hfree j oj hoj hji hjun hnot) (fun cs b => hsel i oi cs b hi) (fun cs b => hsel j oj cs b hoj) hQ hy h1
      have hfree' : ∀ k ok, ops[k]? = some ok → k ≠ i → (listed.setIfInBounds j true).getD k true = false →
          (∀ e ∈ ok.after, Region.binds md e = true → e.on ≠ i) → oi.apart ops ok = true := fun k ok hk hki hun hno => by
        refine hfree k ok hk hki ?_ hno
        by_cases hjk : j = k
        · subst hjk; exact hjun
        · rw [getD_set_ne true hjk] at hun; exact hun
      refine wpOp_mono (fun a' w' h3 => ih (listed.setIfInBounds j true) a' w' hfree' (ready_mono hr (Ne.symm hji)) h3.1 ?_) h2
      rw [Array.setIfInBounds_comm _ _ hji]
      exact h3.2

/-- An operation that only reads is taken first. -/
theorem wpC_take {i : Nat} {oi : Oper} {v : Value} {fuel : Nat} {listed : Array Bool} {a : Act} {w : World} (hi : ops[i]? = some oi)
    (hs : Region.noSelect ops = true) (hf : Region.free md ops listed i = true) (hr : (Region.ready md ops listed).contains i = true)
    (hQ : ∀ c a w, Q (.panic c) (a.put oi.dst v) w → Q (.panic c) a w) (hg : Region.wanted oi (yielded ops a.tmps) = true) (hy : ∀ w, C w → (execOp a.eval oi).run P w = .ok (.value v) w)
    (h : wpAnyC P md ops C Q fuel (listed.setIfInBounds i true) (a.put oi.dst v) w) : wpAnyC P md ops C Q (fuel + 1) listed a w :=
  wpC_first hi (Region.noSelect_spec hs) hQ fuel listed a w (Region.free_spec hi hf) (by simpa using hr) (.inl ⟨hg, hy⟩) h

/-- An operation that is not wanted is taken first. -/
theorem wpC_pass {i : Nat} {oi : Oper} {fuel : Nat} {listed : Array Bool} {a : Act} {w : World} (hi : ops[i]? = some oi)
    (hs : Region.noSelect ops = true) (hf : Region.free md ops listed i = true) (hr : (Region.ready md ops listed).contains i = true)
    (hQ : ∀ c a w, Q (.panic c) (a.put oi.dst undef) w → Q (.panic c) a w) (hg : Region.wanted oi (yielded ops a.tmps) = false)
    (h : wpAnyC P md ops C Q fuel (listed.setIfInBounds i true) (a.put oi.dst undef) w) : wpAnyC P md ops C Q (fuel + 1) listed a w :=
  wpC_first hi (Region.noSelect_spec hs) hQ fuel listed a w (Region.free_spec hi hf) (by simpa using hr) (.inr ⟨hg, rfl⟩) h

/-- The one operation that can come next. -/
theorem wpC_one {i : Nat} {o : Oper} {fuel : Nat} {listed : Array Bool} {a : Act} {w : World} (hi : ops[i]? = some o) (hr : Region.ready md ops listed = [i]) (hC : C w)
    (h : ∀ K : Act → World → Prop, (∀ a w, wpAnyC P md ops C Q fuel (listed.setIfInBounds i true) a w → K a w) → if Region.wanted o (yielded ops a.tmps) = true then Oper.wp P o a w K Q else K (a.put o.dst undef) w) :
    wpAnyC P md ops C Q (fuel + 1) listed a w := by
  refine ⟨hC, fun h0 => (by rw [hr] at h0; cases h0), fun j hj => ?_⟩
  rw [hr] at hj
  obtain rfl : j = i := by simpa using hj
  exact wpOp_step hi h

/-- Those that can come next, one by one. -/
def AllReadyC (P : Program) (md : Region.Mode) (ops : Array Oper) (C : World → Prop) (Q : Exit → Act → World → Prop) (fuel : Nat) (listed : Array Bool) (a : Act) (w : World) (rs : List Nat) : Prop :=
  ∀ i ∈ rs, wpOp P ops Q i (wpAnyC P md ops C Q fuel (listed.setIfInBounds i true)) a w
theorem AllReadyC.nil {fuel : Nat} {listed : Array Bool} {a : Act} {w : World} : AllReadyC P md ops C Q fuel listed a w [] := fun _ h => by cases h
theorem AllReadyC.cons {fuel : Nat} {listed : Array Bool} {a : Act} {w : World} {i : Nat} {o : Oper} {rs : List Nat} (ho : ops[i]? = some o)
    (h : ∀ K' : Act → World → Prop, (∀ a w, wpAnyC P md ops C Q fuel (listed.setIfInBounds i true) a w → K' a w) → if Region.wanted o (yielded ops a.tmps) = true then Oper.wp P o a w K' Q else K' (a.put o.dst undef) w)
    (hs : AllReadyC P md ops C Q fuel listed a w rs) : AllReadyC P md ops C Q fuel listed a w (i :: rs) := fun j hj => by
  rcases List.mem_cons.1 hj with rfl | hj
  · exact wpOp_step ho h
  · exact hs j hj
theorem wpC_ready {rs : List Nat} {fuel : Nat} {listed : Array Bool} {a : Act} {w : World} (hr : Region.ready md ops listed = rs) (hne : rs ≠ []) (hC : C w)
    (h : AllReadyC P md ops C Q fuel listed a w rs) : wpAnyC P md ops C Q (fuel + 1) listed a w :=
  ⟨hC, fun h0 => absurd (hr ▸ h0) hne, hr ▸ h⟩

theorem wpC_done {fuel : Nat} {listed : Array Bool} {a : Act} {w : World} (hr : Region.ready md ops listed = []) (hC : C w) (h : Q .normal a w) : wpAnyC P md ops C Q fuel listed a w := by
  cases fuel with
  | zero => exact ⟨hC, hr, h⟩
  | succ f => exact ⟨hC, fun _ => h, by rw [hr]; simp⟩

theorem wp_region_C (C : World → Prop) {id : Nat} {a : Act} {w : World} (hm : P.follows .mixedOrders = true)
    (h : wpAnyC P .any ops C Q ops.size (Array.replicate ops.size false) a w.drew) : (Code.region id ops true).wp P Q a w :=
  wp_region_any hm (wpAny_of_C _ _ _ _ h)

/-- A whole block, read. -/
theorem exec_load_row {o : Oper} {a : Act} {w : World} (ty : TypeId) (x : Operand) (ho : o.op = .load ty x)
    (g : Nat) (hx : a.eval x = .pointer (some ⟨g, 0, none⟩)) (t : TypeId) (cs : Array Value) (fr : Nat × Nat) (d : TypeDesc) (hg : w.heap[g]? = some (.cells cs t fr))
    (hu : P.underlying ty = some d) (hd : (match d with | .struct _ | .array _ _ => true | _ => false) = true) (hi : (P.info? ty).map (·.size) = some cs.size) :
    (execOp a.eval o).run P w = .ok (.value (.agg cs)) w := by
  unfold execOp
  simp only [ho, hx, Instr.loadAt, Instr.sureAddr, Sem.run_bind, Sem.run_pure, Result.andThen_ok, run_loadVar_row w g t ty cs fr d hg hu hd hi]
end Go.Sp

/-
  Steps of a region that draws its order: an append, a load of a whole block. Conditions: those of the theorems.
-/
namespace Go.Sp
open Go Go.RowKit
section
variable {W w w' : World} {A : HProp} {v : Value} {n : Nat} {e : TypeId} {size : Nat} {xs : List Value}
theorem step_append_rd {P : Program} {ops : Array Oper} {o : Oper} {ac : Act} {K : Act → World → Prop} {Q : Exit → Act → World → Prop} {E : Prop} (hgd : o.guard = none) (s x : Operand) (t : TypeId)
    (ho : o.op = .call { callee := .builtin .append, args := #[s, x], argTypes := #[t, t] })
    (i : TypeInfo) (z : Value) (bytes : Nat) (ht : P.underlying t = some (.slice e)) (hi : P.info? e = some i) (hz : i.zero = some z)
    (hsize : i.size = size) (hby : i.bytes = bytes) (hzs : z.cells.size = size) (hsz : 0 < size)
    (hs : ac.eval s = v) (h : Sat W (row v n e size xs * A) w)
    (u : Value) (m : Nat) (news : List Value) (hx : ac.eval x = u) (hr : Rd w u m size news) (h1 : ∀ u ∈ news, u.oneCell' = true)
    (h63 : n + m ≤ maxLen) (hbytes : (n + m) * bytes ≤ 140737488355328)
    (hK : ∀ v' w', Sat W (row v' (n + m) e size (xs ++ news) * A) w' → (v' = .slice none 0 0 ↔ v = .slice none 0 0 ∧ m = 0) → K (ac.put o.dst v') w') :
    if Region.wanted o (yielded ops ac.tmps) = true then Oper.wp P o ac w K Q else E := by
  rw [if_pos (by simp [Region.wanted, hgd])]
  have hr' := hr
  obtain ⟨hl, hm, a, c, rfl, hcell⟩ := hr'
  cases a with
  | some a =>
    obtain ⟨v', w', hrun, r1, r2⟩ := Sat.run_append (P := P) t o.type i z bytes ht hi hz hsize hby hzs h a m c news hl (fun j u hu => by
      obtain ⟨b, off, e1, e2⟩ := hcell j u hu
      cases e1
      rw [Addr.add_lit]; exact e2) h1 h63 hbytes
    unfold Oper.wp
    simp [execOp, ho, resolve, invoke, builtin, hs, hx, hrun, Result.andThen]
    exact hK _ _ r1 r2
  | none =>
    have hm0 : m = 0 := by
      rcases Nat.eq_zero_or_pos m with h0 | h0
      · exact h0
      · obtain ⟨b, off, cap, e1, _⟩ := hr.head h0 hsz
        cases e1
    subst hm0
    have hn : news = [] := List.eq_nil_of_length_eq_zero (by simpa using hl)
    subst hn
    unfold Oper.wp
    have key : ∃ b cap, v = .slice b n cap ∧ n ≤ cap := by
      obtain ⟨_, hc⟩ := h.row_cases
      rcases hc with ⟨rfl, rfl, _⟩ | ⟨g, cap, cur, rfl, hc, _⟩
      · exact ⟨none, 0, rfl, Nat.le_refl _⟩
      · exact ⟨_, cap, rfl, hc⟩
    obtain ⟨b, cap, rfl, hc⟩ := key
    simp [execOp, ho, resolve, invoke, builtin, hs, hx, run_append_empty (P := P) t o.type i ht hi w b n cap c hc, Result.andThen]
    have := hK (.slice b n cap) w (by simpa using h) (by simp)
    exact this

theorem step_load_row {P : Program} {ops : Array Oper} {o : Oper} {ac : Act} {K : Act → World → Prop} {Q : Exit → Act → World → Prop} {E : Prop} (hgd : o.guard = none) (ty : TypeId) (x : Operand) (ho : o.op = .load ty x)
    (g : Nat) (hx : ac.eval x = .pointer (some ⟨g, 0, none⟩)) (t : TypeId) (cs : Array Value) (fr : Nat × Nat) (d : TypeDesc) (hg : w.heap[g]? = some (.cells cs t fr))
    (hu : P.underlying ty = some d) (hd : (match d with | .struct _ | .array _ _ => true | _ => false) = true) (hi : (P.info? ty).map (·.size) = some cs.size)
    (h : K (ac.put o.dst (.agg cs)) w) : if Region.wanted o (yielded ops ac.tmps) = true then Oper.wp P o ac w K Q else E := by
  rw [if_pos (by simp [Region.wanted, hgd])]
  exact wp_load_row ty x ho g hx t cs fr d hg hu hd hi h
end
end Go.Sp
