
/-
  A small logic of heaps: what a call owns, said as a product of parts ('A * B'), read over a world by 'Sat'.
  Conditions: none; it speaks of any program. No text of the program is named here.
-/
import Derived.WalkKit
import Derived.WalkSpells
import Derived.WalkLawsBesides
import Derived.Deep.QuietTactic
import Derived.BigQuiet
import Derived.Lib.Hide
import Derived.StillTailTactics
import Derived.Deep.RegionWith
import Derived.Laws.EntriesVeiled
namespace Go.Sp
open Go.RowKit

/-- A part of the heap, said of. -/
def HProp : Type := (Nat → Option Obj) → Prop

def HProp.star (P Q : HProp) : HProp := fun h =>
  ∃ a b : Nat → Option Obj, (∀ k, a k = none ∨ b k = none) ∧ (∀ k, h k = (a k).or (b k)) ∧ P a ∧ Q b

instance : Mul HProp := ⟨HProp.star⟩

def emp : HProp := fun h => ∀ k, h k = none
def ex {α : Type} (P : α → HProp) : HProp := fun h => ∃ x, P x h
def fact (p : Prop) (A : HProp) : HProp := fun h => p ∧ A h
def pts (b : Nat) (o : Obj) : HProp := fun h => h b = some o ∧ ∀ k, k ≠ b → h k = none
/-- The heap in which the call began. -/
def own (W : World) : HProp := fun h => ∀ k, h k = W.heap[k]?

theorem HProp.ext {A B : HProp} (h : ∀ x, A x ↔ B x) : A = B := funext fun x => propext (h x)

theorem star_comm (A B : HProp) : A * B = B * A := by
  have key : ∀ (A B : HProp) x, (A * B) x → (B * A) x := by
    rintro A B x ⟨a, b, hd, hu, ha, hb⟩
    refine ⟨b, a, fun k => (hd k).symm, fun k => ?_, hb, ha⟩
    rw [hu k]
    rcases hd k with h | h <;> simp [h]
  exact HProp.ext fun x => ⟨key A B x, key B A x⟩

theorem star_assoc (A B C : HProp) : A * B * C = A * (B * C) := by
  refine HProp.ext fun x => ⟨?_, ?_⟩
  · rintro ⟨ab, c, hd, hu, ⟨a, b, hd2, hu2, ha, hb⟩, hc⟩
    refine ⟨a, fun k => (b k).or (c k), ?_, ?_, ha, b, c, ?_, fun _ => rfl, hb, hc⟩
    · intro k
      have h1 := hd k; have h2 := hd2 k; rw [hu2 k] at h1
      cases ha' : a k <;> cases hb' : b k <;> simp_all
    · intro k; rw [hu k, hu2 k]; cases a k <;> simp
    · intro k
      have h1 := hd k; have h2 := hd2 k; rw [hu2 k] at h1
      cases ha' : a k <;> cases hb' : b k <;> simp_all
  · rintro ⟨a, bc, hd, hu, ha, b, c, hd2, hu2, hb, hc⟩
    refine ⟨fun k => (a k).or (b k), c, ?_, ?_, ⟨a, b, ?_, fun _ => rfl, ha, hb⟩, hc⟩
    · intro k
      have h1 := hd k; have h2 := hd2 k; rw [hu2 k] at h1
      cases ha' : a k <;> cases hb' : b k <;> simp_all
    · intro k; rw [hu k, hu2 k]; show _ = ((a k).or (b k)).or (c k); cases a k <;> simp
    · intro k
      have h1 := hd k; have h2 := hd2 k; rw [hu2 k] at h1
      cases ha' : a k <;> cases hb' : b k <;> simp_all

instance : Std.Commutative (α := HProp) (· * ·) := ⟨star_comm⟩
instance : Std.Associative (α := HProp) (· * ·) := ⟨star_assoc⟩

theorem star_left_comm (A B C : HProp) : A * (B * C) = B * (A * C) := by
  rw [← star_assoc, star_comm A B, star_assoc]

theorem star_ex {α : Type} (P : α → HProp) (Q : HProp) : ex P * Q = ex fun x => P x * Q :=
  HProp.ext fun _ => ⟨fun ⟨a, b, hd, hu, ⟨x, ha⟩, hb⟩ => ⟨x, a, b, hd, hu, ha, hb⟩, fun ⟨x, a, b, hd, hu, ha, hb⟩ => ⟨a, b, hd, hu, ⟨x, ha⟩, hb⟩⟩

theorem star_fact (p : Prop) (A B : HProp) : fact p A * B = fact p (A * B) :=
  HProp.ext fun _ => ⟨fun ⟨a, b, hd, hu, ⟨hp, ha⟩, hb⟩ => ⟨hp, a, b, hd, hu, ha, hb⟩, fun ⟨hp, a, b, hd, hu, ha, hb⟩ => ⟨a, b, hd, hu, ⟨hp, ha⟩, hb⟩⟩

theorem star_mono {A A' B : HProp} (h : ∀ x, A x → A' x) : ∀ x, (A * B) x → (A' * B) x :=
  fun _ ⟨a, b, hd, hu, ha, hb⟩ => ⟨a, b, hd, hu, h _ ha, hb⟩

/-- In the world w, whose streams and tape are W's, a part of the heap is as A says; of the rest nothing is said. -/
def Sat (W : World) (A : HProp) (w : World) : Prop :=
  (w.os = W.os ∧ w.tape = W.tape ∧ w.output = W.output) ∧ ∃ h : Nat → Option Obj, (∀ k o, h k = some o → w.heap[k]? = some o) ∧ A h

section
variable {W w w' : World} {A B C : HProp}

theorem Sat.imp (h : Sat W A w) (hA : ∀ x, A x → B x) : Sat W B w := ⟨h.1, let ⟨x, hx, a⟩ := h.2; ⟨x, hx, hA x a⟩⟩
theorem Sat.of_eq (h : Sat W A w) (e : A = B) : Sat W B w := e ▸ h
theorem Sat.l (h : Sat W (A * B) w) : Sat W A w := by
  obtain ⟨h1, x, hx, a, b, hd, hu, ha, hb⟩ := h
  refine ⟨h1, a, fun k o ho => hx k o ?_, ha⟩
  rw [hu k, ho]; rfl
theorem Sat.comm (h : Sat W (A * B) w) : Sat W (B * A) w := h.of_eq (star_comm A B)
theorem Sat.r (h : Sat W (A * B) w) : Sat W B w := h.comm.l
theorem Sat.ex {α : Type} {P : α → HProp} (h : Sat W (ex P) w) : ∃ x, Sat W (P x) w :=
  let ⟨h1, x, hx, y, hy⟩ := h; ⟨y, h1, x, hx, hy⟩
theorem Sat.ex_intro {α : Type} {P : α → HProp} (x : α) (h : Sat W (P x) w) : Sat W (Sp.ex P) w :=
  let ⟨h1, y, hy, z⟩ := h; ⟨h1, y, hy, x, z⟩
theorem Sat.ex_l {α : Type} {P : α → HProp} (h : Sat W (Sp.ex P * A) w) : ∃ x, Sat W (P x * A) w := (h.of_eq (star_ex P A)).ex
theorem Sat.ex_l_intro {α : Type} {P : α → HProp} (x : α) (h : Sat W (P x * A) w) : Sat W (Sp.ex P * A) w :=
  Sat.of_eq (Sat.ex_intro (P := fun x => P x * A) x h) (star_ex P A).symm
theorem Sat.fact_l {p : Prop} (h : Sat W (fact p A * B) w) : p ∧ Sat W (A * B) w := by
  rw [star_fact] at h
  obtain ⟨h1, x, hx, hp, ha⟩ := h
  exact ⟨hp, h1, x, hx, ha⟩
theorem Sat.fact_l_intro {p : Prop} (hp : p) (h : Sat W (A * B) w) : Sat W (fact p A * B) w := by
  rw [star_fact]
  obtain ⟨h1, x, hx, ha⟩ := h
  exact ⟨h1, x, hx, hp, ha⟩
theorem Sat.rot (h : Sat W (A * (B * C)) w) : Sat W (B * (A * C)) w := h.of_eq (star_left_comm A B C)
theorem Sat.asc (h : Sat W (A * B * C) w) : Sat W (A * (B * C)) w := h.of_eq (star_assoc A B C)
theorem Sat.asc' (h : Sat W (A * (B * C)) w) : Sat W (A * B * C) w := h.of_eq (star_assoc A B C).symm
theorem Sat.imp_l (h : Sat W (A * C) w) (hA : ∀ x, A x → B x) : Sat W (B * C) w := h.imp (star_mono hA)

/-- What is said of the heap is kept where no block is lost. -/
theorem Sat.keep (h : Sat W A w) (he : w'.os = w.os ∧ w'.tape = w.tape ∧ w'.output = w.output) (hb : ∀ (k : Nat) (o : Obj), w.heap[k]? = some o → w'.heap[k]? = some o) : Sat W A w' := by
  obtain ⟨⟨h1, h2, h3⟩, x, hx, a⟩ := h
  exact ⟨⟨he.1.trans h1, he.2.1.trans h2, he.2.2.trans h3⟩, x, fun k o ho => hb k o (hx k o ho), a⟩

theorem Sat.drew (h : Sat W A w) : Sat W A w.drew := h.keep ⟨rfl, rfl, rfl⟩ fun _ _ h => h
theorem Sat.drewN (h : Sat W A w) {n : Nat} : Sat W A (w.drewN n) := by
  induction n with
  | zero => exact h
  | succ n ih => exact ih.drew

theorem heap_alloc_keep (w : World) (o : Obj) (k : Nat) (x : Obj) (h : w.heap[k]? = some x) : (w.alloc o).heap[k]? = some x := by
  have hk := (Array.getElem?_eq_some_iff.1 h).1
  rw [Below.heap_alloc w o k hk]; exact h

/-- A new block, not spoken of. -/
theorem Sat.allocD (h : Sat W A w) {o : Obj} : Sat W A (w.alloc o) := h.keep ⟨rfl, rfl, rfl⟩ (heap_alloc_keep w o)

/-- A new block. -/
theorem Sat.alloc (h : Sat W A w) (o : Obj) : Sat W (pts w.heap.size o * A) (w.alloc o) := by
  obtain ⟨h1, x, hx, a⟩ := h
  have hn : x w.heap.size = none := by
    cases hh : x w.heap.size with
    | none => rfl
    | some o' => have := hx _ _ hh; have := (Array.getElem?_eq_some_iff.1 this).1; omega
  refine ⟨h1, fun k => if k = w.heap.size then some o else x k, fun k o' ho => ?_, fun k => if k = w.heap.size then some o else none, x, fun k => ?_, fun k => ?_, ⟨by simp, fun k hk => by simp [hk]⟩, a⟩
  · by_cases hk : k = w.heap.size
    · subst hk; simp at ho; subst ho; exact Go.heap_alloc_new w _
    · simp [hk] at ho; exact heap_alloc_keep w o k o' (hx k o' ho)
  · by_cases hk : k = w.heap.size
    · subst hk; exact .inr hn
    · exact .inl (by simp [hk])
  · by_cases hk : k = w.heap.size <;> simp [hk]

theorem Sat.blk {b : Nat} {o : Obj} (h : Sat W (pts b o * A) w) : w.heap[b]? = some o := by
  obtain ⟨_, x, hx, hp⟩ := h.l
  exact hx b o hp.1
theorem Sat.blk1 {b : Nat} {o : Obj} (h : Sat W (pts b o) w) : w.heap[b]? = some o := by
  obtain ⟨_, x, hx, hp⟩ := h
  exact hx b o hp.1
theorem Sat.lt {b : Nat} {o : Obj} (h : Sat W (pts b o * A) w) : b < w.heap.size := (Array.getElem?_eq_some_iff.1 h.blk).1
theorem Sat.ne {b c : Nat} {o p : Obj} (h : Sat W (pts b o * (pts c p * A)) w) : b ≠ c := by
  rintro rfl
  obtain ⟨_, x, hx, a, r, hd, hu, ha, a2, r2, hd2, hu2, ha2, _⟩ := h
  have h1 := hd b
  rw [ha.1, hu2 b, ha2.1] at h1
  simp at h1
theorem Sat.cell {b i : Nat} {cs : Array Value} {e : TypeId} {f : Nat × Nat} {v : Value} (h : Sat W (pts b (.cells cs e f) * A) w) (hv : cs[i]? = some v) : w.cell? ⟨b, i, none⟩ = some v := by
  rw [cell_of_row w b i cs e f h.blk]; exact hv
theorem Sat.free {b i : Nat} {cs : Array Value} {e : TypeId} (h : Sat W (pts b (.cells cs e (0, 0)) * A) w) : w.frozen? ⟨b, i, none⟩ = false := by
  simp [World.frozen?, h.blk]

/-- One block is changed; the rest stays. -/
theorem Sat.upd {b : Nat} {o o' : Obj} (h : Sat W (pts b o * A) w) (he : w'.os = w.os ∧ w'.tape = w.tape ∧ w'.output = w.output)
    (hb : w'.heap[b]? = some o') (hk : ∀ (k : Nat) (x : Obj), k ≠ b → w.heap[k]? = some x → w'.heap[k]? = some x) : Sat W (pts b o' * A) w' := by
  obtain ⟨⟨h1, h2, h3⟩, x, hx, a, r, hd, hu, ha, hr⟩ := h
  refine ⟨⟨he.1.trans h1, he.2.1.trans h2, he.2.2.trans h3⟩, fun k => if k = b then some o' else x k, ?_, fun k => if k = b then some o' else none, r, ?_, ?_, ⟨by simp, fun k hk => by simp [hk]⟩, hr⟩
  · intro k y hy
    by_cases hkb : k = b
    · subst hkb; simp at hy; subst hy; exact hb
    · simp [hkb] at hy; exact hk k y hkb (hx k y hy)
  · intro k
    by_cases hkb : k = b
    · subst hkb; rcases hd k with h | h
      · rw [ha.1] at h; cases h
      · exact .inr h
    · exact .inl (by simp [hkb])
  · intro k
    by_cases hkb : k = b
    · subst hkb; simp
    · simp [hkb]; rw [hu k, ha.2 k hkb]; simp

theorem Sat.set {b i : Nat} {cs : Array Value} {e : TypeId} {f : Nat × Nat} {v : Value} (h : Sat W (pts b (.cells cs e f) * A) w) :
    Sat W (pts b (.cells (cs.setIfInBounds i v) e f) * A) (w.setCell ⟨b, i, none⟩ v) := by
  refine h.upd ⟨rfl, rfl, rfl⟩ ?_ ?_
  · simp only [World.setCell, Array.getElem?_modify]
    simp [h.blk]
  · intro k x hk hx
    rw [Below.heap_setCell w ⟨b, i, none⟩ v k hk]; exact hx

/-- Out of the heap in which the call began. -/
theorem Sat.own_blk {k : Nat} {o : Obj} (h : Sat W (own W) w) (hk : W.heap[k]? = some o) : w.heap[k]? = some o := by
  obtain ⟨_, x, hx, ho⟩ := h
  exact hx k o ((ho k).trans hk)
theorem Sat.own_cell {a : Addr} {v : Value} (h : Sat W (own W) w) (hc : W.cell? a = some v) : w.cell? a = some v := by
  have hk := World.block_lt_of_cell? W a hc
  have := h.own_blk (Array.getElem?_eq_getElem hk)
  rw [World.cell?_of_block (w := W) (w' := w) (by rw [this]; exact (Array.getElem?_eq_getElem hk).symm)]
  exact hc
theorem Sat.below (h : Sat W (own W) w) : Below W.heap.size W w := by
  refine ⟨h.1.1, h.1.2.1, h.1.2.2, ?_, fun k hk => ?_⟩
  · rcases Nat.eq_zero_or_pos W.heap.size with h0 | h0
    · omega
    · have := h.own_blk (k := W.heap.size - 1) (Array.getElem?_eq_getElem (by omega))
      have := (Array.getElem?_eq_some_iff.1 this).1
      omega
  · rw [h.own_blk (Array.getElem?_eq_getElem hk), Array.getElem?_eq_getElem hk]
theorem Sat.start (W : World) : Sat W (own W) W := ⟨⟨rfl, rfl, rfl⟩, fun k => W.heap[k]?, fun _ _ h => h, fun _ => rfl⟩
end

/-! ### Slices that the call made: 'row v n e size xs': n elements of size cells each lie at the head of a block. -/
def row (v : Value) (n : Nat) (e : TypeId) (size : Nat) (xs : List Value) : HProp := fun h =>
  xs.length = n * size ∧ ((v = .slice none 0 0 ∧ n = 0 ∧ emp h) ∨
    ∃ g cap cur, v = .slice (some ⟨g, 0, none⟩) n cap ∧ n ≤ cap ∧ cap ≤ maxLen ∧ cur.size = cap * size ∧ cur.toList.take (n * size) = xs ∧ pts g (.cells cur e (0, 0)) h)

section
variable {W w w' : World} {A : HProp} {v : Value} {n : Nat} {e : TypeId} {size : Nat} {xs : List Value}

theorem emp_star : emp * A = A := by
  refine HProp.ext fun x => ⟨?_, fun h => ⟨fun _ => none, x, fun _ => .inl rfl, fun _ => by simp, fun _ => rfl, h⟩⟩
  rintro ⟨a, b, _, hu, ha, hb⟩
  have : x = b := funext fun k => by rw [hu k, ha k]; simp
  exact this ▸ hb

theorem Sat.row_nil (h : Sat W A w) : Sat W (row (.slice none 0 0) 0 e size [] * A) w := by
  have h' : Sat W (emp * A) w := h.of_eq emp_star.symm
  exact h'.imp_l fun x hx => ⟨by simp, .inl ⟨rfl, rfl, hx⟩⟩

theorem Sat.row_cases (h : Sat W (row v n e size xs * A) w) : xs.length = n * size ∧ ((v = .slice none 0 0 ∧ n = 0 ∧ xs = [] ∧ Sat W A w) ∨
    ∃ g cap cur, v = .slice (some ⟨g, 0, none⟩) n cap ∧ n ≤ cap ∧ cap ≤ maxLen ∧ cur.size = cap * size ∧ cur.toList.take (n * size) = xs ∧ Sat W (pts g (.cells cur e (0, 0)) * A) w) := by
  obtain ⟨h1, x, hx, a, b, hd, hu, ⟨hl, ha⟩, hb⟩ := h
  refine ⟨hl, ?_⟩
  rcases ha with ⟨rfl, rfl, he⟩ | ⟨g, cap, cur, rfl, h2, h3, h4, h5, h6⟩
  · refine .inl ⟨rfl, rfl, List.eq_nil_of_length_eq_zero (by simpa using hl), h1, b, fun k o ho => hx k o ?_, hb⟩
    rw [hu k, he k]; simpa using ho
  · exact .inr ⟨g, cap, cur, rfl, h2, h3, h4, h5, h1, x, hx, a, b, hd, hu, h6, hb⟩

theorem Sat.row_mk {g cap : Nat} {cur : Array Value} (h : Sat W (pts g (.cells cur e (0, 0)) * A) w) (h2 : n ≤ cap) (h3 : cap ≤ maxLen) (h4 : cur.size = cap * size) (h5 : cur.toList.take (n * size) = xs) (hl : xs.length = n * size) :
    Sat W (row (.slice (some ⟨g, 0, none⟩) n cap) n e size xs * A) w :=
  h.imp_l fun _ hx => ⟨hl, .inr ⟨g, cap, cur, rfl, h2, h3, h4, h5, hx⟩⟩

/-- A block that is laid whole. -/
theorem Sat.row_whole {g : Nat} {cur : Array Value} (n : Nat) (h : Sat W (pts g (.cells cur e (0, 0)) * A) w) (h3 : n ≤ maxLen) (h4 : cur.size = n * size) :
    Sat W (row (.slice (some ⟨g, 0, none⟩) n n) n e size cur.toList * A) w :=
  h.row_mk (Nat.le_refl _) h3 h4 (by rw [← h4, ← Array.length_toList, List.take_length]) h4

theorem Sat.row_len (h : Sat W (row v n e size xs * A) w) : xs.length = n * size ∧ n ≤ maxLen := by
  obtain ⟨hl, h⟩ := h.row_cases
  refine ⟨hl, ?_⟩
  rcases h with ⟨_, rfl, _⟩ | ⟨_, _, _, _, h2, h3, _⟩
  · exact Nat.zero_le _
  · omega

/-- The value of an owned slice. -/
theorem Sat.row_val (h : Sat W (row v n e size xs * A) w) : ∃ a cap, v = .slice a n cap ∧ ∀ j u, xs[j]? = some u → ∃ g, a = some ⟨g, 0, none⟩ ∧ w.cell? ⟨g, j, none⟩ = some u := by
  obtain ⟨hl, h⟩ := h.row_cases
  rcases h with ⟨rfl, rfl, rfl, _⟩ | ⟨g, cap, cur, rfl, h2, h3, h4, h5, h6⟩
  · exact ⟨none, 0, rfl, by simp⟩
  · refine ⟨some ⟨g, 0, none⟩, cap, rfl, fun j u hu => ⟨g, rfl, h6.cell ?_⟩⟩
    rw [← h5, List.getElem?_take] at hu
    split at hu
    · simpa using hu
    · cases hu

theorem Sat.upd_row {g : Nat} {cur : Array Value} (h : Sat W (pts g (.cells cur e (0, 0)) * A) w) (cs : Array Value) : Sat W (pts g (.cells cs e (0, 0)) * A) (w.setRow g cs) :=
  h.upd ⟨rfl, rfl, rfl⟩ (setRow_heap w g cur cs e _ h.blk) fun k _ hk hx => by rw [setRow_other w g k cs hk]; exact hx

/-- append: what is appended lies at 'a'. -/
theorem Sat.run_append {P : Program} (t ty : TypeId) (i : TypeInfo) (z : Value) (bytes : Nat) (ht : P.underlying t = some (.slice e)) (hi : P.info? e = some i) (hz : i.zero = some z)
    (hsize : i.size = size) (hby : i.bytes = bytes) (hzs : z.cells.size = size)
    (h : Sat W (row v n e size xs * A) w)
    (a : Addr) (m c : Nat) (news : List Value) (hl : news.length = m * size) (hnews : ∀ j u, news[j]? = some u → w.cell? (a.add j) = some u) (h1 : ∀ u ∈ news, u.oneCell' = true)
    (h63 : n + m ≤ maxLen) (hbytes : (n + m) * bytes ≤ 140737488355328) :
    ∃ v' w', (Builtin.append_ #[t, t] ty #[v, .slice (some a) m c]).run P w = .ok v' w' ∧ Sat W (row v' (n + m) e size (xs ++ news) * A) w' ∧
      (v' = .slice none 0 0 ↔ v = .slice none 0 0 ∧ m = 0) := by
  subst hsize
  subst hby
  have hsmall : n + m ≤ 9223372036854775807 := by simp only [maxLen] at h63; omega
  obtain ⟨hxl, hc⟩ := h.row_cases
  have hlen : (xs ++ news).length = (n + m) * i.size := by rw [List.length_append, hxl, hl, Nat.add_mul]
  have grown : Sat W A w → ∀ (old : Nat), Sat W (row (.slice (some ⟨w.heap.size, 0, none⟩) (n + m) (grownCap w (n + m) old e)) (n + m) e i.size (xs ++ news) * A)
      (w.drew.alloc (.cells (xs.toArray ++ news.toArray ++ Builtin.zeroCells z.cells (grownCap w (n + m) old e - (n + m))) e)) := by
    intro hA old
    have hge := grownCap_ge w (n + m) old e
    have hcm : grownCap w (n + m) old e ≤ maxLen := grownCap_le_maxLen w (n + m) old e h63
    refine Sat.row_mk (hA.drew.alloc _) hge hcm ?_ ?_ hlen
    · simp only [Array.size_append, List.size_toArray, size_zeroCells, hzs, hxl, hl, ← Nat.add_mul]
      congr 1
      omega
    · simp only [Array.toList_append, List.append_assoc]
      rw [← List.append_assoc, ← hlen]
      exact List.take_left
  rcases hc with ⟨rfl, rfl, rfl, hA⟩ | ⟨g, cap, cur, rfl, hnc, hcm, hcs, htake, hA⟩
  · by_cases hm : m = 0
    · subst hm
      have hn : news = [] := List.eq_nil_of_length_eq_zero (by simpa using hl)
      subst hn
      refine ⟨.slice none 0 0, w, ?_, hA.row_nil, by simp⟩
      simp [Builtin.append_, run_underlying ht, sizeOf, typeInfo, hi, Builtin.lenOf, Builtin.firstCells, loadCells, loadCellsFrom]
    · have hr := run_append_nil (P := P) w t ty e i z ht hi hz a m c news hl hnews (by omega) (by omega) (by have hb := hbytes; simp only [Nat.zero_add] at hb; omega)
      have hgr := grown hA 0
      simp only [Nat.zero_add, List.nil_append, Array.empty_append] at hgr ⊢
      exact ⟨_, _, hr, hgr, by simp [hm]⟩
  · by_cases hroom : n + m ≤ cap
    · have hfit : n * i.size + news.length ≤ cur.size := by rw [hl, hcs, ← Nat.add_mul]; exact Nat.mul_le_mul_right _ hroom
      have hr := run_append_room (P := P) w t ty e i ht hi g n cap cur hA.blk a m c news hl hnews h1 hroom hfit
      refine ⟨_, _, hr, Sat.row_mk (hA.upd_row _) hroom hcm ?_ ?_ hlen, by simp⟩
      · simp only [List.size_toArray, List.length_append, List.length_take, List.length_drop, Array.length_toList]
        omega
      · rw [htake, ← hlen]
        exact List.take_left
    · have holds : ∀ j u, xs[j]? = some u → w.cell? ((⟨g, 0, none⟩ : Addr).add j) = some u := by
        intro j u hu
        obtain ⟨a', c', ev, hh⟩ := h.row_val
        obtain ⟨g', e', hcell⟩ := hh j u hu
        simp only [Value.slice.injEq] at ev
        obtain ⟨ev, _, _⟩ := ev
        rw [← ev] at e'
        simp only [Option.some.injEq, Addr.mk.injEq] at e'
        obtain ⟨rfl, _, _⟩ := e'
        rw [Addr.add_lit]; simpa using hcell
      have hr := run_append_grow (P := P) w t ty e i z ht hi hz ⟨g, 0, none⟩ n cap xs hxl holds a m c news hl hnews (by omega) (by omega) (growslice_fits (by omega) hbytes)
      exact ⟨_, _, hr, grown hA.r cap, by simp⟩

theorem wpList_append_sep {P : Program} {ops : Array Oper} {rest : List Oper} {o : Oper} {ac : Act} {Q : Exit → Act → World → Prop} (hgd : o.guard = none) (s x : Operand) (t : TypeId)
    (ho : o.op = .call { callee := .builtin .append, args := #[s, x], argTypes := #[t, t] })
    (i : TypeInfo) (z : Value) (bytes : Nat) (ht : P.underlying t = some (.slice e)) (hi : P.info? e = some i) (hz : i.zero = some z)
    (hsize : i.size = size) (hby : i.bytes = bytes) (hzs : z.cells.size = size)
    (hs : ac.eval s = v) (h : Sat W (row v n e size xs * A) w)
    (a : Addr) (m c : Nat) (news : List Value) (hx : ac.eval x = .slice (some a) m c) (hl : news.length = m * size) (hnews : ∀ j u, news[j]? = some u → w.cell? (a.add j) = some u) (h1 : ∀ u ∈ news, u.oneCell' = true)
    (h63 : n + m ≤ maxLen) (hbytes : (n + m) * bytes ≤ 140737488355328)
    (hK : ∀ v' w', Sat W (row v' (n + m) e size (xs ++ news) * A) w' → wpList P ops Q rest (ac.put o.dst v') w') : wpList P ops Q (o :: rest) ac w := by
  refine wpList_plain hgd fun K hK' => ?_
  obtain ⟨v', w', hrun, r1, _⟩ := Sat.run_append (P := P) t o.type i z bytes ht hi hz hsize hby hzs h a m c news hl hnews h1 h63 hbytes
  unfold Oper.wp
  simp [execOp, ho, resolve, invoke, builtin, hs, hx, hrun, Result.andThen]
  exact hK' _ _ (hK v' w' r1)

theorem Sat.row_set {g cap i : Nat} {u : Value} (h : Sat W (row (.slice (some ⟨g, 0, none⟩) n cap) n e size xs * A) w) :
    Sat W (row (.slice (some ⟨g, 0, none⟩) n cap) n e size (xs.set i u) * A) (w.setCell ⟨g, i, none⟩ u) := by
  obtain ⟨hl, h⟩ := h.row_cases
  rcases h with ⟨h0, _⟩ | ⟨g', cap', cur, h1, h2, h3, h4, h5, h6⟩
  · simp at h0
  · simp only [Value.slice.injEq, Option.some.injEq, Addr.mk.injEq, true_and, and_true] at h1
    obtain ⟨rfl, rfl⟩ := h1
    refine Sat.row_mk h6.set h2 h3 (by simpa using h4) ?_ (by simpa using hl)
    rw [← h5, Array.toList_setIfInBounds, List.take_set]

/-- the elements of an owned slice, by its address -/
theorem Sat.row_cell {g cap j : Nat} {u : Value} (h : Sat W (row (.slice (some ⟨g, 0, none⟩) n cap) n e size xs * A) w) (hj : xs[j]? = some u) : w.cell? ⟨g, j, none⟩ = some u := by
  obtain ⟨a, c, h1, h2⟩ := h.row_val
  obtain ⟨g', h3, h4⟩ := h2 j u hj
  simp only [Value.slice.injEq] at h1
  rw [h3] at h1
  simp only [Option.some.injEq, Addr.mk.injEq, and_true, true_and] at h1
  rw [h1.1]; exact h4

theorem Sat.row_free {g cap i : Nat} (h : Sat W (row (.slice (some ⟨g, 0, none⟩) n cap) n e size xs * A) w) : w.frozen? ⟨g, i, none⟩ = false := by
  obtain ⟨_, h⟩ := h.row_cases
  rcases h with ⟨h0, _⟩ | ⟨g', cap', cur, h1, h2, h3, h4, h5, h6⟩
  · simp at h0
  · simp only [Value.slice.injEq, Option.some.injEq, Addr.mk.injEq, true_and, and_true] at h1
    obtain ⟨rfl, rfl⟩ := h1
    exact h6.free

/-- a shorter slice of the same block -/
theorem Sat.row_take {g cap m : Nat} (h : Sat W (row (.slice (some ⟨g, 0, none⟩) n cap) n e size xs * A) w) (hm : m ≤ n) :
    Sat W (row (.slice (some ⟨g, 0, none⟩) m cap) m e size (xs.take (m * size)) * A) w := by
  obtain ⟨hl, h⟩ := h.row_cases
  have hms : m * size ≤ n * size := Nat.mul_le_mul_right _ hm
  rcases h with ⟨h0, _⟩ | ⟨g', cap', cur, h1, h2, h3, h4, h5, h6⟩
  · simp at h0
  · simp only [Value.slice.injEq, Option.some.injEq, Addr.mk.injEq, true_and, and_true] at h1
    obtain ⟨rfl, rfl⟩ := h1
    refine Sat.row_mk h6 (Nat.le_trans hm h2) h3 h4 ?_ (by rw [List.length_take]; omega)
    rw [← h5, List.take_take, Nat.min_eq_left hms]
end

/-- the cells of a block that was just laid -/
theorem new_cells (w : World) (cs : Array Value) (e : TypeId) : ∀ (j : Nat) (u : Value), cs.toList[j]? = some u → (w.alloc (.cells cs e)).cell? ((⟨w.heap.size, 0, none⟩ : Addr).add j) = some u := by
  intro j u hu
  rw [Addr.add_lit, Nat.zero_add, World.cell?_alloc_new]
  simpa using hu

/-! ### Slices that are read: 'Rd w v n size xs': in w the slice v has n elements of size cells each, and they are xs. -/
def Rd (w : World) (v : Value) (n size : Nat) (xs : List Value) : Prop :=
  xs.length = n * size ∧ n ≤ maxLen ∧ ∃ a cap, v = .slice a n cap ∧ ∀ j u, xs[j]? = some u → ∃ b off, a = some ⟨b, off, none⟩ ∧ w.cell? ⟨b, off + j, none⟩ = some u

theorem Rd.drewN {w : World} {v : Value} {n size : Nat} {xs : List Value} (h : Rd w v n size xs) (q : Nat) : Rd (w.drewN q) v n size xs := by
  obtain ⟨h1, h2, a, cap, h3, h4⟩ := h
  exact ⟨h1, h2, a, cap, h3, fun j u hu => let ⟨b, off, e, c⟩ := h4 j u hu; ⟨b, off, e, by simpa using c⟩⟩

theorem Rd.keep {w w' : World} {v : Value} {n size : Nat} {xs : List Value} (h : Rd w v n size xs) (hk : ∀ a u, w.cell? a = some u → w'.cell? a = some u) : Rd w' v n size xs := by
  obtain ⟨h1, h2, a, cap, h3, h4⟩ := h
  exact ⟨h1, h2, a, cap, h3, fun j u hu => let ⟨b, off, e, c⟩ := h4 j u hu; ⟨b, off, e, hk _ _ c⟩⟩

theorem Sat.rd {W w : World} {A : HProp} {v : Value} {n : Nat} {e : TypeId} {size : Nat} {xs : List Value} (h : Sat W (row v n e size xs * A) w) : Rd w v n size xs := by
  obtain ⟨h1, h2⟩ := h.row_len
  obtain ⟨a, cap, h3, h4⟩ := h.row_val
  exact ⟨h1, h2, a, cap, h3, fun j u hu => let ⟨g, e, c⟩ := h4 j u hu; ⟨g, 0, e, by simpa using c⟩⟩

/-- Its head, where there is an element. -/
theorem Rd.head {w : World} {v : Value} {n size : Nat} {xs : List Value} (h : Rd w v n size xs) (hn : 0 < n) (hs : 0 < size) :
    ∃ b off cap, v = .slice (some ⟨b, off, none⟩) n cap ∧ ∀ j u, xs[j]? = some u → w.cell? ⟨b, off + j, none⟩ = some u := by
  obtain ⟨h1, h2, a, cap, h3, h4⟩ := h
  have hp : 0 < xs.length := by rw [h1]; exact Nat.mul_pos hn hs
  obtain ⟨b, off, rfl, _⟩ := h4 0 xs[0] (by simp [hp])
  refine ⟨b, off, cap, h3, fun j u hu => ?_⟩
  obtain ⟨b', off', e, c⟩ := h4 j u hu
  cases e
  exact c

/-- A slice of integers of one kind. -/
def RdI (w : World) (k : IntKind) (v : Value) (xs : List Int) : Prop := Rd w v xs.length 1 (xs.map (Value.int k))

theorem RdI.drewN {w : World} {k : IntKind} {v : Value} {xs : List Int} (h : RdI w k v xs) (q : Nat) : RdI (w.drewN q) k v xs := Rd.drewN h q
theorem RdI.le {w : World} {k : IntKind} {v : Value} {xs : List Int} (h : RdI w k v xs) : xs.length ≤ 9223372036854775807 := h.2.1
theorem RdI.head {w : World} {k : IntKind} {v : Value} {xs : List Int} (h : RdI w k v xs) (hn : 0 < xs.length) :
    ∃ b off cap, v = .slice (some ⟨b, off, none⟩) xs.length cap ∧ ∀ j, j < xs.length → w.cell? ⟨b, off + j, none⟩ = some (.int k (xs.getD j 0)) := by
  obtain ⟨b, off, cap, h1, h2⟩ := Rd.head h hn (by omega)
  exact ⟨b, off, cap, h1, fun j hj => h2 j _ (by simp [hj, List.getD])⟩
theorem RdI.val {w : World} {k : IntKind} {v : Value} {xs : List Int} (h : RdI w k v xs) : ∃ a cap, v = .slice a xs.length cap := by
  obtain ⟨_, _, a, cap, h3, _⟩ := h
  exact ⟨a, cap, h3⟩

theorem take_eq_succ {xs ys : List Int} {k : Nat} (h : xs.take k = ys.take k) (hx : k < xs.length) (hy : k < ys.length) (he : xs.getD k 0 = ys.getD k 0) : xs.take (k + 1) = ys.take (k + 1) := by
  rw [List.take_succ_eq_append_getElem hx, List.take_succ_eq_append_getElem hy, h]
  simp [List.getD, hx, hy] at he
  rw [he]

/-! ### What a call that only reads and makes leaves: all blocks are as they were, there may be more. -/
def Ext (w w' : World) : Prop := (w'.os = w.os ∧ w'.tape = w.tape ∧ w'.output = w.output) ∧ ∀ (k : Nat) (o : Obj), w.heap[k]? = some o → w'.heap[k]? = some o

section
variable {W w w' w'' : World} {A : HProp}
theorem Ext.refl (w : World) : Ext w w := ⟨⟨rfl, rfl, rfl⟩, fun _ _ h => h⟩
theorem Ext.trans (h : Ext w w') (k : Ext w' w'') : Ext w w'' :=
  ⟨⟨k.1.1.trans h.1.1, k.1.2.1.trans h.1.2.1, k.1.2.2.trans h.1.2.2⟩, fun i o ho => k.2 i o (h.2 i o ho)⟩
theorem Ext.drew (h : Ext w w') : Ext w w'.drew := h.trans ⟨⟨rfl, rfl, rfl⟩, fun _ _ h => h⟩
theorem drewN_ext (w : World) (n : Nat) : Ext w (w.drewN n) := by
  induction n with
  | zero => exact Ext.refl w
  | succ n ih => exact ih.drew
theorem Ext.drewN (h : Ext w w') {n : Nat} : Ext w (w'.drewN n) := h.trans (drewN_ext w' n)
theorem Ext.alloc (h : Ext w w') {o : Obj} : Ext w (w'.alloc o) := h.trans ⟨⟨rfl, rfl, rfl⟩, heap_alloc_keep w' o⟩
theorem Sat.ext (h : Sat W A w) (k : Ext w w') : Sat W A w' := h.keep k.1 k.2
theorem Ext.cell (h : Ext w w') {a : Addr} {v : Value} (hc : w.cell? a = some v) : w'.cell? a = some v := by
  have hk := World.block_lt_of_cell? w a hc
  have := h.2 _ _ (Array.getElem?_eq_getElem hk)
  rw [World.cell?_of_block (w := w) (w' := w') (by rw [this]; exact (Array.getElem?_eq_getElem hk).symm)]
  exact hc
theorem Ext.free (h : Ext w w') {a : Addr} (hk : a.block < w.heap.size) (hc : w.frozen? a = false) : w'.frozen? a = false := by
  have := h.2 _ _ (Array.getElem?_eq_getElem hk)
  rw [World.frozen?_of_block (w := w) (w' := w') (by rw [this]; exact (Array.getElem?_eq_getElem hk).symm)]
  exact hc
theorem Ext.lt (h : Ext w w') {b : Nat} (hb : b < w.heap.size) : b < w'.heap.size :=
  (Array.getElem?_eq_some_iff.1 (h.2 _ _ (Array.getElem?_eq_getElem hb))).1
theorem Ext.le (h : Ext w w') : w.heap.size ≤ w'.heap.size := by
  rcases Nat.eq_zero_or_pos w.heap.size with h0 | h0
  · omega
  · have := h.lt (b := w.heap.size - 1) (by omega)
    omega
theorem Rd.ext {v : Value} {n size : Nat} {xs : List Value} (h : Rd w v n size xs) (k : Ext w w') : Rd w' v n size xs := h.keep fun _ _ hc => k.cell hc
/-- out of what a part of the heap says -/
theorem Sat.rdF {v : Value} {n : Nat} {e : TypeId} {size : Nat} {xs : List Value} {B : HProp} (h : Sat W (B * (row v n e size xs * A)) w) : Rd w v n size xs := h.rot.rd
end

section
variable {W w w' : World} {A F B : HProp}
theorem Sat.toExt (h : Sat w (own w) w') : Ext w w' := ⟨h.1, fun _ _ hk => h.own_blk hk⟩
theorem Sat.extR (h : Sat w (A * own w) w') : Ext w w' := h.r.toExt
theorem Ext.toSat (h : Ext w w') : Sat w (own w) w' := ⟨h.1, fun k => w.heap[k]?, h.2, fun _ => rfl⟩

/-- What a call that changes nothing leaves, in any frame. -/
theorem Sat.frame (hF : Sat W F w) (h : Sat w (A * own w) w') : Sat W (A * F) w' := by
  obtain ⟨⟨e1, e2, e3⟩, x, hx, hf⟩ := hF
  obtain ⟨⟨g1, g2, g3⟩, y, hy, a, o, hd, hu, ha, ho⟩ := h
  refine ⟨⟨g1.trans e1, g2.trans e2, g3.trans e3⟩, fun k => (a k).or (x k), fun k b (hk : (a k).or (x k) = some b) => ?_, a, x, fun k => ?_, fun _ => rfl, ha, hf⟩
  · cases hak : a k with
    | none =>
      rw [hak] at hk
      have h1 : x k = some b := by simpa using hk
      refine hy k b ?_
      rw [hu k, hak, ho k, hx k b h1]; rfl
    | some c =>
      rw [hak] at hk
      refine hy k b ?_
      rw [hu k, hak]; simpa using hk
  · rcases hd k with h1 | h1
    · exact .inl h1
    · rw [ho k] at h1
      cases hxk : x k with
      | none => exact .inr rfl
      | some c => rw [hx k c hxk] at h1; cases h1
end
end Go.Sp
