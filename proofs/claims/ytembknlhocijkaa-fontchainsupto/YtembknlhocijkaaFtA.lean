
/-
  A font as it is handed in: its numbers, and its five lists, read. Conditions: none.
-/
import Derived.Test.YtembknlhocijkaaSep
import Derived.Test.YtembknlhocijkaaRows
import Derived.Test.YtembknlhocijkaaTail
namespace Go.Proofs.Ytembknlhocijkaa
open Go.RowKit Go.Sp

structure Met where
  (w h d i tag rest : Int)
  deriving DecidableEq
structure Stp where
  (skip next op rest : UInt8)
  deriving DecidableEq
structure Pce where
  (a b c d : UInt8)
  deriving DecidableEq
structure Fnt where
  (check design first : Int)
  (chars : List Met)
  (steps : List Stp)
  (kerns : List Int)
  (pieces : List Pce)
  (params : List Int)

def Met.cells (m : Met) : List Value := [.int .i64 m.w, .int .i64 m.h, .int .i64 m.d, .int .i64 m.i, .int .i64 m.tag, .int .i64 m.rest]
abbrev Met.val (m : Met) : Value := .agg #[.int .i64 m.w, .int .i64 m.h, .int .i64 m.d, .int .i64 m.i, .int .i64 m.tag, .int .i64 m.rest]
abbrev Met.box (m : Met) : Obj := .cells #[.int .i64 m.w, .int .i64 m.h, .int .i64 m.d, .int .i64 m.i, .int .i64 m.tag, .int .i64 m.rest] 41
def met0 : Met := ⟨0, 0, 0, 0, 0, 0⟩
def Stp.cells (s : Stp) : List Value := [.int .u8 s.skip.toNat, .int .u8 s.next.toNat, .int .u8 s.op.toNat, .int .u8 s.rest.toNat]
abbrev Stp.val (s : Stp) : Value := .agg #[.int .u8 s.skip.toNat, .int .u8 s.next.toNat, .int .u8 s.op.toNat, .int .u8 s.rest.toNat]
abbrev Stp.box (s : Stp) : Obj := .cells #[.int .u8 s.skip.toNat, .int .u8 s.next.toNat, .int .u8 s.op.toNat, .int .u8 s.rest.toNat] 64
def Pce.cells (s : Pce) : List Value := [.int .u8 s.a.toNat, .int .u8 s.b.toNat, .int .u8 s.c.toNat, .int .u8 s.d.toNat]
abbrev Pce.val (s : Pce) : Value := .agg #[.int .u8 s.a.toNat, .int .u8 s.b.toNat, .int .u8 s.c.toNat, .int .u8 s.d.toNat]
def intC (x : Int) : List Value := [.int .i64 x]
def byteC (x : UInt8) : List Value := [.int .u8 x.toNat]

/-! ### lists of things of n cells each -/
section
variable {α : Type} {f : α → List Value} {n : Nat}
theorem flatMap_len (hf : ∀ x, (f x).length = n) (L : List α) : (L.flatMap f).length = L.length * n := by
  induction L with
  | nil => simp
  | cons x L ih => rw [List.flatMap_cons, List.length_append, hf, ih, List.length_cons, Nat.add_mul]; omega
theorem flatMap_get (hf : ∀ x, (f x).length = n) (L : List α) : ∀ (i j : Nat) (v : Value) (h : i < L.length), (f L[i])[j]? = some v → (L.flatMap f)[i * n + j]? = some v := by
  induction L with
  | nil => intro i j v h; simp at h
  | cons x L ih =>
    intro i j v h hv
    cases i with
    | zero =>
      have hj : j < (f x).length := (List.getElem?_eq_some_iff.1 hv).1
      rw [List.flatMap_cons, List.getElem?_append_left (by simpa using hj)]
      simpa using hv
    | succ i =>
      rw [List.flatMap_cons, List.getElem?_append_right (by rw [hf, Nat.add_mul]; omega), hf]
      rw [show (i + 1) * n + j - n = i * n + j by rw [Nat.add_mul]; omega]
      exact ih i j v (by simpa using h) (by simpa using hv)
theorem flatMap_take (hf : ∀ x, (f x).length = n) (L : List α) (k : Nat) : (L.take k).flatMap f = (L.flatMap f).take (k * n) := by
  induction L generalizing k with
  | nil => simp
  | cons x L ih =>
    cases k with
    | zero => simp
    | succ k =>
      rw [List.take_succ_cons, List.flatMap_cons, List.flatMap_cons, ih, List.take_append, hf, List.take_of_length_le (l := f x) (by rw [hf, Nat.add_mul]; omega)]
      congr 2
      rw [Nat.add_mul]; omega
theorem flatMap_drop (hf : ∀ x, (f x).length = n) (L : List α) (k : Nat) : (L.drop k).flatMap f = (L.flatMap f).drop (k * n) := by
  induction L generalizing k with
  | nil => simp
  | cons x L ih =>
    cases k with
    | zero => simp
    | succ k =>
      rw [List.drop_succ_cons, List.flatMap_cons, ih, List.drop_append, hf, show List.drop ((k + 1) * n) (f x) = [] from List.drop_eq_nil_of_le (by rw [hf, Nat.add_mul]; omega), List.nil_append]
      congr 1
      rw [Nat.add_mul]; omega
theorem flatMap_one (h1 : ∀ x, ∀ u ∈ f x, u.oneCell' = true) (L : List α) : ∀ u ∈ L.flatMap f, u.oneCell' = true := by
  intro u hu
  obtain ⟨t, _, h⟩ := List.mem_flatMap.1 hu
  exact h1 t u h
end

theorem met_len (x : Met) : x.cells.length = 6 := rfl
theorem stp_len (x : Stp) : x.cells.length = 4 := rfl
theorem pce_len (x : Pce) : x.cells.length = 4 := rfl
theorem int_len (x : Int) : (intC x).length = 1 := rfl
theorem byte_len (x : UInt8) : (byteC x).length = 1 := rfl

/-- In w the slice v is the list L, whose elements have n cells each. -/
def RdL {α : Type} (f : α → List Value) (n : Nat) (w : World) (v : Value) (L : List α) : Prop :=
  Rd w v L.length n (L.flatMap f) ∧ ∃ a cap, v = .slice a L.length cap ∧ L.length ≤ cap

section
variable {α : Type} {f : α → List Value} {n : Nat} {w w' : World} {v : Value} {L : List α}
theorem RdL.ext (h : RdL f n w v L) (k : Ext w w') : RdL f n w' v L := ⟨Rd.ext h.1 k, h.2⟩
theorem RdL.le (h : RdL f n w v L) : L.length ≤ 9223372036854775807 := h.1.2.1
theorem RdL.le2 (h : RdL f n w v L) : L.length ≤ maxLen := h.1.2.1
theorem RdL.at {a : Option Addr} {m cap i : Nat} (hf : ∀ x, (f x).length = n) (h0 : 0 < n) (h : RdL f n w (.slice a m cap) L) (hi : i < L.length) :
    ∃ b off, a = some ⟨b, off, none⟩ ∧ (∀ j u, (f L[i])[j]? = some u → w.cell? ⟨b, off + i * n + j, none⟩ = some u) ∧ b < w.heap.size := by
  obtain ⟨b, off, cap', hv, hc⟩ := Rd.head h.1 (by omega) h0
  simp only [Value.slice.injEq] at hv
  obtain ⟨rfl, _, _⟩ := hv
  have key : ∀ j u, (f L[i])[j]? = some u → w.cell? ⟨b, off + i * n + j, none⟩ = some u := fun j u hu => by
    have := hc (i * n + j) u (flatMap_get hf L i j u hi hu)
    rwa [← Nat.add_assoc] at this
  refine ⟨b, off, rfl, key, ?_⟩
  have h1 : 0 < (f L[i]).length := by rw [hf]; exact h0
  exact World.block_lt_of_cell? w _ (key 0 _ (List.getElem?_eq_getElem h1))
theorem RdL.val (h : RdL f n w v L) : ∃ a cap, v = .slice a L.length cap ∧ L.length ≤ cap := h.2
theorem RdL.empty (w : World) (a : Option Addr) (cap : Nat) : RdL f n w (.slice a 0 cap) [] := ⟨⟨by simp, Nat.zero_le _, a, cap, rfl, fun j u hu => by simp at hu⟩, a, cap, rfl, Nat.zero_le _⟩
end
theorem MetAt.mk' {w : World} {b o : Nat} {m : Met} (h : ∀ j u, m.cells[j]? = some u → w.cell? ⟨b, o + j, none⟩ = some u) :
    w.cell? ⟨b, o, none⟩ = some (.int .i64 m.w) ∧ w.cell? ⟨b, o + 1, none⟩ = some (.int .i64 m.h) ∧ w.cell? ⟨b, o + 2, none⟩ = some (.int .i64 m.d) ∧ w.cell? ⟨b, o + 3, none⟩ = some (.int .i64 m.i) ∧ w.cell? ⟨b, o + 4, none⟩ = some (.int .i64 m.tag) ∧ w.cell? ⟨b, o + 5, none⟩ = some (.int .i64 m.rest) :=
  ⟨h 0 _ rfl, h 1 _ rfl, h 2 _ rfl, h 3 _ rfl, h 4 _ rfl, h 5 _ rfl⟩
theorem StpAt.mk' {w : World} {b o : Nat} {m : Stp} (h : ∀ j u, m.cells[j]? = some u → w.cell? ⟨b, o + j, none⟩ = some u) :
    w.cell? ⟨b, o, none⟩ = some (.int .u8 m.skip.toNat) ∧ w.cell? ⟨b, o + 1, none⟩ = some (.int .u8 m.next.toNat) ∧ w.cell? ⟨b, o + 2, none⟩ = some (.int .u8 m.op.toNat) ∧ w.cell? ⟨b, o + 3, none⟩ = some (.int .u8 m.rest.toNat) :=
  ⟨h 0 _ rfl, h 1 _ rfl, h 2 _ rfl, h 3 _ rfl⟩
theorem PceAt.mk' {w : World} {b o : Nat} {m : Pce} (h : ∀ j u, m.cells[j]? = some u → w.cell? ⟨b, o + j, none⟩ = some u) :
    w.cell? ⟨b, o, none⟩ = some (.int .u8 m.a.toNat) ∧ w.cell? ⟨b, o + 1, none⟩ = some (.int .u8 m.b.toNat) ∧ w.cell? ⟨b, o + 2, none⟩ = some (.int .u8 m.c.toNat) ∧ w.cell? ⟨b, o + 3, none⟩ = some (.int .u8 m.d.toNat) :=
  ⟨h 0 _ rfl, h 1 _ rfl, h 2 _ rfl, h 3 _ rfl⟩

/-- the values of a font's five lists -/
structure FV where
  (cv sv kv pv rv : Value)
def Fnt.cs (F : Fnt) (x : FV) : Array Value := #[.int .u32 F.check, .int .i64 F.design, .int .i64 F.first, x.cv, x.sv, x.kv, x.pv, x.rv]
abbrev Fnt.val (F : Fnt) (x : FV) : Value := .agg #[.int .u32 F.check, .int .i64 F.design, .int .i64 F.first, x.cv, x.sv, x.kv, x.pv, x.rv]
abbrev Fnt.box (F : Fnt) (x : FV) : Obj := .cells #[.int .u32 F.check, .int .i64 F.design, .int .i64 F.first, x.cv, x.sv, x.kv, x.pv, x.rv] 35

def In64 (x : Int) : Prop := -9223372036854775808 ≤ x ∧ x ≤ 9223372036854775807
/-- In w the lists are those of the font. -/
structure RdF (w : World) (x : FV) (F : Fnt) : Prop where
  rc : RdL Met.cells 6 w x.cv F.chars
  rs : RdL Stp.cells 4 w x.sv F.steps
  rk : RdL intC 1 w x.kv F.kerns
  rp : RdL Pce.cells 4 w x.pv F.pieces
  rr : RdL intC 1 w x.rv F.params
  ir : ∀ m ∈ F.chars, In64 m.rest
  lc : F.chars.length ≤ 1048576
  ls : F.steps.length ≤ 1048576
  lk : F.kerns.length ≤ 1048576
  lp : F.pieces.length ≤ 1048576
  lr : F.params.length ≤ 1048576
theorem RdF.ext {w w' : World} {x : FV} {F : Fnt} (h : RdF w x F) (k : Ext w w') : RdF w' x F :=
  ⟨h.rc.ext k, h.rs.ext k, h.rk.ext k, h.rp.ext k, h.rr.ext k, h.ir, h.lc, h.ls, h.lk, h.lp, h.lr⟩
theorem RdF.vals {w : World} {x : FV} {F : Fnt} (h : RdF w x F) : ∃ ca cc sa sc ka kc pa pc ra rc, x = ⟨.slice ca F.chars.length cc, .slice sa F.steps.length sc, .slice ka F.kerns.length kc, .slice pa F.pieces.length pc, .slice ra F.params.length rc⟩ ∧ F.params.length ≤ rc := by
  obtain ⟨c, s, k, p, r⟩ := x
  obtain ⟨ca, cc, h1, -⟩ := h.rc.val
  obtain ⟨sa, sc, h2, -⟩ := h.rs.val
  obtain ⟨ka, kc, h3, -⟩ := h.rk.val
  obtain ⟨pa, pc, h4, -⟩ := h.rp.val
  obtain ⟨ra, rc, h5, h6⟩ := h.rr.val
  simp only at h1 h2 h3 h4 h5
  subst h1 h2 h3 h4 h5
  exact ⟨_, _, _, _, _, _, _, _, _, _, rfl, h6⟩

/-! ### what the program computes of a font -/
def fixB (x : Int) : Bool := decide (-16777216 ≤ x) && decide (x < 16777216)
def fixesB (l : List Int) : Bool := l.all fixB
/-- the place of a character that is there -/
def thereM (F : Fnt) (c : Int) : Option Nat :=
  if c - F.first < 0 then none else
    match F.chars[(c - F.first).toNat]? with
    | none => none
    | some m => if m.tag < 0 ∨ m.tag > 3 then none else some (c - F.first).toNat
def edgeM (F : Fnt) : Int :=
  match F.steps with
  | [] => -1
  | s :: _ => if s.skip = 255 then s.next.toNat else -1
def metM (F : Fnt) (k : Nat) : Met := F.chars.getD k met0
def chainB (F : Fnt) : Nat → Int → Bool
  | 0, _ => false
  | n + 1, c =>
    match thereM F c with
    | none => false
    | some k => if (metM F k).tag = 2 then chainB F n (metM F k).rest else true
def charB (F : Fnt) (m : Met) : Bool :=
  if m.tag = -1 then decide (m = ⟨0, 0, 0, 0, -1, 0⟩) else
  if !(fixB m.w && fixB m.h && fixB m.d && fixB m.i) then false else
  if m.tag = 0 then decide (m.rest = 0) else
  if m.tag = 1 then decide (0 ≤ m.rest) && decide (m.rest < F.steps.length) else
  if m.tag = 2 then chainB F (F.chars.length + 1) m.rest else
  if m.tag = 3 then decide (0 ≤ m.rest) && decide (m.rest < F.pieces.length) else false
def far (s : Stp) : Int := 256 * s.op.toNat + s.rest.toNat
def stepB (F : Fnt) (i : Nat) (s : Stp) : Bool :=
  if 128 < s.skip.toNat then (decide (s.skip.toNat = 255) && decide (i = 0)) || decide (far s < F.steps.length) else
  if (thereM F s.next.toNat).isNone && decide ((s.next.toNat : Int) ≠ edgeM F) then false else
  if decide (s.skip.toNat < 128) && decide (F.steps.length ≤ i + s.skip.toNat + 1) then false else
  if 128 ≤ s.op.toNat then decide (256 * ((s.op.toNat : Int) - 128) + s.rest.toNat < F.kerns.length) else
  (thereM F s.rest.toNat).isSome
def pceGood (F : Fnt) (c : UInt8) (last : Bool) : Bool := (thereM F c.toNat).isSome || (!last && decide (c.toNat = 0))
def pceB (F : Fnt) (p : Pce) : Bool := pceGood F p.a false && pceGood F p.b false && pceGood F p.c false && pceGood F p.d true
def h1B (F : Fnt) : Bool := decide (1048576 ≤ F.design) && (decide (F.design ≤ 2147483647) && (decide (0 ≤ F.first) && (decide (F.first ≤ 255) && (decide ((F.chars.length : Int) ≤ 256 - F.first) && (decide (0 < F.chars.length) || decide (F.first = 0))))))
def h2B (F : Fnt) : Bool := decide (F.steps.length ≤ 32510) && (decide (F.kerns.length ≤ 32768) && (decide (F.pieces.length ≤ 256) && decide (F.params.length ≤ 255)))
def h3B (F : Fnt) : Bool := (decide (F.chars.length = 0) || (decide (0 ≤ (metM F 0).tag) && decide (0 ≤ (metM F (F.chars.length - 1)).tag))) && fixesB F.kerns
def headB (F : Fnt) : Bool := h1B F && h2B F && h3B F
def paramsB (F : Fnt) : Bool :=
  match F.params with
  | [] => true
  | x :: l => decide (-2147483648 ≤ x) && decide (x ≤ 2147483647) && fixesB l
def stepsB (F : Fnt) : Nat → List Stp → Bool
  | _, [] => true
  | i, s :: l => stepB F i s && stepsB F (i + 1) l
def checkB (F : Fnt) : Bool := headB F && paramsB F && F.chars.all (charB F) && stepsB F 0 F.steps && F.pieces.all (pceB F)

theorem thereM_eq (F : Fnt) (c : Int) (k : Nat) : thereM F c = some k ↔ c - F.first = k ∧ k < F.chars.length ∧ 0 ≤ (metM F k).tag ∧ (metM F k).tag ≤ 3 := by
  unfold thereM metM
  constructor
  · intro h
    split at h
    · cases h
    · rename_i h0
      split at h
      · cases h
      · rename_i m hm
        split at h
        · cases h
        · rename_i ht
          simp only [Option.some.injEq] at h
          subst h
          rw [List.getD_eq_getElem?_getD, hm]
          have := (List.getElem?_eq_some_iff.1 hm).1
          simp only [Option.getD_some]
          omega
  · rintro ⟨h1, h2, h3, h4⟩
    rw [List.getD_eq_getElem?_getD, List.getElem?_eq_getElem h2] at h3 h4
    simp only [Option.getD_some] at h3 h4
    rw [if_neg (by omega), h1, Int.toNat_natCast, List.getElem?_eq_getElem h2]
    simp only
    rw [if_neg (by omega)]
theorem thereM_none (F : Fnt) (c : Int) : thereM F c = none ↔ ∀ k : Nat, c - F.first = k → k < F.chars.length → (metM F k).tag < 0 ∨ 3 < (metM F k).tag := by
  constructor
  · intro h k h1 h2
    rcases Int.lt_or_le (metM F k).tag 0 with h3 | h3
    · exact .inl h3
    · rcases Int.lt_or_le 3 (metM F k).tag with h4 | h4
      · exact .inr h4
      · have := (thereM_eq F c k).2 ⟨h1, h2, h3, h4⟩
        rw [h] at this; cases this
  · intro h
    cases hk : thereM F c with
    | none => rfl
    | some k =>
      obtain ⟨h1, h2, h3, h4⟩ := (thereM_eq F c k).1 hk
      have := h k h1 h2
      omega
theorem metM_mem {F : Fnt} {k : Nat} (h : k < F.chars.length) : metM F k ∈ F.chars := by
  unfold metM
  rw [List.getD_eq_getElem?_getD, List.getElem?_eq_getElem h]
  exact List.getElem_mem h
theorem metM_get {F : Fnt} {k : Nat} (h : k < F.chars.length) : F.chars[k] = metM F k := by
  unfold metM
  rw [List.getD_eq_getElem?_getD, List.getElem?_eq_getElem h]; rfl
end Go.Proofs.Ytembknlhocijkaa
