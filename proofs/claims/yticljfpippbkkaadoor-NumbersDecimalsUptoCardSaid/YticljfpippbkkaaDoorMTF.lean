import Derived.Test.YticljfpippbkkaaDoorMTA
/-
  A table: groups begin, or not; tokens that may be kept. Conditions: those that each theorem names.
-/
namespace Go.Proofs.YticljfpippbkkaaDoor
open Go.RowKit Go.Sp
variable {W w w' : World} {F A : HProp}

/-- what Begin answers, and what the table is then -/
def beginE (S : TabS) (k : Int) : Int := if k < 0 ∨ 20 < k then 11 else if S.groups.length = 200 then 6 else 0
noncomputable def beginS (S : TabS) (k : Int) : TabS := if beginE S k = 0 then S.begun k else S

theorem TabAt.le {b N : Nat} {S : TabS} (h : TabAt W F b N S w) : S.groups.length ≤ 200 := by
  obtain ⟨m, nm, gs, lt, R, V, ⟨_, _, _, _, h⟩, _⟩ := h
  exact h

/-- may a token be kept? -/
def tokOK (t : Tok) : Bool :=
  if t.cat = 16 then ((t.chr.toNat : Int) == 0)
  else if t.cat = 1 ∨ t.cat = 2 ∨ t.cat = 3 ∨ t.cat = 4 ∨ t.cat = 6 ∨ t.cat = 7 ∨ t.cat = 8 ∨ t.cat = 10 ∨ t.cat = 11 ∨ t.cat = 12 ∨ t.cat = 13 then t.name.toList.isEmpty
  else false


end Go.Proofs.YticljfpippbkkaaDoor

/-
  A table: tokens are kept for a group's end. Conditions: those that each theorem names.
-/
namespace Go.Proofs.YticljfpippbkkaaDoor
open Go.RowKit Go.Sp
variable {W w w' : World} {F A : HProp}

def GrpS.keep (g : GrpS) (t : Tok) : GrpS := { g with after := g.after ++ [t] }
/-- what After answers; the last group with a token more -/
def afterE (S : TabS) (t : Tok) : Int :=
  if tokOK t = false then 160 else match S.groups.getLast? with | none => 150 | some g => if g.after.length = 20000 then 6 else 0
noncomputable def afterS (S : TabS) (t : Tok) : TabS :=
  if afterE S t = 0 then { S with groups := S.groups.dropLast ++ (S.groups.getLast?.map (·.keep t)).toList } else S

theorem TabAt.allocD {b N : Nat} {S : TabS} (h : TabAt W F b N S w) {o : Obj} : TabAt W F b N S (w.alloc o) := by
  obtain ⟨m, nm, gs, lt, R, V, h1, h2⟩ := h
  exact ⟨m, nm, gs, lt, R, V, h1, h2.allocD⟩
theorem TabAt.drewN {b N : Nat} {S : TabS} (h : TabAt W F b N S w) {q : Nat} : TabAt W F b N S (w.drewN q) := by
  obtain ⟨m, nm, gs, lt, R, V, h1, h2⟩ := h
  exact ⟨m, nm, gs, lt, R, V, h1, h2.drewN⟩
theorem TabAt.ext {b N : Nat} {S : TabS} (h : TabAt W F b N S w) (k : Ext w w') : TabAt W F b N S w' := by
  obtain ⟨m, nm, gs, lt, R, V, h1, h2⟩ := h
  exact ⟨m, nm, gs, lt, R, V, h1, h2.ext k⟩

theorem snoc_of {α : Type} (l : List α) (h : l ≠ []) : ∃ l' x, l = l' ++ [x] := ⟨l.dropLast, l.getLast h, (List.dropLast_concat_getLast h).symm⟩

theorem _root_.Go.Sp.Sat.rowT_value {v : Value} {L : List Tok} (h : Sat W (rowT v L * A) w) : ∃ a c, v = .slice a L.length c := by
  obtain ⟨a, c, h, _⟩ := (rowT_rd h).capd
  exact ⟨a, c, h⟩

theorem afterE_bad {S : TabS} {t : Tok} (h : tokOK t = false) : afterE S t = 160 := by rw [afterE, if_pos h]
theorem afterE_none {S : TabS} {t : Tok} (h : tokOK t = true) (hg : S.groups = []) : afterE S t = 150 := by rw [afterE, if_neg (by rw [h]; decide), hg]; rfl
theorem afterE_last {S : TabS} {t : Tok} {S0 : List GrpS} {g : GrpS} (h : tokOK t = true) (hg : S.groups = S0 ++ [g]) : afterE S t = if g.after.length = 20000 then 6 else 0 := by
  rw [afterE, if_neg (by rw [h]; decide), hg, List.getLast?_concat]
theorem afterS_no {S : TabS} {t : Tok} (h : afterE S t ≠ 0) : afterS S t = S := by rw [afterS, if_neg h]
theorem afterS_yes {S : TabS} {t : Tok} {S0 : List GrpS} {g : GrpS} (h : afterE S t = 0) (hg : S.groups = S0 ++ [g]) : afterS S t = { S with groups := S0 ++ [g.keep t] } := by
  rw [afterS, if_pos h, hg, List.getLast?_concat, List.dropLast_concat]; rfl

theorem TabAt.last {b N : Nat} {S : TabS} {S0 : List GrpS} {g : GrpS} (hS : S.groups = S0 ++ [g]) (h : TabAt W F b N S w) : g.after.length ≤ 20000 := by
  obtain ⟨m, nm, gs, lt, R, V, ⟨h1, h2, h2b, h3, h4⟩, hs⟩ := h
  obtain ⟨V0, v, rfl⟩ := snoc_of V (by rintro rfl; rw [hS] at h3; simp at h3)
  have hV0 : V0.length = S0.length := by rw [hS] at h3; simpa using h3
  rw [hS, grpsH_snoc m v g V0 S0 hV0] at hs
  have hs1 := (hs.r.r.r.r).asc
  exact (Sat.grp_open hs1).1.2


end Go.Proofs.YticljfpippbkkaaDoor

/-
  Values of registers: are they right? Conditions: those that each theorem names.
-/
namespace Go.Proofs.YticljfpippbkkaaDoor
open Go.RowKit Go.Sp
variable {W w w' : World} {F A : HProp}

def dimB (x : Int) : Bool := decide (-1073741823 ≤ x ∧ x ≤ 1073741823)
theorem dimB_yes {x : Int} (h1 : -1073741823 ≤ x) (h2 : x ≤ 1073741823) : dimB x = true := by simp [dimB, h1, h2]
theorem dimB_no {x : Int} (h : ¬ -1073741823 ≤ x ∨ ¬ x ≤ 1073741823) : dimB x = false := by
  simp only [dimB, decide_eq_false_iff_not]; omega

def withB (x most : Int) : Bool := decide (-most ≤ x ∧ x ≤ most)
theorem size_int1 (w : World) : (sizeOf 3).run Tryd.prog w = .ok 1 w := by
  obtain ⟨i, hi⟩ := infoInt
  rw [run_sizeOf (P := Tryd.prog) w hi, cellsOf_int]
theorem idx2 (a b : Int) (w : World) : (Instr.index 163 (.agg #[.int .i64 a, .int .i64 b]) (.int .i64 0)).run Tryd.prog w = .ok (.int .i64 a) w ∧
    (Instr.index 163 (.agg #[.int .i64 a, .int .i64 b]) (.int .i64 1)).run Tryd.prog w = .ok (.int .i64 b) w := by
  have hu := Tryd.underlying163
  have hs := size_int1 w
  refine ⟨?_, ?_⟩ <;> (simp only [Instr.index, Sem.run_bind, asIntOf, run_underlying hu w, Result.andThen_ok, Sem.run_pure]; go_simp; try rfl)

def ordB (x : Int) : Bool := decide (0 ≤ x ∧ x ≤ 3)
def glueB (g : Gl) : Bool := dimB g.nat && dimB g.stretch && dimB g.shrink && ordB g.so && ordB g.ko
def glueE (g : Gl) : Int := if glueB g then 0 else 30
abbrev Gl.val (g : Gl) : Value := .agg #[.int .i64 g.nat, .int .i64 g.stretch, .int .i64 g.shrink, .int .i64 g.so, .int .i64 g.ko]


end Go.Proofs.YticljfpippbkkaaDoor

/-
  Values of registers: are they right? Conditions: those that each theorem names.
-/
namespace Go.Proofs.YticljfpippbkkaaDoor
open Go.RowKit Go.Sp
variable {W w w' : World} {F A : HProp}

def gl0 : Gl := ⟨0, 0, 0, 0, 0⟩
def glue0 (g : Gl) : Bool := g.nat == 0 && (g.stretch == 0 && (g.shrink == 0 && (g.so == 0 && g.ko == 0)))

theorem run_eq_glue (w : World) (g : Gl) : (Op.equalIn 10000 50 g.val gl0.val).run Tryd.prog w = .ok (glue0 g) w := by
  obtain ⟨a, b, c, d, e⟩ := g
  unfold glue0 gl0
  go_simp
  by_cases h1 : a = 0 <;> by_cases h2 : b = 0 <;> by_cases h3 : c = 0 <;> by_cases h4 : d = 0 <;> by_cases h5 : e = 0 <;> simp [h1, h2, h3, h4, h5]
theorem run_eql_glue (w : World) (g : Gl) : (binOp .eql 50 g.val gl0.val).run Tryd.prog w = .ok (.bool (glue0 g)) w := by
  simp only [binOp]
  simp [Op.equal, Op.maxDepth, run_eq_glue w g]

/-- a value in memory, its tokens a list -/
structure ValAt (w : World) (b : Nat) (v : RegS) (s : Value) : Prop where
  c0 : w.cell? ⟨b, 0, none⟩ = some (.int .i64 v.n)
  c1 : w.cell? ⟨b, 1, none⟩ = some (.int .i64 v.g.nat)
  c2 : w.cell? ⟨b, 2, none⟩ = some (.int .i64 v.g.stretch)
  c3 : w.cell? ⟨b, 3, none⟩ = some (.int .i64 v.g.shrink)
  c4 : w.cell? ⟨b, 4, none⟩ = some (.int .i64 v.g.so)
  c5 : w.cell? ⟨b, 5, none⟩ = some (.int .i64 v.g.ko)
  c6 : w.cell? ⟨b, 6, none⟩ = some s
  rd : RdT w s v.toks

def bareN (v : RegS) : Bool := glue0 v.g && ((v.toks.length : Int) == 0)
def bareG (v : RegS) : Bool := v.n == 0 && ((v.toks.length : Int) == 0)
def bareT (v : RegS) : Bool := v.n == 0 && glue0 v.g


end Go.Proofs.YticljfpippbkkaaDoor
