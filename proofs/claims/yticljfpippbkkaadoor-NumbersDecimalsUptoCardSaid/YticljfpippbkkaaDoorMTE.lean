import Derived.Test.YticljfpippbkkaaDoorMTZ
/-
  A table: Define. Conditions: those that each theorem names.
-/
namespace Go.Proofs.YticljfpippbkkaaDoor
open Go.RowKit Go.Sp
variable {W w w' : World} {F A : HProp}

noncomputable def GrpS.keepN (g : GrpS) (k : ByteArray) (m : Mean) : GrpS := match g.names k with | some _ => g | none => { g with names := mput g.names k m }
noncomputable def GrpS.delN (k : ByteArray) (g : GrpS) : GrpS := { g with names := mdel g.names k }
noncomputable def defS (S : TabS) (k : ByteArray) (m : Mean) : Bool → TabS
  | true => { S with names := nameM S.names k m, groups := S.groups.map (·.delN k) }
  | false => { S with names := nameM S.names k m, groups := S.groups.dropLast ++ (S.groups.getLast?.map (·.keepN k (lookN S.names k))).toList }
/-- an error, and nothing is changed; or the name is defined -/
def DefR (S S' : TabS) (k : ByteArray) (m : Mean) (g : Bool) (E : Int) : Prop := (E ≠ 0 ∧ S' = S) ∨ (E = 0 ∧ S' = defS S k m g)

abbrev mnO (m : Mean) : Obj := .cells #[.int .i64 m.kind, .int .i64 m.cls, .int .i64 m.code, .int .i64 m.cat, .string m.text] 103

end Go.Proofs.YticljfpippbkkaaDoor

/-
  A table: Define in a group. Conditions: those that each theorem names.
-/
namespace Go.Proofs.YticljfpippbkkaaDoor
open Go.RowKit Go.Sp
variable {W w w' : World} {F A : HProp}


end Go.Proofs.YticljfpippbkkaaDoor

/-
  The law's own functions: a value given, a meaning, values compared. Conditions: those that each theorem names.
-/
namespace Go.Proofs.YticljfpippbkkaaDoor
open Go.RowKit Go.Sp
variable {W w w' : World} {F A : HProp}

end Go.Proofs.YticljfpippbkkaaDoor

/-
  The law's apply: a call that changes something. Conditions: those that each theorem names.
-/
namespace Go.Proofs.YticljfpippbkkaaDoor
open Go.RowKit Go.Sp
variable {W w w' : World} {F A : HProp}

theorem TabAt.call {b N : Nat} {S : TabS} (h : TabAt W F b N S w) (k : Sat w (A * own w) w') : TabAt W (A * F) b N S w' := by
  obtain ⟨Y, h1, h2⟩ := h.focus
  exact h2 _ _ (Sat.frame h1 k).asc'

structure OpS where
  kind : Int
  cls : Int
  i : Int
  n : Int
  name : ByteArray
  m : Mean
  v : RegS
  x : Tok
  glob : Bool
abbrev OpS.cells (o : OpS) (s : Value) : Array Value := #[.int .i64 o.kind, .int .i64 o.cls, .int .i64 o.i, .int .i64 o.n, .string o.name, .int .i64 o.m.kind, .int .i64 o.m.cls, .int .i64 o.m.code, .int .i64 o.m.cat, .string o.m.text,
  .int .i64 o.v.n, .int .i64 o.v.g.nat, .int .i64 o.v.g.stretch, .int .i64 o.v.g.shrink, .int .i64 o.v.g.so, .int .i64 o.v.g.ko, s, .int .i64 o.x.cat, .int .u8 o.x.chr.toNat, .string o.x.name, .bool o.glob]
abbrev OpS.val (o : OpS) (s : Value) : Value := .agg (o.cells s)

/-- the keys of all groups' registers are registers -/
def TabS.ok (S : TabS) : Prop := ∀ g ∈ S.groups, g.keysOK

/-- what a step makes of a table -/
inductive StepR (o : OpS) (g : Bool) (S : TabS) : TabS → Prop
  | none : StepR o g S S
  | begun (k : Int) : o.kind = 1 → StepR o g S (beginS S k)
  | ended (S0 : List GrpS) (gr : GrpS) : o.kind = 2 → S.groups = S0 ++ [gr] → StepR o g S (S.ended S0 gr)
  | defined (E : Int) (S' : TabS) : DefR S S' o.name o.m g E → StepR o g S S'
  | set : StepR o g S (setT S o.cls o.i o.v g)
  | arith (E er : Int) (z : Int → Int) (ok : Prop) (S' : TabS) : ArithR S S' o.cls o.i g E z ok er → StepR o g S S'


end Go.Proofs.YticljfpippbkkaaDoor

/-
  Steps of a table, in plain Lean. Conditions: those that each theorem names.
-/
namespace Go.Proofs.YticljfpippbkkaaDoor
open Go.RowKit Go.Sp

theorem keysOK_grp0 (k : Int) : (grp0 k).keysOK := fun _ _ h => by cases h
theorem keysOK_regs {g g' : GrpS} (h : g.keysOK) (e : g'.regs = g.regs) : g'.keysOK := fun k r hk => h k r (e ▸ hk)
theorem keysOK_delR {g : GrpS} (h : g.keysOK) (k : Int × Int) : (g.delR k).keysOK := fun j r hj => by
  by_cases hjk : j = k
  · subst hjk; simp only [GrpS.delR] at hj; rw [mdel_same] at hj; cases hj
  · simp only [GrpS.delR] at hj; rw [mdel_other _ hjk] at hj; exact h j r hj
theorem keysOK_keepR {g : GrpS} (h : g.keysOK) {c i : Nat} (hc : c ≤ 5) (hi : i < 256) (r : RegS) : (g.keepR ((c : Int), (i : Int)) r).keysOK := fun j q hj => by
  unfold GrpS.keepR at hj
  split at hj
  · exact h j q hj
  · by_cases hjk : j = ((c : Int), (i : Int))
    · exact ⟨c, i, hjk, hc, hi⟩
    · simp only at hj; rw [mput_other _ _ hjk] at hj; exact h j q hj

theorem mem_last {l : List GrpS} {f : GrpS → GrpS} {g : GrpS} (h : g ∈ l.dropLast ++ (l.getLast?.map f).toList) : g ∈ l ∨ ∃ q ∈ l, g = f q := by
  rcases List.eq_nil_or_concat l with rfl | ⟨l0, x, rfl⟩
  · simp at h
  · rw [List.concat_eq_append] at h ⊢
    rw [List.dropLast_concat, List.getLast?_concat] at h
    simp only [Option.map_some, Option.toList_some, List.mem_append, List.mem_singleton] at h
    rcases h with h | h
    · exact .inl (by simp [h])
    · exact .inr ⟨x, by simp, h⟩

theorem putS_ok {S : TabS} (h : S.ok) {c i : Nat} (hc : c ≤ 5) (hi : i < 256) (r : RegS) (g : Bool) : (putS S c i r g).ok := by
  intro q hq
  cases g with
  | true =>
    simp only [putS, List.mem_map] at hq
    obtain ⟨x, hx, rfl⟩ := hq
    exact keysOK_delR (h x hx) _
  | false =>
    simp only [putS] at hq
    rcases mem_last hq with hq | ⟨x, hx, rfl⟩
    · exact h q hq
    · exact keysOK_keepR (h x hx) hc hi _

theorem setT_ok {S : TabS} (h : S.ok) (c i : Int) (v : RegS) (g : Bool) : (setT S c i v g).ok := by
  unfold setT
  split
  · rename_i he
    have hw : wrongE c i = 0 := by
      by_cases hw : wrongE c i = 0
      · exact hw
      · rw [setE, if_pos hw] at he; exact he
    obtain ⟨c', i', rfl, rfl, h1, h2, h3⟩ := wrongE_nat hw
    rw [Int.toNat_natCast, Int.toNat_natCast]
    exact putS_ok h h2 h3 _ _
  · exact h

theorem defS_ok {S : TabS} (h : S.ok) (k : ByteArray) (m : Mean) (g : Bool) : (defS S k m g).ok := by
  intro q hq
  cases g with
  | true =>
    simp only [defS, List.mem_map] at hq
    obtain ⟨x, hx, rfl⟩ := hq
    exact keysOK_regs (h x hx) rfl
  | false =>
    simp only [defS] at hq
    rcases mem_last hq with hq | ⟨x, hx, rfl⟩
    · exact h q hq
    · refine keysOK_regs (h x hx) ?_
      unfold GrpS.keepN
      split <;> rfl

theorem ended_ok {S : TabS} {S0 : List GrpS} {g : GrpS} (h : S.ok) (hS : S.groups = S0 ++ [g]) : (S.ended S0 g).ok := fun q hq => h q (by rw [hS]; simp only [TabS.ended] at hq; simp [hq])

theorem step_ok {o : OpS} {g : Bool} {S S' : TabS} (h : S.ok) (hs : StepR o g S S') : S'.ok := by
  cases hs with
  | none => exact h
  | begun k _ =>
    unfold beginS
    split
    · intro q hq
      simp only [TabS.begun, List.mem_append, List.mem_singleton] at hq
      rcases hq with hq | rfl
      · exact h q hq
      · exact keysOK_grp0 k
    · exact h
  | ended S0 gr _ hS => exact ended_ok h hS
  | defined E S' hd =>
    rcases hd with ⟨_, rfl⟩ | ⟨_, rfl⟩
    · exact h
    · exact defS_ok h _ _ _
  | set => exact setT_ok h _ _ _ _
  | arith E er z ok S' ha =>
    rcases ha with ⟨_, _, rfl⟩ | ⟨_, c', i', -, -, -, h2, h3, r, er', -, -, rfl⟩
    · exact h
    · unfold sumT
      split
      · exact h
      · split
        · exact putS_ok h h2 h3 _ _
        · exact h

/-! ### what is given globally stays -/
/-- a name is known to no group, and means m -/
def NameIn (S : TabS) (k : ByteArray) (m : Mean) : Prop := lookN S.names k = m ∧ ∀ g ∈ S.groups, g.names k = none
/-- a register is kept by no group, and is v -/
def RegIn (S : TabS) (c i : Nat) (v : RegS) : Prop := S.regs (c * 256 + i) = v ∧ ∀ g ∈ S.groups, g.regs ((c : Int), (i : Int)) = none

theorem lookN_nameM (T : ByteArray → Option Mean) (k : ByteArray) (m : Mean) : lookN (nameM T k m) k = m := by
  unfold lookN nameM
  split
  · rename_i h
    rw [mdel_same]
    exact ((meanB_eq _ _).1 h).symm
  · rw [mput_same]; rfl

theorem nameIn_def (S : TabS) (k : ByteArray) (m : Mean) : NameIn (defS S k m true) k m := by
  refine ⟨lookN_nameM _ _ _, fun g hg => ?_⟩
  simp only [defS, List.mem_map] at hg
  obtain ⟨x, _, rfl⟩ := hg
  simp only [GrpS.delN]
  exact mdel_same _ _
theorem regIn_put (S : TabS) (c i : Nat) (v : RegS) : RegIn (putS S c i v true) c i v := by
  refine ⟨by simp [putS, setS], fun g hg => ?_⟩
  simp only [putS, List.mem_map] at hg
  obtain ⟨x, _, rfl⟩ := hg
  simp only [GrpS.delR]
  exact mdel_same _ _
theorem nameIn_put {S : TabS} {k : ByteArray} {m : Mean} (h : NameIn S k m) (c i : Nat) (v : RegS) : NameIn (putS S c i v true) k m := by
  refine ⟨h.1, fun g hg => ?_⟩
  simp only [putS, List.mem_map] at hg
  obtain ⟨x, hx, rfl⟩ := hg
  exact h.2 x hx
theorem nameIn_end {S : TabS} {S0 : List GrpS} {g : GrpS} {k : ByteArray} {m : Mean} (h : NameIn S k m) (hS : S.groups = S0 ++ [g]) : NameIn (S.ended S0 g) k m := by
  have hg := h.2 g (by rw [hS]; simp)
  refine ⟨?_, fun q hq => h.2 q (by rw [hS]; simp only [TabS.ended] at hq; simp [hq])⟩
  rw [← h.1]
  simp only [TabS.ended, lookN, endN, hg]
theorem regIn_end {S : TabS} {S0 : List GrpS} {g : GrpS} {c i : Nat} (hi : i < 256) {v : RegS} (h : RegIn S c i v) (hS : S.groups = S0 ++ [g]) : RegIn (S.ended S0 g) c i v := by
  have hg := h.2 g (by rw [hS]; simp)
  refine ⟨?_, fun q hq => h.2 q (by rw [hS]; simp only [TabS.ended] at hq; simp [hq])⟩
  rw [← h.1]
  simp only [TabS.ended, endR, (keyJ_eq hi).2 rfl, hg]

end Go.Proofs.YticljfpippbkkaaDoor

/-
  The law's own: a register that is none, values that are the same. Conditions: those that each theorem names.
-/
namespace Go.Proofs.YticljfpippbkkaaDoor
open Go.RowKit Go.Sp
variable {W w w' : World} {F A : HProp}

set_option maxRecDepth 100000 in
set_option maxHeartbeats 4000000 in
theorem get_no {b N : Nat} {S : TabS} {c i : Int} (hw : wrongE c i ≠ 0) (h : TabAt W F b N S w) :
    Calls Tryd.prog 29 #[.pointer (some ⟨b, 0, none⟩), .int .i64 c, .int .i64 i] w fun e w' => ∃ er, er ≠ 0 ∧ e = .returned (.tuple #[.agg #[.int .i64 0, .int .i64 0, .int .i64 0, .int .i64 0, .int .i64 0, .int .i64 0, .slice none 0 0], .int .i64 er]) ∧ TabAt W F b N S w' := by
  have hb := h.allocX (.cells #[.int .i64 0, .int .i64 0, .int .i64 0, .int .i64 0, .int .i64 0, .int .i64 0, .slice none 0 0] 52)
  obtain ⟨bz, hbz⟩ : ∃ bz, w.heap.size = bz := ⟨_, rfl⟩
  rw [hbz] at hb
  have HW := Lib.hid (wrong_any c i hb)
  obtain ⟨er, her⟩ : ∃ er, wrongE c i = er := ⟨_, rfl⟩
  rw [her] at HW hw
  have q1 : (er == 0) = false := by rw [beq_eq_false_iff_ne]; exact hw
  have HER := Lib.hid hw
  obtain ⟨Y, hs0, back⟩ := hb.focus
  have BACK := Lib.hid back
  have hs1 := hs0.asc
  have x0 := hs1.cell (i := 0) rfl
  have x1 := hs1.cell (i := 1) rfl
  have x2 := hs1.cell (i := 2) rfl
  have x3 := hs1.cell (i := 3) rfl
  have x4 := hs1.cell (i := 4) rfl
  have x5 := hs1.cell (i := 5) rfl
  have x6 := hs1.cell (i := 6) rfl
  have f0 := hs1.free (i := 0)
  have f1 := hs1.free (i := 1)
  have f2 := hs1.free (i := 2)
  have f3 := hs1.free (i := 3)
  have f4 := hs1.free (i := 4)
  have f5 := hs1.free (i := 5)
  have f6 := hs1.free (i := 6)
  have lx := hs1.lt
  have hs2 := sat_set7 hs1 (.int .i64 0) (.int .i64 0) (.int .i64 0) (.int .i64 0) (.int .i64 0) (.int .i64 0) (.slice none 0 0)
  have HS2 := Lib.hid hs2
  clear h hb her hw hs0 hs1 hs2 back
  go_enter Tryd.func29, Tryd.ntmps29
  go_wp2_with fail
  refine Calls.mono HW.out ?_
  rintro e w' ⟨rfl, rfl⟩
  generalize w.alloc (.cells #[.int .i64 0, .int .i64 0, .int .i64 0, .int .i64 0, .int .i64 0, .int .i64 0, .slice none 0 0] 52) = W1 at *
  go_wp2
  (try simp only [Exit.inBlock, Exit.then])
  refine bodyPost_ret (v := .tuple #[.agg #[.int .i64 0, .int .i64 0, .int .i64 0, .int .i64 0, .int .i64 0, .int .i64 0, .slice none 0 0], .int .i64 er]) (by unfold results; go_simp) rfl ?_
  exact ⟨er, HER.out, rfl, (BACK.out _ _ HS2.out.asc').less⟩

theorem run_eq_glue2 (w : World) (g : Gl) : (Op.equalIn 10000 50 g.val g.val).run Tryd.prog w = .ok true w := by
  obtain ⟨a, b, c, d, e⟩ := g
  go_simp
theorem run_eql_glue2 (w : World) (g : Gl) : (binOp .eql 50 g.val g.val).run Tryd.prog w = .ok (.bool true) w := by
  simp only [binOp]
  simp [Op.equal, Op.maxDepth, run_eq_glue2 w g]

end Go.Proofs.YticljfpippbkkaaDoor
