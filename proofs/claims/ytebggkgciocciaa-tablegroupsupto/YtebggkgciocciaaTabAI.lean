
/-
  Steps of a table, in plain Lean. Conditions: those that each theorem names.
-/
import Derived.Test.YtebggkgciocciaaTabAH
namespace Go.Proofs.Ytebggkgciocciaa
open Go.RowKit Go.Sp

theorem keysOK_grp0 (k : Int) : (grp0 k).keysOK := fun _ _ h => by cases h
theorem keysOK_regs {g g' : GrpS} (h : g.keysOK) (e : g'.regs = g.regs) : g'.keysOK := fun k r hk => h k r (e ▸ hk)
theorem keysOK_delR {g : GrpS} (h : g.keysOK) (k : Int × Int) : (g.delR k).keysOK := fun j r hj => by
  by_cases hjk : j = k
  · subst hjk; simp only [GrpS.delR] at hj; rw [mdel_same] at hj; cases hj
  · simp only [GrpS.delR] at hj; rw [mdel_other _ hjk] at hj; exact h j r hj
theorem keysOK_keepR {g : GrpS} (h : g.keysOK) {c i : Nat} (hc : c ≤ 5) (hi : i < 256) (r : RegS) : (g.keepR ((c : Int), (i : Int)) r).keysOK := fun j q hj => by
  unfold GrpS.keepR at hj
  split at hj
  · exact h j q hj
  · by_cases hjk : j = ((c : Int), (i : Int))
    · exact ⟨c, i, hjk, hc, hi⟩
    · simp only at hj; rw [mput_other _ _ hjk] at hj; exact h j q hj

theorem mem_last {l : List GrpS} {f : GrpS → GrpS} {g : GrpS} (h : g ∈ l.dropLast ++ (l.getLast?.map f).toList) : g ∈ l ∨ ∃ q ∈ l, g = f q := by
  rcases List.eq_nil_or_concat l with rfl | ⟨l0, x, rfl⟩
  · simp at h
  · rw [List.concat_eq_append] at h ⊢
    rw [List.dropLast_concat, List.getLast?_concat] at h
    simp only [Option.map_some, Option.toList_some, List.mem_append, List.mem_singleton] at h
    rcases h with h | h
    · exact .inl (by simp [h])
    · exact .inr ⟨x, by simp, h⟩

theorem putS_ok {S : TabS} (h : S.ok) {c i : Nat} (hc : c ≤ 5) (hi : i < 256) (r : RegS) (g : Bool) : (putS S c i r g).ok := by
  intro q hq
  cases g with
  | true =>
    simp only [putS, List.mem_map] at hq
    obtain ⟨x, hx, rfl⟩ := hq
    exact keysOK_delR (h x hx) _
  | false =>
    simp only [putS] at hq
    rcases mem_last hq with hq | ⟨x, hx, rfl⟩
    · exact h q hq
    · exact keysOK_keepR (h x hx) hc hi _

theorem setT_ok {S : TabS} (h : S.ok) (c i : Int) (v : RegS) (g : Bool) : (setT S c i v g).ok := by
  unfold setT
  split
  · rename_i he
    have hw : wrongE c i = 0 := by
      by_cases hw : wrongE c i = 0
      · exact hw
      · rw [setE, if_pos hw] at he; exact he
    obtain ⟨c', i', rfl, rfl, h1, h2, h3⟩ := wrongE_nat hw
    rw [Int.toNat_natCast, Int.toNat_natCast]
    exact putS_ok h h2 h3 _ _
  · exact h

theorem defS_ok {S : TabS} (h : S.ok) (k : ByteArray) (m : Mean) (g : Bool) : (defS S k m g).ok := by
  intro q hq
  cases g with
  | true =>
    simp only [defS, List.mem_map] at hq
    obtain ⟨x, hx, rfl⟩ := hq
    exact keysOK_regs (h x hx) rfl
  | false =>
    simp only [defS] at hq
    rcases mem_last hq with hq | ⟨x, hx, rfl⟩
    · exact h q hq
    · refine keysOK_regs (h x hx) ?_
      unfold GrpS.keepN
      split <;> rfl

theorem ended_ok {S : TabS} {S0 : List GrpS} {g : GrpS} (h : S.ok) (hS : S.groups = S0 ++ [g]) : (S.ended S0 g).ok := fun q hq => h q (by rw [hS]; simp only [TabS.ended] at hq; simp [hq])

theorem step_ok {o : OpS} {g : Bool} {S S' : TabS} (h : S.ok) (hs : StepR o g S S') : S'.ok := by
  cases hs with
  | none => exact h
  | begun k _ =>
    unfold beginS
    split
    · intro q hq
      simp only [TabS.begun, List.mem_append, List.mem_singleton] at hq
      rcases hq with hq | rfl
      · exact h q hq
      · exact keysOK_grp0 k
    · exact h
  | ended S0 gr _ hS => exact ended_ok h hS
  | defined E S' hd =>
    rcases hd with ⟨_, rfl⟩ | ⟨_, rfl⟩
    · exact h
    · exact defS_ok h _ _ _
  | set => exact setT_ok h _ _ _ _
  | arith E er z ok S' ha =>
    rcases ha with ⟨_, _, rfl⟩ | ⟨_, c', i', -, -, -, h2, h3, r, er', -, -, rfl⟩
    · exact h
    · unfold sumT
      split
      · exact h
      · split
        · exact putS_ok h h2 h3 _ _
        · exact h

/-! ### what is given globally stays -/
/-- a name is known to no group, and means m -/
def NameIn (S : TabS) (k : ByteArray) (m : Mean) : Prop := lookN S.names k = m ∧ ∀ g ∈ S.groups, g.names k = none
/-- a register is kept by no group, and is v -/
def RegIn (S : TabS) (c i : Nat) (v : RegS) : Prop := S.regs (c * 256 + i) = v ∧ ∀ g ∈ S.groups, g.regs ((c : Int), (i : Int)) = none

theorem lookN_nameM (T : ByteArray → Option Mean) (k : ByteArray) (m : Mean) : lookN (nameM T k m) k = m := by
  unfold lookN nameM
  split
  · rename_i h
    rw [mdel_same]
    exact ((meanB_eq _ _).1 h).symm
  · rw [mput_same]; rfl

theorem nameIn_def (S : TabS) (k : ByteArray) (m : Mean) : NameIn (defS S k m true) k m := by
  refine ⟨lookN_nameM _ _ _, fun g hg => ?_⟩
  simp only [defS, List.mem_map] at hg
  obtain ⟨x, _, rfl⟩ := hg
  simp only [GrpS.delN]
  exact mdel_same _ _
theorem regIn_put (S : TabS) (c i : Nat) (v : RegS) : RegIn (putS S c i v true) c i v := by
  refine ⟨by simp [putS, setS], fun g hg => ?_⟩
  simp only [putS, List.mem_map] at hg
  obtain ⟨x, _, rfl⟩ := hg
  simp only [GrpS.delR]
  exact mdel_same _ _
theorem nameIn_put {S : TabS} {k : ByteArray} {m : Mean} (h : NameIn S k m) (c i : Nat) (v : RegS) : NameIn (putS S c i v true) k m := by
  refine ⟨h.1, fun g hg => ?_⟩
  simp only [putS, List.mem_map] at hg
  obtain ⟨x, hx, rfl⟩ := hg
  exact h.2 x hx
theorem nameIn_end {S : TabS} {S0 : List GrpS} {g : GrpS} {k : ByteArray} {m : Mean} (h : NameIn S k m) (hS : S.groups = S0 ++ [g]) : NameIn (S.ended S0 g) k m := by
  have hg := h.2 g (by rw [hS]; simp)
  refine ⟨?_, fun q hq => h.2 q (by rw [hS]; simp only [TabS.ended] at hq; simp [hq])⟩
  rw [← h.1]
  simp only [TabS.ended, lookN, endN, hg]
theorem regIn_end {S : TabS} {S0 : List GrpS} {g : GrpS} {c i : Nat} (hi : i < 256) {v : RegS} (h : RegIn S c i v) (hS : S.groups = S0 ++ [g]) : RegIn (S.ended S0 g) c i v := by
  have hg := h.2 g (by rw [hS]; simp)
  refine ⟨?_, fun q hq => h.2 q (by rw [hS]; simp only [TabS.ended] at hq; simp [hq])⟩
  rw [← h.1]
  simp only [TabS.ended, endR, (keyJ_eq hi).2 rfl, hg]

end Go.Proofs.Ytebggkgciocciaa
