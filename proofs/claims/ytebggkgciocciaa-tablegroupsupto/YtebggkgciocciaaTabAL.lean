
/-
  Groups in which nothing is changed globally, in plain Lean: what their ends bring back. Conditions: those that each theorem names.
-/
import Derived.Test.YtebggkgciocciaaTabAJ
namespace Go.Proofs.Ytebggkgciocciaa
open Go.RowKit Go.Sp

/-- a name's meaning, and a register, when all of these groups have ended -/
def undN (G : List GrpS) (T : ByteArray → Option Mean) (k : ByteArray) : Mean := G.foldr (fun g m => (g.names k).getD m) (lookN T k)
def undR (G : List GrpS) (R : Nat → RegS) (j : Nat) : RegS := G.foldr (fun g r => (g.regs (keyJ j)).getD r) (R j)

theorem look_endN (g T : ByteArray → Option Mean) (k : ByteArray) : lookN (endN g T) k = (g k).getD (lookN T k) := by
  unfold lookN endN
  cases h : g k with
  | none => rfl
  | some m =>
    simp only [Option.getD_some]
    split
    · rename_i hm; exact ((meanB_eq _ _).1 hm).symm
    · rfl
theorem get_endR (g : Int × Int → Option RegS) (R : Nat → RegS) (j : Nat) : endR g R j = (g (keyJ j)).getD (R j) := by
  unfold endR
  cases h : g (keyJ j) <;> rfl
theorem look_nameM_other (T : ByteArray → Option Mean) {k j : ByteArray} (m : Mean) (h : j ≠ k) : lookN (nameM T k m) j = lookN T j := by
  unfold lookN nameM
  split
  · rw [mdel_other _ h]
  · rw [mput_other _ _ h]

theorem und_endN (G : List GrpS) (g : GrpS) (T : ByteArray → Option Mean) (k : ByteArray) : undN G (endN g.names T) k = undN (G ++ [g]) T k := by
  unfold undN
  rw [List.foldr_append, look_endN]
  rfl
theorem und_endR (G : List GrpS) (g : GrpS) (R : Nat → RegS) (j : Nat) : undR G (endR g.regs R) j = undR (G ++ [g]) R j := by
  unfold undR
  rw [List.foldr_append, get_endR]
  rfl
theorem und_new (G : List GrpS) (n : Int) (T : ByteArray → Option Mean) (k : ByteArray) : undN (G ++ [grp0 n]) T k = undN G T k := by
  unfold undN
  rw [List.foldr_append]
  rfl
theorem und_newR (G : List GrpS) (n : Int) (R : Nat → RegS) (j : Nat) : undR (G ++ [grp0 n]) R j = undR G R j := by
  unfold undR
  rw [List.foldr_append]
  rfl

theorem und_def (G : List GrpS) (g : GrpS) (T : ByteArray → Option Mean) (k j : ByteArray) (m : Mean) : undN (G ++ [g.keepN k (lookN T k)]) (nameM T k m) j = undN (G ++ [g]) T j := by
  unfold undN
  rw [List.foldr_append, List.foldr_append]
  congr 1
  simp only [List.foldr_cons, List.foldr_nil]
  by_cases hj : j = k
  · subst hj
    unfold GrpS.keepN
    cases h : g.names j with
    | some x => simp [h]
    | none => simp [mput_same]
  · rw [look_nameM_other _ _ hj]
    unfold GrpS.keepN
    cases h : g.names k with
    | some x => rfl
    | none => simp only; rw [mput_other _ _ hj]
theorem und_defR (G : List GrpS) (g : GrpS) (R : Nat → RegS) (j : Nat) (k : ByteArray) (m : Mean) : undR (G ++ [g.keepN k m]) R j = undR (G ++ [g]) R j := by
  unfold undR
  rw [List.foldr_append, List.foldr_append]
  have : (g.keepN k m).regs = g.regs := by unfold GrpS.keepN; split <;> rfl
  simp only [List.foldr_cons, List.foldr_nil, this]
theorem und_put (G : List GrpS) (g : GrpS) (R : Nat → RegS) {c i : Nat} (hi : i < 256) (v : RegS) (j : Nat) : undR (G ++ [g.keepR ((c : Int), (i : Int)) (R (c * 256 + i))]) (setS R (c * 256 + i) v) j = undR (G ++ [g]) R j := by
  unfold undR
  rw [List.foldr_append, List.foldr_append]
  congr 1
  simp only [List.foldr_cons, List.foldr_nil]
  by_cases hj : j = c * 256 + i
  · subst hj
    have hk : keyJ (c * 256 + i) = ((c : Int), (i : Int)) := (keyJ_eq hi).2 rfl
    rw [hk]
    unfold GrpS.keepR
    cases h : g.regs ((c : Int), (i : Int)) with
    | some x => simp [h]
    | none => simp [mput_same]
  · have hk : keyJ j ≠ ((c : Int), (i : Int)) := fun h => hj ((keyJ_eq hi).1 h)
    have e : setS R (c * 256 + i) v j = R j := by simp [setS, hj]
    rw [e]
    unfold GrpS.keepR
    cases h : g.regs ((c : Int), (i : Int)) with
    | some x => rfl
    | none => simp only; rw [mput_other _ _ hk]
theorem und_putN (G : List GrpS) (g : GrpS) (T : ByteArray → Option Mean) (k : ByteArray) (q : Int × Int) (r : RegS) : undN (G ++ [g.keepR q r]) T k = undN (G ++ [g]) T k := by
  unfold undN
  rw [List.foldr_append, List.foldr_append]
  have : (g.keepR q r).names = g.names := by unfold GrpS.keepR; split <;> rfl
  simp only [List.foldr_cons, List.foldr_nil, this]

/-- above the groups G0 of S0 stand the groups G; their ends bring S0 back -/
structure Above (S0 S : TabS) (G : List GrpS) : Prop where
  groups : S.groups = S0.groups ++ G
  names : ∀ k, undN G S.names k = lookN S0.names k
  regs : ∀ j, undR G S.regs j = S0.regs j

theorem above_nil (S : TabS) : Above S S [] := ⟨by simp, fun _ => rfl, fun _ => rfl⟩
theorem Above.begun {S0 S : TabS} {G : List GrpS} (h : Above S0 S G) (k : Int) : Above S0 (S.begun k) (G ++ [grp0 k]) :=
  ⟨by simp [TabS.begun, h.groups], fun j => (und_new G k _ j).trans (h.names j), fun j => (und_newR G k _ j).trans (h.regs j)⟩
theorem Above.ended {S0 S : TabS} {G : List GrpS} (g : GrpS) (h : Above S0 S (G ++ [g])) : Above S0 (S.ended (S0.groups ++ G) g) G :=
  ⟨rfl, fun j => (und_endN G g _ j).trans (h.names j), fun j => (und_endR G g _ j).trans (h.regs j)⟩
theorem Above.defined {S0 S : TabS} {G : List GrpS} {g : GrpS} (h : Above S0 S (G ++ [g])) (k : ByteArray) (m : Mean) : Above S0 (defS S k m false) (G ++ [g.keepN k (lookN S.names k)]) := by
  refine ⟨?_, fun j => (und_def G g _ k j m).trans (h.names j), fun j => (und_defR G g _ j k _).trans (h.regs j)⟩
  simp only [defS, h.groups, ← List.append_assoc]
  rw [List.dropLast_concat, List.getLast?_concat]
  rfl
theorem Above.put {S0 S : TabS} {G : List GrpS} {g : GrpS} (h : Above S0 S (G ++ [g])) {c i : Nat} (hi : i < 256) (v : RegS) : Above S0 (putS S c i v false) (G ++ [g.keepR ((c : Int), (i : Int)) (S.regs (c * 256 + i))]) := by
  refine ⟨?_, fun j => (und_putN G g _ j _ _).trans (h.names j), fun j => (und_put G g _ hi v j).trans (h.regs j)⟩
  simp only [putS, h.groups, ← List.append_assoc]
  rw [List.dropLast_concat, List.getLast?_concat]
  rfl

/-- a step within the groups, that ends none of S0's, nor the first above them -/
theorem Above.step {S0 S S' : TabS} {G : List GrpS} {o : OpS} (h : Above S0 S G) (hG : 0 < G.length) (hs : StepR o false S S') (ho : o.kind = 2 → S0.groups.length + 1 < S.groups.length) :
    ∃ G', 0 < G'.length ∧ Above S0 S' G' := by
  obtain ⟨G1, g, rfl⟩ : ∃ G1 g, G = G1 ++ [g] := by
    rcases List.eq_nil_or_concat G with rfl | ⟨l, x, rfl⟩
    · simp at hG
    · exact ⟨l, x, by rw [List.concat_eq_append]⟩
  have hput : ∀ (c i : Nat) (v : RegS), i < 256 → ∃ G', 0 < G'.length ∧ Above S0 (putS S c i v false) G' := fun c i v hi => ⟨_, by simp, h.put hi v⟩
  cases hs with
  | none => exact ⟨_, hG, h⟩
  | begun k _ =>
    unfold beginS
    split
    · exact ⟨_, by simp, h.begun k⟩
    · exact ⟨_, hG, h⟩
  | ended S1 gr hk hS =>
    have hl := ho hk
    rw [h.groups] at hl hS
    have h1 : S0.groups ++ G1 = S1 ∧ [g] = [gr] := by
      rw [← List.append_assoc] at hS
      exact List.append_inj' hS rfl
    obtain ⟨rfl, h2⟩ := h1
    simp only [List.cons.injEq, and_true] at h2
    subst h2
    refine ⟨G1, ?_, h.ended g⟩
    simp only [List.length_append, List.length_singleton] at hl
    omega
  | defined E S' hd =>
    rcases hd with ⟨_, rfl⟩ | ⟨_, rfl⟩
    · exact ⟨_, hG, h⟩
    · exact ⟨_, by simp, h.defined _ _⟩
  | set =>
    unfold setT
    split
    · rename_i he
      have hw : wrongE o.cls o.i = 0 := by
        by_cases hw : wrongE o.cls o.i = 0
        · exact hw
        · rw [setE, if_pos hw] at he; exact he
      obtain ⟨c', i', hc, hi, h1, h2, h3⟩ := wrongE_nat hw
      rw [hc, hi, Int.toNat_natCast, Int.toNat_natCast]
      exact hput _ _ _ h3
    · exact ⟨_, hG, h⟩
  | arith E er z ok S' ha =>
    rcases ha with ⟨_, _, rfl⟩ | ⟨_, c', i', -, -, -, h2, h3, r, er', -, -, rfl⟩
    · exact ⟨_, hG, h⟩
    · unfold sumT
      split
      · exact ⟨_, hG, h⟩
      · split
        · exact hput _ _ _ h3
        · exact ⟨_, hG, h⟩

end Go.Proofs.Ytebggkgciocciaa
