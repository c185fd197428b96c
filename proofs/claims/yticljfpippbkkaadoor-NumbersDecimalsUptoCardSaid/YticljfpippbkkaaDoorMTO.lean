import Derived.Test.YticljfpippbkkaaDoorMTM
/-
  A table: a register gets a value in a group. Conditions: those that each theorem names.
-/
namespace Go.Proofs.YticljfpippbkkaaDoor
open Go.RowKit Go.Sp
variable {W w w' : World} {F A : HProp}

noncomputable def GrpS.keepR (g : GrpS) (k : Int × Int) (r : RegS) : GrpS := match g.regs k with | some _ => g | none => { g with regs := mput g.regs k r }

/-- what is known of a table whose last group lies open -/
structure OpenF (S : TabS) (S0 : List GrpS) (g : GrpS) (m : Nat → Option Obj) (lt : Value) (R : Nat → RegV) (V0 : List GrpV) (v : GrpV) (f : Int × Int → Option RegV) : Prop where
  regs : ∀ j, j < 1536 → Rep m (R j) (S.regs j) ∧ (S.regs j).toks.length ≤ 20000
  later : RdM m lt S.later
  laterL : S.later.length ≤ 20000
  len : V0.length = S0.length
  le : S0.length + 1 ≤ 200
  kind : v.kind = g.kind
  after : g.after.length ≤ 20000
  rep : ∀ k, RepO m (f k) (g.regs k)

/-- a table whose last group lies open -/
abbrev openH (F : HProp) (b N : Nat) (S : TabS) (S0 : List GrpS) (g : GrpS) (m : Nat → Option Obj) (nm : Nat) (lt : Value) (R : Nat → RegV) (V0 : List GrpV) (v : GrpV) (f : Int × Int → Option RegV) (gb cap n nn rn : Nat) : HProp :=
  row (.slice (some ⟨gb, 0, none⟩) (n + 1) cap) (n + 1) 162 4 (flatG (V0 ++ [v])) * (mapH kE2 RegV.val v.rb rn f * (pts b (.cells (tabCells nm R (.slice (some ⟨gb, 0, none⟩) (n + 1) cap) lt) 57) *
    (mapH Value.string Mean.val v.nb nn g.names * (rowT v.av g.after * (roH m * (mapH Value.string Mean.val nm N S.names * (grpsH m V0 S0 * F)))))))

theorem TabAt.open1 {b N : Nat} {S : TabS} {S0 : List GrpS} {g : GrpS} (hS : S.groups = S0 ++ [g]) (h : TabAt W F b N S w) :
    ∃ m nm lt R V0 v f gb cap nn rn, OpenF S S0 g m lt R V0 v f ∧ Sat W (openH F b N S S0 g m nm lt R V0 v f gb cap S0.length nn rn) w := by
  obtain ⟨m, nm, gs, lt, R, V, ⟨h1, h2, h2b, h3, h4⟩, hs⟩ := h
  obtain ⟨V0, v, rfl⟩ := snoc_of V (by rintro rfl; rw [hS] at h3; simp at h3)
  have hV0 : V0.length = S0.length := by rw [hS] at h3; simpa using h3
  rw [hS, grpsH_snoc m v g V0 S0 hV0] at hs
  obtain ⟨⟨hk, hal⟩, nn, rn, f, hf, hs2⟩ := Sat.grp_open (A := pts b (.cells (tabCells nm R gs lt) 57) * (roH m * (mapH Value.string Mean.val nm N S.names * (row gs (V0 ++ [v]).length 162 4 (flatG (V0 ++ [v])) * (grpsH m V0 S0 * F))))) (hs.of_eq (by ac_rfl))
  rw [show (V0 ++ [v]).length = S0.length + 1 by simp [hV0]] at hs2
  have hs3 := hs2.of_eq (show _ = row gs (S0.length + 1) 162 4 (flatG (V0 ++ [v])) * (mapH kE2 RegV.val v.rb rn f * (pts b (.cells (tabCells nm R gs lt) 57) * (mapH Value.string Mean.val v.nb nn g.names * (rowT v.av g.after * (roH m * (mapH Value.string Mean.val nm N S.names * (grpsH m V0 S0 * F))))))) by ac_rfl)
  obtain ⟨_, hcs⟩ := hs3.row_cases
  rcases hcs with ⟨_, h0, _⟩ | ⟨gb, cap, _, rfl, _⟩
  · omega
  exact ⟨m, nm, lt, R, V0, v, f, gb, cap, nn, rn, ⟨h1, h2, h2b, hV0, by rw [hS] at h4; simpa using h4, hk, hal, hf⟩, hs3⟩

theorem TabAt.close1 {b N : Nat} {S : TabS} {S0 : List GrpS} {g : GrpS} {m : Nat → Option Obj} {nm : Nat} {lt : Value} {R : Nat → RegV} {V0 : List GrpV} {v : GrpV} {f : Int × Int → Option RegV} {gb cap nn rn : Nat}
    (o : OpenF S S0 g m lt R V0 v f) (h : Sat W (openH F b N S S0 g m nm lt R V0 v f gb cap S0.length nn rn) w) : TabAt W F b N { S with groups := S0 ++ [g] } w := by
  refine ⟨m, nm, .slice (some ⟨gb, 0, none⟩) (S0.length + 1) cap, lt, R, V0 ++ [v], ⟨o.regs, o.later, o.laterL, by simp [o.len], by simpa using o.le⟩, ?_⟩
  have h2 := Sat.grp_mk (m := m) (v := v) (s := g) (h.of_eq (show _ = mapH Value.string Mean.val v.nb nn g.names * (mapH kE2 RegV.val v.rb rn f * (rowT v.av g.after * (row (.slice (some ⟨gb, 0, none⟩) (S0.length + 1) cap) (S0.length + 1) 162 4 (flatG (V0 ++ [v])) * (pts b (.cells (tabCells nm R (.slice (some ⟨gb, 0, none⟩) (S0.length + 1) cap) lt) 57) *
    (roH m * (mapH Value.string Mean.val nm N S.names * (grpsH m V0 S0 * F))))))) by unfold openH; ac_rfl)) ⟨o.kind, o.after⟩ o.rep
  refine h2.of_eq ?_
  simp only [grpsH_snoc m v g V0 S0 o.len, List.length_append, List.length_singleton, o.len]
  ac_rfl

/-- the same, as the walk behind it wants it -/
theorem OpenF.closeP {b N : Nat} {S S2 : TabS} {S0 : List GrpS} {g : GrpS} {m : Nat → Option Obj} {nm : Nat} {lt : Value} {R : Nat → RegV} {V0 : List GrpV} {v : GrpV} {f : Int × Int → Option RegV} {gb cap n nn rn : Nat}
    (o : OpenF S S0 g m lt R V0 v f) (hn : S0.length = n) (hS2 : S2 = { S with groups := S0 ++ [g] }) (h : Sat W (openH F b N S S0 g m nm lt R V0 v f gb cap n nn rn) w) :
    ∃ (V : List GrpV) (ga : Option Addr) (gc : Nat), ((∀ j, j < 1536 → Rep m (R j) (S2.regs j) ∧ (S2.regs j).toks.length ≤ 20000) ∧ RdM m lt S2.later ∧ S2.later.length ≤ 20000 ∧ V.length = S2.groups.length ∧ S2.groups.length ≤ 200) ∧
      Sat W (F * (pts b (.cells (tabCells nm R (.slice ga V.length gc) lt) 57) * (roH m * (mapH Value.string Mean.val nm N S2.names * (row (.slice ga V.length gc) V.length 162 4 (flatG V) * grpsH m V S2.groups))))) w := by
  subst hn
  subst hS2
  refine ⟨V0 ++ [v], some ⟨gb, 0, none⟩, cap, ⟨o.regs, o.later, o.laterL, by simp [o.len], by simpa using o.le⟩, ?_⟩
  have h2 := Sat.grp_mk (m := m) (v := v) (s := g) (h.of_eq (show _ = mapH Value.string Mean.val v.nb nn g.names * (mapH kE2 RegV.val v.rb rn f * (rowT v.av g.after * (row (.slice (some ⟨gb, 0, none⟩) (S0.length + 1) cap) (S0.length + 1) 162 4 (flatG (V0 ++ [v])) * (pts b (.cells (tabCells nm R (.slice (some ⟨gb, 0, none⟩) (S0.length + 1) cap) lt) 57) *
    (roH m * (mapH Value.string Mean.val nm N S.names * (grpsH m V0 S0 * F))))))) by unfold openH; ac_rfl)) ⟨o.kind, o.after⟩ o.rep
  refine h2.of_eq ?_
  simp only [grpsH_snoc m v g V0 S0 o.len, List.length_append, List.length_singleton, o.len]
  ac_rfl

theorem RepO.put {m : Nat → Option Obj} {f : Int × Int → Option RegV} {g : Int × Int → Option RegS} (h : ∀ k, RepO m (f k) (g k)) {k : Int × Int} {v : RegV} {s : RegS} (hv : Rep m v s ∧ s.toks.length ≤ 20000) : ∀ j, RepO m (mput f k v j) (mput g k s j) := by
  intro j
  by_cases hj : j = k
  · subst hj; rw [mput_same, mput_same]; exact hv
  · rw [mput_other f v hj, mput_other g s hj]; exact h j



end Go.Proofs.YticljfpippbkkaaDoor

/-
  A table: a register gets a value globally. Conditions: those that each theorem names.
-/
namespace Go.Proofs.YticljfpippbkkaaDoor
open Go.RowKit Go.Sp
variable {W w w' : World} {F A : HProp}

noncomputable def GrpS.delR (k : Int × Int) (g : GrpS) : GrpS := { g with regs := mdel g.regs k }

theorem RepO.del {m : Nat → Option Obj} {f : Int × Int → Option RegV} {g : Int × Int → Option RegS} (h : ∀ k, RepO m (f k) (g k)) (k : Int × Int) : ∀ j, RepO m (mdel f k j) (mdel g k j) := by
  intro j
  by_cases hj : j = k
  · subst hj; rw [mdel_same, mdel_same]; trivial
  · rw [mdel_other f hj, mdel_other g hj]; exact h j

theorem grps_mid_open {m : Nat → Option Obj} {V V1 V2 : List GrpV} {v : GrpV} {G1 G3 : List GrpS} {g : GrpS} {X : HProp} (hV : V = V1 ++ v :: V2) (hl : V1.length = G1.length) (h : Sat W (X * (grpsH m V (G1 ++ g :: G3) * A)) w) :
    Sat W (grp1 m v g * (grpsH m (V1 ++ V2) (G1 ++ G3) * (X * A))) w := by
  rw [hV, grpsH_mid m v g V2 G3 V1 G1 hl] at h
  exact h.of_eq (by ac_rfl)
theorem grps_mid_close {m : Nat → Option Obj} {V V1 V2 : List GrpV} {v : GrpV} {G1 G3 : List GrpS} {g : GrpS} {X : HProp} (hV : V = V1 ++ v :: V2) (hl : V1.length = G1.length) (h : Sat W (grp1 m v g * (grpsH m (V1 ++ V2) (G1 ++ G3) * (X * A))) w) :
    Sat W (X * (grpsH m V (G1 ++ g :: G3) * A)) w := by
  rw [hV, grpsH_mid m v g V2 G3 V1 G1 hl]
  exact h.of_eq (by ac_rfl)

end Go.Proofs.YticljfpippbkkaaDoor

/-
  A table: Set. Conditions: those that each theorem names.
-/
namespace Go.Proofs.YticljfpippbkkaaDoor
open Go.RowKit Go.Sp
variable {W w w' : World} {F A : HProp}

/-- a table with a register put -/
noncomputable def putS (S : TabS) (c i : Nat) (v : RegS) : Bool → TabS
  | true => { S with regs := setS S.regs (c * 256 + i) v, groups := S.groups.map (·.delR ((c : Int), (i : Int))) }
  | false => { S with regs := setS S.regs (c * 256 + i) v, groups := S.groups.dropLast ++ (S.groups.getLast?.map (·.keepR ((c : Int), (i : Int)) (S.regs (c * 256 + i)))).toList }

def setE (c i : Int) (v : RegS) : Int := if wrongE c i ≠ 0 then wrongE c i else if rightM c v = true then 0 else 1
noncomputable def setT (S : TabS) (c i : Int) (v : RegS) (g : Bool) : TabS := if setE c i v = 0 then putS S c.toNat i.toNat v g else S

theorem wrongE_nat {c i : Int} (h : wrongE c i = 0) : ∃ c' i' : Nat, c = c' ∧ i = i' ∧ 1 ≤ c' ∧ c' ≤ 5 ∧ i' < 256 := by
  rw [wrongE] at h
  split at h
  · omega
  · split at h
    · omega
    · exact ⟨c.toNat, i.toNat, by omega, by omega, by omega, by omega, by omega⟩

theorem rightM_len {c : Int} {v : RegS} (h : rightM c v = true) : v.toks.length ≤ 20000 := by
  unfold rightM bareN bareG bareT at h
  repeat' split at h
  all_goals (simp only [Bool.and_eq_true, beq_iff_eq, decide_eq_true_eq] at h; omega)

theorem TabAt.allocX {b N : Nat} {S : TabS} (h : TabAt W F b N S w) (o : Obj) : TabAt W (pts w.heap.size o * F) b N S (w.alloc o) := by
  obtain ⟨m, nm, gs, lt, R, V, h1, h2⟩ := h
  exact ⟨m, nm, gs, lt, R, V, h1, (h2.alloc o).of_eq (by ac_rfl)⟩


end Go.Proofs.YticljfpippbkkaaDoor
