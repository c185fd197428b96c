
/-
  A table in memory. Conditions: those that each theorem names.
-/
import Derived.Test.YtebggkgciocciaaGreatTabB
import Derived.Test.YtebggkgciocciaaGreatAnyE
namespace Go.Proofs.YtebggkgciocciaaGreat
open Go.RowKit Go.Sp
variable {W w w' : World} {F A : HProp}

structure GrpV where
  kind : Int
  nb : Nat
  rb : Nat
  av : Value
def GrpV.cells (v : GrpV) : List Value := [.int .i64 v.kind, .map (some v.nb), .map (some v.rb), v.av]
def flatG (V : List GrpV) : List Value := V.flatMap GrpV.cells
theorem flatG_len (V : List GrpV) : (flatG V).length = V.length * 4 := by
  induction V with
  | nil => rfl
  | cons v V ih => simp [flatG, GrpV.cells] at ih ⊢; omega
theorem flatG_cons (v : GrpV) (V : List GrpV) : flatG (v :: V) = v.cells ++ flatG V := rfl
theorem flatG_app (V U : List GrpV) : flatG (V ++ U) = flatG V ++ flatG U := by simp [flatG]
theorem flatG_get (V : List GrpV) : ∀ (i j : Nat) (x : Value), (h : i < V.length) → V[i].cells[j]? = some x → (flatG V)[i * 4 + j]? = some x := by
  induction V with
  | nil => intro i j v h; simp at h
  | cons u V ih =>
    intro i j x h hx
    cases i with
    | zero =>
      have hj : j < u.cells.length := (List.getElem?_eq_some_iff.1 hx).1
      rw [flatG_cons, List.getElem?_append_left (by simpa using hj)]
      simpa using hx
    | succ i =>
      rw [flatG_cons, List.getElem?_append_right (by simp [GrpV.cells]; omega)]
      have := ih i j x (by simpa using h) (by simpa using hx)
      rw [← this]
      congr 1
      simp [GrpV.cells]; omega
theorem flatG_one (V : List GrpV) (h : ∀ v ∈ V, v.av.oneCell' = true) : ∀ u ∈ flatG V, u.oneCell' = true := by
  intro u hu
  simp only [flatG, List.mem_flatMap, GrpV.cells] at hu
  obtain ⟨t, ht, h2⟩ := hu
  simp only [List.mem_cons, List.not_mem_nil, or_false] at h2
  rcases h2 with rfl | rfl | rfl | rfl
  · rfl
  · rfl
  · rfl
  · exact h t ht

def RepO (m : Nat → Option Obj) : Option RegV → Option RegS → Prop
  | none, none => True
  | some v, some s => Rep m v s ∧ s.toks.length ≤ 20000
  | _, _ => False
theorem RepO.mono {m m' : Nat → Option Obj} (hm : ∀ k o, m k = some o → m' k = some o) : ∀ {a : Option RegV} {b : Option RegS}, RepO m a b → RepO m' a b
  | none, none, _ => trivial
  | some _, some _, h => ⟨h.1.mono hm, h.2⟩
  | none, some _, h => h.elim
  | some _, none, h => h.elim

/-- one group -/
def grp1 (m : Nat → Option Obj) (v : GrpV) (s : GrpS) : HProp :=
  fact (v.kind = s.kind ∧ s.after.length ≤ 20000) (ex fun nn : Nat => ex fun rn : Nat => ex fun f : Int × Int → Option RegV => fact (∀ k, RepO m (f k) (s.regs k))
    (mapH Value.string Mean.val v.nb nn s.names * (mapH kE2 RegV.val v.rb rn f * rowT v.av s.after)))
def grpsH (m : Nat → Option Obj) : List GrpV → List GrpS → HProp
  | [], [] => emp
  | v :: V, s :: S => grp1 m v s * grpsH m V S
  | _, _ => fact False emp

theorem grpsH_snoc (m : Nat → Option Obj) (v : GrpV) (s : GrpS) : ∀ (V : List GrpV) (S : List GrpS), V.length = S.length → grpsH m (V ++ [v]) (S ++ [s]) = grp1 m v s * grpsH m V S
  | [], [], _ => rfl
  | u :: V, t :: S, h => by
    have := grpsH_snoc m v s V S (by simpa using h)
    simp only [List.cons_append, grpsH, this]
    ac_rfl
theorem grpsH_mid (m : Nat → Option Obj) (v : GrpV) (s : GrpS) (V2 : List GrpV) (S2 : List GrpS) : ∀ (V : List GrpV) (S : List GrpS), V.length = S.length → grpsH m (V ++ v :: V2) (S ++ s :: S2) = grp1 m v s * grpsH m (V ++ V2) (S ++ S2)
  | [], [], _ => rfl
  | u :: V, t :: S, h => by
    have := grpsH_mid m v s V2 S2 V S (by simpa using h)
    simp only [List.cons_append, grpsH, this]
    ac_rfl

theorem grp1_mono {m m' : Nat → Option Obj} (hm : ∀ k o, m k = some o → m' k = some o) (v : GrpV) (s : GrpS) : ∀ x, grp1 m v s x → grp1 m' v s x :=
  fun _ ⟨h1, nn, rn, f, h2, h3⟩ => ⟨h1, nn, rn, f, fun k => (h2 k).mono hm, h3⟩
theorem grpsH_mono {m m' : Nat → Option Obj} (hm : ∀ k o, m k = some o → m' k = some o) : ∀ (V : List GrpV) (S : List GrpS) (x), grpsH m V S x → grpsH m' V S x
  | [], [], _, h => h
  | v :: V, s :: S, _, ⟨a, b, hd, hu, h1, h2⟩ => ⟨a, b, hd, hu, grp1_mono hm v s a h1, grpsH_mono hm V S b h2⟩
  | [], _ :: _, _, h => h.1.elim
  | _ :: _, [], _, h => h.1.elim

/-- A table, with what the rest of the call owns. -/
def TabAt (W : World) (F : HProp) (b N : Nat) (S : TabS) (w : World) : Prop :=
  ∃ (m : Nat → Option Obj) (nm : Nat) (gs lt : Value) (R : Nat → RegV) (V : List GrpV),
    ((∀ j, j < 1536 → Rep m (R j) (S.regs j) ∧ (S.regs j).toks.length ≤ 20000) ∧ RdM m lt S.later ∧ S.later.length ≤ 20000 ∧ V.length = S.groups.length ∧ S.groups.length ≤ 200) ∧
    Sat W (pts b (.cells (tabCells nm R gs lt) 34) * (roH m * (mapH Value.string Mean.val nm N S.names * (row gs V.length 83 4 (flatG V) * (grpsH m V S.groups * F))))) w

theorem TabAt.sat {b N : Nat} {S : TabS} (h : TabAt W F b N S w) : Sat W F w := by
  obtain ⟨m, nm, gs, lt, R, V, _, h⟩ := h
  exact h.r.r.r.r.r
theorem TabAt.of_eq {b N : Nat} {S : TabS} {F' : HProp} (h : TabAt W F b N S w) (e : F = F') : TabAt W F' b N S w := e ▸ h

set_option maxRecDepth 100000 in
theorem good_any {b N : Nat} {S : TabS} (h : TabAt W F b N S w) : Calls Tryz.prog 42 #[.pointer (some ⟨b, 0, none⟩)] w fun e w' => e = .returned (.bool true) ∧ w = w' := by
  obtain ⟨m, nm, gs, lt, R, V, _, h⟩ := h
  have c0 := h.cell (i := 0) (tab_names nm R gs lt)
  have qT : (binOp .neq 24 (.map (some nm)) (.map none)).run Tryz.prog w = .ok (.bool true) w := run_neq_map_nil w _ _ _ (some nm) Tryz.underlying24
  clear h
  go_enter Tryz.func42, Tryz.ntmps42
  go_wp2
  go_ret
  exact ⟨rfl, rfl⟩

/-- what 'wrong' says of a register -/
def wrongE (c i : Int) : Int := if c < 1 ∨ 5 < c then 1 else if i < 0 ∨ 256 ≤ i then 11 else 0

theorem wrong_any {b N : Nat} {S : TabS} (c i : Int) (h : TabAt W F b N S w) : Calls Tryz.prog 49 #[.pointer (some ⟨b, 0, none⟩), .int .i64 c, .int .i64 i] w fun e w' => e = .returned (.int .i64 (wrongE c i)) ∧ w = w' := by
  have HG := Lib.hid (good_any h)
  clear h
  by_cases h1 : c < 1 ∨ 5 < c
  · have e1 : wrongE c i = 1 := by rw [wrongE, if_pos h1]
    rw [e1]
    rcases h1 with h1 | h1
    · clear e1
      go_enter Tryz.func49, Tryz.ntmps49
      go_wp2_with fail
      refine Calls.mono HG.out ?_
      rintro e w' ⟨rfl, rfl⟩
      go_wp2
      go_ret
      exact ⟨rfl, rfl⟩
    · have h2 : ¬ c < 1 := by omega
      clear e1
      go_enter Tryz.func49, Tryz.ntmps49
      go_wp2_with fail
      refine Calls.mono HG.out ?_
      rintro e w' ⟨rfl, rfl⟩
      go_wp2
      go_ret
      exact ⟨rfl, rfl⟩
  · have h2 : ¬ c < 1 := by omega
    have h3 : ¬ 5 < c := by omega
    by_cases h4 : i < 0 ∨ 256 ≤ i
    · have e1 : wrongE c i = 11 := by rw [wrongE, if_neg h1, if_pos h4]
      rw [e1]
      clear h1 e1
      rcases h4 with h4 | h4
      · go_enter Tryz.func49, Tryz.ntmps49
        go_wp2_with fail
        refine Calls.mono HG.out ?_
        rintro e w' ⟨rfl, rfl⟩
        go_wp2
        go_ret
        exact ⟨rfl, rfl⟩
      · have h5 : ¬ i < 0 := by omega
        go_enter Tryz.func49, Tryz.ntmps49
        go_wp2_with fail
        refine Calls.mono HG.out ?_
        rintro e w' ⟨rfl, rfl⟩
        go_wp2
        go_ret
        exact ⟨rfl, rfl⟩
    · have e1 : wrongE c i = 0 := by rw [wrongE, if_neg h1, if_neg h4]
      rw [e1]
      have h5 : ¬ i < 0 := by omega
      have h6 : ¬ 256 ≤ i := by omega
      clear h1 h4 e1
      go_enter Tryz.func49, Tryz.ntmps49
      go_wp2_with fail
      refine Calls.mono HG.out ?_
      rintro e w' ⟨rfl, rfl⟩
      go_wp2
      go_ret
      exact ⟨rfl, rfl⟩

theorem Sat.row_value {v : Value} {n : Nat} {e : TypeId} {size : Nat} {xs : List Value} (h : Sat W (row v n e size xs * A) w) : ∃ a cap, v = .slice a n cap := by
  obtain ⟨a, cap, h1, _⟩ := h.row_val
  exact ⟨a, cap, h1⟩

set_option maxRecDepth 100000 in
theorem depth_any {b N : Nat} {S : TabS} (h : TabAt W F b N S w) : Calls Tryz.prog 29 #[.pointer (some ⟨b, 0, none⟩)] w fun e w' => e = .returned (.int .i64 S.groups.length) ∧ w = w' := by
  have HG := Lib.hid (good_any h)
  obtain ⟨m, nm, gs, lt, R, V, ⟨h1, h2, h2b, h3, h4⟩, hs⟩ := h
  obtain ⟨a, cap, rfl⟩ := Sat.row_value hs.r.r.r
  rw [h3] at hs
  have c0 := hs.cell (i := 10753) (tab_groups nm R _ lt)
  generalize S.groups.length = n at *
  clear hs h1 h2 h3
  go_enter Tryz.func29, Tryz.ntmps29
  go_wp2_with fail
  refine Calls.mono HG.out ?_
  rintro e w' ⟨rfl, rfl⟩
  go_wp2
  go_ret
  exact ⟨rfl, rfl⟩

end Go.Proofs.YtebggkgciocciaaGreat
