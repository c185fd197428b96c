import Derived.Test.YticljfpippbkkaaMLA
import Derived.StillTail
import Derived.Deep.DeepCutAuto
import Derived.Deep.CutBlock
import Derived.Deep.LoopGhost
import Derived.Lib.SliceRun
import Derived.IntWalk
/-
  A table in memory: its cells, its groups, what it is. Conditions: those that each theorem names.
-/
namespace Go.Proofs.Yticljfpippbkkaa
open Go.RowKit Go.Sp
variable {W w w' : World} {F A : HProp}

/-! ### plain things -/
structure Gl where
  nat : Int
  stretch : Int
  shrink : Int
  so : Int
  ko : Int
structure Mean where
  kind : Int
  cls : Int
  code : Int
  cat : Int
  text : ByteArray
/-- a register, its tokens as a slice; and as a list -/
structure RegV where
  n : Int
  g : Gl
  s : Value
structure RegS where
  n : Int
  g : Gl
  toks : List Tok
structure GrpS where
  kind : Int
  names : ByteArray → Option Mean
  regs : Int × Int → Option RegS
  after : List Tok
structure TabS where
  names : ByteArray → Option Mean
  regs : Nat → RegS
  groups : List GrpS
  later : List Tok

def Gl.cells (g : Gl) : List Value := [.int .i64 g.nat, .int .i64 g.stretch, .int .i64 g.shrink, .int .i64 g.so, .int .i64 g.ko]
def Mean.cells (m : Mean) : List Value := [.int .i64 m.kind, .int .i64 m.cls, .int .i64 m.code, .int .i64 m.cat, .string m.text]
def RegV.cells (v : RegV) : List Value := [.int .i64 v.n, .int .i64 v.g.nat, .int .i64 v.g.stretch, .int .i64 v.g.shrink, .int .i64 v.g.so, .int .i64 v.g.ko, v.s]
abbrev Mean.val (m : Mean) : Value := .agg #[.int .i64 m.kind, .int .i64 m.cls, .int .i64 m.code, .int .i64 m.cat, .string m.text]
abbrev RegV.val (v : RegV) : Value := .agg #[.int .i64 v.n, .int .i64 v.g.nat, .int .i64 v.g.stretch, .int .i64 v.g.shrink, .int .i64 v.g.so, .int .i64 v.g.ko, v.s]
abbrev RegV.box (v : RegV) : Obj := .cells #[.int .i64 v.n, .int .i64 v.g.nat, .int .i64 v.g.stretch, .int .i64 v.g.shrink, .int .i64 v.g.so, .int .i64 v.g.ko, v.s] 59

theorem RegV.val_inj (a b : RegV) (h : a.val = b.val) : a = b := by
  obtain ⟨n, ⟨g1, g2, g3, g4, g5⟩, s⟩ := a
  obtain ⟨n', ⟨h1, h2, h3, h4, h5⟩, s'⟩ := b
  simp [RegV.val] at h
  simp [h]
theorem Mean.val_inj (a b : Mean) (h : a.val = b.val) : a = b := by
  obtain ⟨k, c, d, e, t⟩ := a
  obtain ⟨k', c', d', e', t'⟩ := b
  simp [Mean.val] at h
  simp [h]

/-! ### the part of the heap that stays -/
def roH (m : Nat → Option Obj) : HProp := fun h => ∀ k, h k = m k
/-- in that part the slice v is the list L -/
def RdM (m : Nat → Option Obj) (v : Value) (L : List Tok) : Prop := ∀ w : World, (∀ k o, m k = some o → w.heap[k]? = some o) → RdT w v L
def Rep (m : Nat → Option Obj) (v : RegV) (s : RegS) : Prop := v.n = s.n ∧ v.g = s.g ∧ RdM m v.s s.toks

theorem _root_.Go.Sp.Sat.ro_rd {m : Nat → Option Obj} {v : Value} {L : List Tok} (h : Sat W (roH m * A) w) (hr : RdM m v L) : RdT w v L := by
  obtain ⟨_, x, hx, hm⟩ := h.l
  exact hr w fun k o hk => hx k o ((hm k).trans hk)

/-- What is owned joins the part that stays. -/
theorem _root_.Go.Sp.Sat.ro_join {m : Nat → Option Obj} {B : HProp} (h : Sat W (B * (roH m * A)) w) : ∃ m', Sat W (roH m' * A) w ∧ (∀ k o, m k = some o → m' k = some o) ∧
    ∃ h0 : Nat → Option Obj, B h0 ∧ ∀ k o, h0 k = some o → m' k = some o := by
  obtain ⟨h1, x, hx, a, r, hd, hu, hB, hr⟩ := h.asc'
  obtain ⟨b0, c0, hd2, hu2, hb0, hc0⟩ := hB
  refine ⟨a, ⟨h1, x, hx, a, r, hd, hu, fun k => rfl, hr⟩, fun k o hk => ?_, b0, hb0, fun k o hk => ?_⟩
  · rw [hu2 k]
    have := hc0 k
    rw [hk] at this
    rcases hd2 k with h | h
    · rw [h, this]; rfl
    · rw [this] at h; cases h
  · rw [hu2 k, hk]; rfl

theorem RdM.mono {m m' : Nat → Option Obj} {v : Value} {L : List Tok} (h : RdM m v L) (hm : ∀ k o, m k = some o → m' k = some o) : RdM m' v L := fun w hw => h w fun k o hk => hw k o (hm k o hk)
theorem Rep.mono {m m' : Nat → Option Obj} {v : RegV} {s : RegS} (h : Rep m v s) (hm : ∀ k o, m k = some o → m' k = some o) : Rep m' v s := ⟨h.1, h.2.1, h.2.2.mono hm⟩
theorem RdM.nil (m : Nat → Option Obj) (a : Option Addr) (c : Nat) : RdM m (.slice a 0 c) [] := fun w _ => RdT.empty w a c

/-- a list of tokens that is owned comes to stay -/
theorem _root_.Go.Sp.Sat.row_stays {m : Nat → Option Obj} {v : Value} {L : List Tok} (h : Sat W (rowT v L * (roH m * A)) w) : ∃ m', Sat W (roH m' * A) w ∧ (∀ k o, m k = some o → m' k = some o) ∧ RdM m' v L := by
  obtain ⟨m', h1, h2, h0, hB, h3⟩ := h.ro_join
  refine ⟨m', h1, h2, fun w0 hw0 => ?_⟩
  have hs : Sat w0 (rowT v L) w0 := ⟨⟨rfl, rfl, rfl⟩, h0, fun k o hk => hw0 k o (h3 k o hk), hB⟩
  exact rowT_rd (A := emp) (hs.of_eq (by rw [star_comm, emp_star]))

/-! ### the table's cells -/
def regCells (R : Nat → RegV) : Nat → List Value
  | 0 => []
  | n + 1 => regCells R n ++ (R n).cells
theorem regCells_len (R : Nat → RegV) (n : Nat) : (regCells R n).length = n * 7 := by
  induction n with
  | zero => rfl
  | succ n ih => rw [regCells, List.length_append, ih]; simp [RegV.cells]; omega
theorem regCells_get (R : Nat → RegV) (n j o : Nat) (hj : j < n) (ho : o < 7) : (regCells R n)[j * 7 + o]? = (R j).cells[o]? := by
  induction n with
  | zero => omega
  | succ n ih =>
    rw [regCells]
    by_cases hjn : j < n
    · rw [List.getElem?_append_left (by rw [regCells_len]; omega), ih hjn]
    · obtain rfl : j = n := by omega
      rw [List.getElem?_append_right (by rw [regCells_len]; omega), regCells_len]
      congr 1
      omega
def tabCells (nm : Nat) (R : Nat → RegV) (gs lt : Value) : Array Value := (.map (some nm) :: (regCells R 1536 ++ [gs, lt])).toArray
theorem tab_size (nm : Nat) (R : Nat → RegV) (gs lt : Value) : (tabCells nm R gs lt).size = 10755 := by
  simp [tabCells, regCells_len]
theorem tab_names (nm : Nat) (R : Nat → RegV) (gs lt : Value) : (tabCells nm R gs lt)[0]? = some (.map (some nm)) := by
  rw [tabCells, List.getElem?_toArray, List.getElem?_cons_zero]
theorem tab_reg (nm : Nat) (R : Nat → RegV) (gs lt : Value) {j o : Nat} (hj : j < 1536) (ho : o < 7) : (tabCells nm R gs lt)[1 + j * 7 + o]? = (R j).cells[o]? := by
  have e : 1 + j * 7 + o = (j * 7 + o) + 1 := by omega
  rw [tabCells, List.getElem?_toArray, e, List.getElem?_cons_succ, List.getElem?_append_left (by rw [regCells_len]; omega), regCells_get R 1536 j o hj ho]
theorem tab_groups (nm : Nat) (R : Nat → RegV) (gs lt : Value) : (tabCells nm R gs lt)[10753]? = some gs := by
  rw [tabCells, List.getElem?_toArray, List.getElem?_cons_succ, List.getElem?_append_right (by rw [regCells_len]; omega), regCells_len]
  simp
theorem tab_later (nm : Nat) (R : Nat → RegV) (gs lt : Value) : (tabCells nm R gs lt)[10754]? = some lt := by
  rw [tabCells, List.getElem?_toArray, List.getElem?_cons_succ, List.getElem?_append_right (by rw [regCells_len]; omega), regCells_len]
  simp

def RegV.at (v : RegV) : Nat → Value
  | 0 => .int .i64 v.n | 1 => .int .i64 v.g.nat | 2 => .int .i64 v.g.stretch | 3 => .int .i64 v.g.shrink | 4 => .int .i64 v.g.so | 5 => .int .i64 v.g.ko | _ => v.s
def setR (R : Nat → RegV) (j : Nat) (v : RegV) : Nat → RegV := fun i => if i = j then v else R i

/-- all cells, by their place -/
theorem tab_get (nm : Nat) (R : Nat → RegV) (gs lt : Value) (i : Nat) : (tabCells nm R gs lt)[i]? =
    if i = 0 then some (.map (some nm)) else if i < 10753 then some ((R ((i - 1) / 7)).at ((i - 1) % 7)) else if i = 10753 then some gs else if i = 10754 then some lt else none := by
  by_cases h0 : i = 0
  · subst h0; rw [tab_names, if_pos rfl]
  · rw [if_neg h0]
    by_cases h1 : i < 10753
    · rw [if_pos h1]
      have e : i = 1 + ((i - 1) / 7) * 7 + (i - 1) % 7 := by omega
      have ho : (i - 1) % 7 < 7 := by omega
      have h2 := tab_reg nm R gs lt (j := (i - 1) / 7) (o := (i - 1) % 7) (by omega) ho
      rw [← e] at h2
      rw [h2]
      generalize (i - 1) % 7 = o at ho
      match o, ho with
      | 0, _ => rfl
      | 1, _ => rfl
      | 2, _ => rfl
      | 3, _ => rfl
      | 4, _ => rfl
      | 5, _ => rfl
      | 6, _ => rfl
    · rw [if_neg h1]
      by_cases h2 : i = 10753
      · subst h2; rw [if_pos rfl, tab_groups]
      · rw [if_neg h2]
        by_cases h3 : i = 10754
        · subst h3; rw [if_pos rfl, tab_later]
        · rw [if_neg h3]
          exact Array.getElem?_eq_none (by rw [tab_size]; omega)

theorem tab_set_groups (nm : Nat) (R : Nat → RegV) (gs lt v : Value) : (tabCells nm R gs lt).setIfInBounds 10753 v = tabCells nm R v lt := by
  apply Array.ext_getElem?
  intro i
  rw [Array.getElem?_setIfInBounds, tab_get, tab_get, tab_size]
  by_cases h : 10753 = i
  · subst h; simp
  · rw [if_neg h, if_neg (c := i = 10753) (Ne.symm h), if_neg (c := i = 10753) (Ne.symm h)]
theorem tab_set_later (nm : Nat) (R : Nat → RegV) (gs lt v : Value) : (tabCells nm R gs lt).setIfInBounds 10754 v = tabCells nm R gs v := by
  apply Array.ext_getElem?
  intro i
  rw [Array.getElem?_setIfInBounds, tab_get, tab_get, tab_size]
  by_cases h : 10754 = i
  · subst h; simp
  · rw [if_neg h, if_neg (c := i = 10754) (Ne.symm h), if_neg (c := i = 10754) (Ne.symm h)]

/-- a register's number is set -/
theorem tab_set_n (nm : Nat) (R : Nat → RegV) (gs lt : Value) (j : Nat) (hj : j < 1536) (z : Int) : (tabCells nm R gs lt).setIfInBounds (1 + j * 7) (.int .i64 z) = tabCells nm (setR R j { R j with n := z }) gs lt := by
  apply Array.ext_getElem?
  intro i
  rw [Array.getElem?_setIfInBounds, tab_get, tab_get, tab_size]
  by_cases h : 1 + j * 7 = i
  · subst h
    have e1 : (1 + j * 7 - 1) / 7 = j := by omega
    have e2 : (1 + j * 7 - 1) % 7 = 0 := by omega
    rw [if_pos rfl, if_pos (by omega), if_neg (by omega), if_pos (by omega), e1, e2]
    simp [setR, RegV.at]
  · rw [if_neg h]
    by_cases h0 : i = 0
    · simp [h0]
    · rw [if_neg h0, if_neg h0]
      by_cases h1 : i < 10753
      · rw [if_pos h1, if_pos h1]
        congr 1
        unfold setR
        split
        · rename_i hij
          have : (i - 1) % 7 ≠ 0 := by omega
          have ho : (i - 1) % 7 < 7 := by omega
          rw [hij]
          generalize (i - 1) % 7 = o at *
          match o, ho with
          | 0, _ => omega
          | 1, _ => rfl
          | 2, _ => rfl
          | 3, _ => rfl
          | 4, _ => rfl
          | 5, _ => rfl
          | 6, _ => rfl
        · rfl
      · rw [if_neg h1, if_neg h1]

/-- a register's cell, set -/
def RegV.set (v : RegV) (o : Nat) (x : Value) : Nat → Value := fun i => if i = o then x else v.at i
/-- a register is set whole -/
theorem tab_set_reg (nm : Nat) (R : Nat → RegV) (gs lt : Value) (j : Nat) (hj : j < 1536) (v : RegV) :
    ((((((((tabCells nm R gs lt).setIfInBounds (1 + j * 7) (v.at 0)).setIfInBounds (1 + j * 7 + 1) (v.at 1)).setIfInBounds (1 + j * 7 + 2) (v.at 2)).setIfInBounds (1 + j * 7 + 3) (v.at 3)).setIfInBounds (1 + j * 7 + 4) (v.at 4)).setIfInBounds (1 + j * 7 + 5) (v.at 5)).setIfInBounds (1 + j * 7 + 6) (v.at 6)) = tabCells nm (setR R j v) gs lt := by
  apply Array.ext_getElem?
  intro i
  have hsz := tab_size nm R gs lt
  have hg := tab_get nm R gs lt i
  have hg2 := tab_get nm (setR R j v) gs lt i
  generalize tabCells nm R gs lt = X at *
  generalize tabCells nm (setR R j v) gs lt = Y at *
  simp only [Array.getElem?_setIfInBounds, Array.size_setIfInBounds, hsz, hg, hg2]
  clear hg hg2 hsz X Y
  by_cases h : 1 + j * 7 ≤ i ∧ i ≤ 1 + j * 7 + 6
  · obtain ⟨o, ho, rfl⟩ : ∃ o, o < 7 ∧ i = 1 + j * 7 + o := ⟨i - (1 + j * 7), by omega, by omega⟩
    have e1 : (1 + j * 7 + o - 1) / 7 = j := by omega
    have e2 : (1 + j * 7 + o - 1) % 7 = o := by omega
    have e3 : setR R j v j = v := by simp [setR]
    rw [if_neg (c := 1 + j * 7 + o = 0) (by omega), if_pos (c := 1 + j * 7 + o < 10753) (by omega), if_neg (c := 1 + j * 7 + o = 0) (by omega), if_pos (c := 1 + j * 7 + o < 10753) (by omega), e1, e2, e3]
    have hb : 1 + j * 7 + 6 < 10755 := by omega
    clear e1 e2 h e3
    match o, ho with
    | 0, _ => rw [if_neg (by omega), if_neg (by omega), if_neg (by omega), if_neg (by omega), if_neg (by omega), if_neg (by omega), if_pos (by omega), if_pos (by omega)]
    | 1, _ => rw [if_neg (by omega), if_neg (by omega), if_neg (by omega), if_neg (by omega), if_neg (by omega), if_pos (by omega), if_pos (by omega)]
    | 2, _ => rw [if_neg (by omega), if_neg (by omega), if_neg (by omega), if_neg (by omega), if_pos (by omega), if_pos (by omega)]
    | 3, _ => rw [if_neg (by omega), if_neg (by omega), if_neg (by omega), if_pos (by omega), if_pos (by omega)]
    | 4, _ => rw [if_neg (by omega), if_neg (by omega), if_pos (by omega), if_pos (by omega)]
    | 5, _ => rw [if_neg (by omega), if_pos (by omega), if_pos (by omega)]
    | 6, _ => rw [if_pos (by omega), if_pos (by omega)]
  · rw [if_neg (by omega), if_neg (by omega), if_neg (by omega), if_neg (by omega), if_neg (by omega), if_neg (by omega), if_neg (by omega)]
    by_cases h0 : i = 0
    · simp [h0]
    · rw [if_neg h0, if_neg h0]
      by_cases h1 : i < 10753
      · rw [if_pos h1, if_pos h1]
        congr 1
        unfold setR
        rw [if_neg (by omega)]
      · rw [if_neg h1, if_neg h1]

end Go.Proofs.Yticljfpippbkkaa

/-
  A region that draws its order, walked once; its last operation may leave the class. Conditions: those of the theorems.
-/
namespace Go.Sp
open Go
variable {P : Program} {ops : Array Oper} {md : Region.Mode} {C : World → Prop} {Q : Exit → Act → World → Prop}

def allIn (ops : Array Oper) (listed : Array Bool) : Prop := ∀ k, k < ops.size → listed.getD k false = true
def allInB (ops : Array Oper) (listed : Array Bool) : Bool := (List.range ops.size).all fun k => listed.getD k false
theorem allIn_of {listed : Array Bool} (h : allInB ops listed = true) : allIn ops listed := fun k hk => List.all_eq_true.1 h k (List.mem_range.2 hk)

/-- Whatever order is picked from here on; each world on the way is of the class, but for the last one. -/
def wpAnyE (P : Program) (md : Region.Mode) (ops : Array Oper) (C : World → Prop) (Q : Exit → Act → World → Prop) : Nat → Array Bool → Act → World → Prop
  | 0, listed, a, w => (C w ∨ allIn ops listed) ∧ Region.ready md ops listed = [] ∧ Q .normal a w
  | fuel + 1, listed, a, w => (C w ∨ allIn ops listed) ∧ (Region.ready md ops listed = [] → Q .normal a w) ∧
    ∀ i ∈ Region.ready md ops listed, wpOp P ops Q i (wpAnyE P md ops C Q fuel (listed.setIfInBounds i true)) a w

theorem wpAnyE.cls {f : Nat} {listed : Array Bool} {a : Act} {w : World} (h : wpAnyE P md ops C Q f listed a w) : C w ∨ allIn ops listed := by
  cases f with
  | zero => exact h.1
  | succ f => exact h.1

theorem wpAny_of_E : ∀ (f : Nat) (listed : Array Bool) (a : Act) (w : World), wpAnyE P md ops C Q f listed a w → wpAny P md ops Q f listed a w
  | 0, _, _, _, h => h.2
  | f + 1, _, _, _, h => ⟨h.2.1, fun i hi => wpOp_mono (fun a' w' h' => wpAny_of_E f _ a' w' h') (h.2.2 i hi)⟩

theorem wpE_first {i q : Nat} {oi : Oper} {v : Value} (hi : ops[i]? = some oi) (hsel : ∀ (j : Nat) (o : Oper) cs b, ops[j]? = some o → o.op ≠ .select cs b)
    (hQ : ∀ c a w, Q (.panic c) (a.put oi.dst v) w → Q (.panic c) a w) (hq : Region.waitsFor md ops q i = true) :
    ∀ (fuel : Nat) (listed : Array Bool) (a : Act) (w : World),
      (∀ j oj, ops[j]? = some oj → j ≠ i → listed.getD j true = false → (∀ e ∈ oj.after, Region.binds md e = true → e.on ≠ i) → oi.apart ops oj = true) →
      i ∈ Region.ready md ops listed → listed.getD q false = false → YieldsC P ops C oi v a →
      wpAnyE P md ops C Q fuel (listed.setIfInBounds i true) (a.put oi.dst v) w → wpAnyE P md ops C Q (fuel + 1) listed a w := by
  obtain ⟨oq, hoq, e0, he0, hb0, hon0⟩ := Region.waitsFor_spec hq
  have hqs : q < ops.size := (Array.getElem?_eq_some_iff.1 hoq).1
  have hqi : ∀ listed : Array Bool, i ∈ Region.ready md ops listed → listed.getD q false = false → q ≠ i := by
    rintro listed hr hu rfl
    obtain ⟨hun, o, ho, hall⟩ := mem_ready.1 hr
    have : o = oq := Option.some.inj (ho.symm.trans hoq)
    subst this
    have := hall e0 he0 hb0
    rw [hon0] at this
    rw [this] at hu; cases hu
  have key : ∀ (f : Nat) (listed : Array Bool) (a : Act) (w : World), i ∈ Region.ready md ops listed → listed.getD q false = false → wpAnyE P md ops C Q f (listed.setIfInBounds i true) a w → C w := by
    intro f listed a w hr hu h
    rcases h.cls with h | h
    · exact h
    · have h1 := h q hqs
      rw [getD_set_ne false (Ne.symm (hqi listed hr hu))] at h1
      rw [h1] at hu; cases hu
  intro fuel
  induction fuel with
  | zero =>
    intro listed a w _ hr hu hy H
    have hC := key _ listed _ w hr hu H
    refine ⟨.inl hC, fun h => (by rw [h] at hr; cases hr), fun j hj => ?_⟩
    by_cases hji : j = i
    · subst hji; exact hy.wpOp hi hC H
    · have := ready_mono hj hji
      rw [H.2.1] at this
      cases this
  | succ fuel ih =>
    intro listed a w hfree hr hu hy H
    have hC := key _ listed _ w hr hu H
    refine ⟨.inl hC, fun h => (by rw [h] at hr; cases hr), fun j hj => ?_⟩
    by_cases hji : j = i
    · subst hji; exact hy.wpOp hi hC H
    · have h1 := H.2.2 j (ready_mono hj hji)
      obtain ⟨hjun, oj, hoj, hall⟩ := mem_ready.1 hj
      have hnot : ∀ e ∈ oj.after, Region.binds md e = true → e.on ≠ i := fun e he hb heq => by
        have h1 := hall e he hb
        have h0 := (mem_ready.1 hr).1
        rw [heq] at h1
        rcases Nat.lt_or_ge i listed.size with h' | h'
        · simp [h'] at h0 h1; rw [h0] at h1; cases h1
        · simp [Array.getElem?_eq_none h'] at h1
      have hjq : j ≠ q := by
        rintro rfl
        have : oj = oq := Option.some.inj (hoj.symm.trans hoq)
        subst this
        exact hnot e0 he0 hb0 hon0
      have h2 := wpOp_putC hoj (hfree j oj hoj hji hjun hnot) (fun cs b => hsel i oi cs b hi) (fun cs b => hsel j oj cs b hoj) hQ hy h1
      have hfree' : ∀ k ok, ops[k]? = some ok → k ≠ i → (listed.setIfInBounds j true).getD k true = false →
          (∀ e ∈ ok.after, Region.binds md e = true → e.on ≠ i) → oi.apart ops ok = true := fun k ok hk hki hun hno => by
        refine hfree k ok hk hki ?_ hno
        by_cases hjk : j = k
        · subst hjk; exact hjun
        · rw [getD_set_ne true hjk] at hun; exact hun
      refine wpOp_mono (fun a' w' h3 => ih (listed.setIfInBounds j true) a' w' hfree' (ready_mono hr (Ne.symm hji)) (by rw [getD_set_ne false hjq]; exact hu) h3.1 ?_) h2
      rw [Array.setIfInBounds_comm _ _ hji]
      exact h3.2

/-- An operation that only reads is taken first; q: one that waits for it. -/
theorem wpE_take {i q : Nat} {oi : Oper} {v : Value} {fuel : Nat} {listed : Array Bool} {a : Act} {w : World} (hi : ops[i]? = some oi)
    (hs : Region.noSelect ops = true) (hf : Region.free md ops listed i = true) (hr : (Region.ready md ops listed).contains i = true) (hq : Region.waitsFor md ops q i = true) (hu : listed.getD q false = false)
    (hQ : ∀ c a w, Q (.panic c) (a.put oi.dst v) w → Q (.panic c) a w) (hg : Region.wanted oi (yielded ops a.tmps) = true) (hy : ∀ w, C w → (execOp a.eval oi).run P w = .ok (.value v) w)
    (h : wpAnyE P md ops C Q fuel (listed.setIfInBounds i true) (a.put oi.dst v) w) : wpAnyE P md ops C Q (fuel + 1) listed a w :=
  wpE_first hi (Region.noSelect_spec hs) hQ hq fuel listed a w (Region.free_spec hi hf) (by simpa using hr) hu (.inl ⟨hg, hy⟩) h
theorem wpE_pass {i q : Nat} {oi : Oper} {fuel : Nat} {listed : Array Bool} {a : Act} {w : World} (hi : ops[i]? = some oi)
    (hs : Region.noSelect ops = true) (hf : Region.free md ops listed i = true) (hr : (Region.ready md ops listed).contains i = true) (hq : Region.waitsFor md ops q i = true) (hu : listed.getD q false = false)
    (hQ : ∀ c a w, Q (.panic c) (a.put oi.dst undef) w → Q (.panic c) a w) (hg : Region.wanted oi (yielded ops a.tmps) = false)
    (h : wpAnyE P md ops C Q fuel (listed.setIfInBounds i true) (a.put oi.dst undef) w) : wpAnyE P md ops C Q (fuel + 1) listed a w :=
  wpE_first hi (Region.noSelect_spec hs) hQ hq fuel listed a w (Region.free_spec hi hf) (by simpa using hr) hu (.inr ⟨hg, rfl⟩) h

/-- The one operation that can come next. -/
theorem wpE_one {i : Nat} {o : Oper} {fuel : Nat} {listed : Array Bool} {a : Act} {w : World} (hi : ops[i]? = some o) (hr : Region.ready md ops listed = [i]) (hC : C w)
    (h : ∀ K : Act → World → Prop, (∀ a w, wpAnyE P md ops C Q fuel (listed.setIfInBounds i true) a w → K a w) → if Region.wanted o (yielded ops a.tmps) = true then Oper.wp P o a w K Q else K (a.put o.dst undef) w) :
    wpAnyE P md ops C Q (fuel + 1) listed a w := by
  refine ⟨.inl hC, fun h0 => (by rw [hr] at h0; cases h0), fun j hj => ?_⟩
  rw [hr] at hj
  obtain rfl : j = i := by simpa using hj
  exact wpOp_step hi h
theorem wpE_done {fuel : Nat} {listed : Array Bool} {a : Act} {w : World} (hr : Region.ready md ops listed = []) (hl : allInB ops listed = true) (h : Q .normal a w) : wpAnyE P md ops C Q fuel listed a w := by
  cases fuel with
  | zero => exact ⟨.inr (allIn_of hl), hr, h⟩
  | succ f => exact ⟨.inr (allIn_of hl), fun _ => h, by rw [hr]; simp⟩
theorem wp_region_E (C : World → Prop) {id : Nat} {a : Act} {w : World} (hm : P.follows .mixedOrders = true)
    (h : wpAnyE P .any ops C Q ops.size (Array.replicate ops.size false) a w.drew) : (Code.region id ops true).wp P Q a w :=
  wp_region_any hm (wpAny_of_E _ _ _ _ h)
end Go.Sp

/-
  A table in memory. Conditions: those that each theorem names.
-/
namespace Go.Proofs.Yticljfpippbkkaa
open Go.RowKit Go.Sp
variable {W w w' : World} {F A : HProp}

structure GrpV where
  kind : Int
  nb : Nat
  rb : Nat
  av : Value
def GrpV.cells (v : GrpV) : List Value := [.int .i64 v.kind, .map (some v.nb), .map (some v.rb), v.av]
def flatG (V : List GrpV) : List Value := V.flatMap GrpV.cells
theorem flatG_len (V : List GrpV) : (flatG V).length = V.length * 4 := by
  induction V with
  | nil => rfl
  | cons v V ih => simp [flatG, GrpV.cells] at ih ⊢; omega
theorem flatG_cons (v : GrpV) (V : List GrpV) : flatG (v :: V) = v.cells ++ flatG V := rfl
theorem flatG_app (V U : List GrpV) : flatG (V ++ U) = flatG V ++ flatG U := by simp [flatG]
theorem flatG_get (V : List GrpV) : ∀ (i j : Nat) (x : Value), (h : i < V.length) → V[i].cells[j]? = some x → (flatG V)[i * 4 + j]? = some x := by
  induction V with
  | nil => intro i j v h; simp at h
  | cons u V ih =>
    intro i j x h hx
    cases i with
    | zero =>
      have hj : j < u.cells.length := (List.getElem?_eq_some_iff.1 hx).1
      rw [flatG_cons, List.getElem?_append_left (by simpa using hj)]
      simpa using hx
    | succ i =>
      rw [flatG_cons, List.getElem?_append_right (by simp [GrpV.cells]; omega)]
      have := ih i j x (by simpa using h) (by simpa using hx)
      rw [← this]
      congr 1
      simp [GrpV.cells]; omega
theorem flatG_one (V : List GrpV) (h : ∀ v ∈ V, v.av.oneCell' = true) : ∀ u ∈ flatG V, u.oneCell' = true := by
  intro u hu
  simp only [flatG, List.mem_flatMap, GrpV.cells] at hu
  obtain ⟨t, ht, h2⟩ := hu
  simp only [List.mem_cons, List.not_mem_nil, or_false] at h2
  rcases h2 with rfl | rfl | rfl | rfl
  · rfl
  · rfl
  · rfl
  · exact h t ht

def RepO (m : Nat → Option Obj) : Option RegV → Option RegS → Prop
  | none, none => True
  | some v, some s => Rep m v s ∧ s.toks.length ≤ 20000
  | _, _ => False
theorem RepO.mono {m m' : Nat → Option Obj} (hm : ∀ k o, m k = some o → m' k = some o) : ∀ {a : Option RegV} {b : Option RegS}, RepO m a b → RepO m' a b
  | none, none, _ => trivial
  | some _, some _, h => ⟨h.1.mono hm, h.2⟩
  | none, some _, h => h.elim
  | some _, none, h => h.elim

/-- one group -/
def grp1 (m : Nat → Option Obj) (v : GrpV) (s : GrpS) : HProp :=
  fact (v.kind = s.kind ∧ s.after.length ≤ 20000) (ex fun nn : Nat => ex fun rn : Nat => ex fun f : Int × Int → Option RegV => fact (∀ k, RepO m (f k) (s.regs k))
    (mapH Value.string Mean.val v.nb nn s.names * (mapH kE2 RegV.val v.rb rn f * rowT v.av s.after)))
def grpsH (m : Nat → Option Obj) : List GrpV → List GrpS → HProp
  | [], [] => emp
  | v :: V, s :: S => grp1 m v s * grpsH m V S
  | _, _ => fact False emp

theorem grpsH_snoc (m : Nat → Option Obj) (v : GrpV) (s : GrpS) : ∀ (V : List GrpV) (S : List GrpS), V.length = S.length → grpsH m (V ++ [v]) (S ++ [s]) = grp1 m v s * grpsH m V S
  | [], [], _ => rfl
  | u :: V, t :: S, h => by
    have := grpsH_snoc m v s V S (by simpa using h)
    simp only [List.cons_append, grpsH, this]
    ac_rfl
theorem grpsH_mid (m : Nat → Option Obj) (v : GrpV) (s : GrpS) (V2 : List GrpV) (S2 : List GrpS) : ∀ (V : List GrpV) (S : List GrpS), V.length = S.length → grpsH m (V ++ v :: V2) (S ++ s :: S2) = grp1 m v s * grpsH m (V ++ V2) (S ++ S2)
  | [], [], _ => rfl
  | u :: V, t :: S, h => by
    have := grpsH_mid m v s V2 S2 V S (by simpa using h)
    simp only [List.cons_append, grpsH, this]
    ac_rfl

theorem grp1_mono {m m' : Nat → Option Obj} (hm : ∀ k o, m k = some o → m' k = some o) (v : GrpV) (s : GrpS) : ∀ x, grp1 m v s x → grp1 m' v s x :=
  fun _ ⟨h1, nn, rn, f, h2, h3⟩ => ⟨h1, nn, rn, f, fun k => (h2 k).mono hm, h3⟩
theorem grpsH_mono {m m' : Nat → Option Obj} (hm : ∀ k o, m k = some o → m' k = some o) : ∀ (V : List GrpV) (S : List GrpS) (x), grpsH m V S x → grpsH m' V S x
  | [], [], _, h => h
  | v :: V, s :: S, _, ⟨a, b, hd, hu, h1, h2⟩ => ⟨a, b, hd, hu, grp1_mono hm v s a h1, grpsH_mono hm V S b h2⟩
  | [], _ :: _, _, h => h.1.elim
  | _ :: _, [], _, h => h.1.elim

/-- A table, with what the rest of the call owns. -/
def TabAt (W : World) (F : HProp) (b N : Nat) (S : TabS) (w : World) : Prop :=
  ∃ (m : Nat → Option Obj) (nm : Nat) (gs lt : Value) (R : Nat → RegV) (V : List GrpV),
    ((∀ j, j < 1536 → Rep m (R j) (S.regs j) ∧ (S.regs j).toks.length ≤ 20000) ∧ RdM m lt S.later ∧ S.later.length ≤ 20000 ∧ V.length = S.groups.length ∧ S.groups.length ≤ 200) ∧
    Sat W (pts b (.cells (tabCells nm R gs lt) 64) * (roH m * (mapH Value.string Mean.val nm N S.names * (row gs V.length 143 4 (flatG V) * (grpsH m V S.groups * F))))) w

theorem TabAt.sat {b N : Nat} {S : TabS} (h : TabAt W F b N S w) : Sat W F w := by
  obtain ⟨m, nm, gs, lt, R, V, _, h⟩ := h
  exact h.r.r.r.r.r
theorem TabAt.of_eq {b N : Nat} {S : TabS} {F' : HProp} (h : TabAt W F b N S w) (e : F = F') : TabAt W F' b N S w := e ▸ h

set_option maxRecDepth 100000 in
theorem good_any {b N : Nat} {S : TabS} (h : TabAt W F b N S w) : Calls Try.prog 68 #[.pointer (some ⟨b, 0, none⟩)] w fun e w' => e = .returned (.bool true) ∧ w = w' := by
  obtain ⟨m, nm, gs, lt, R, V, _, h⟩ := h
  have c0 := h.cell (i := 0) (tab_names nm R gs lt)
  have qT : (binOp .neq 55 (.map (some nm)) (.map none)).run Try.prog w = .ok (.bool true) w := run_neq_map_nil w _ _ _ (some nm) Try.underlying55
  clear h
  go_enter Try.func68, Try.ntmps68
  go_wp2
  go_ret
  exact ⟨rfl, rfl⟩

/-- what 'wrong' says of a register -/
def wrongE (c i : Int) : Int := if c < 1 ∨ 5 < c then 1 else if i < 0 ∨ 256 ≤ i then 11 else 0

theorem wrong_any {b N : Nat} {S : TabS} (c i : Int) (h : TabAt W F b N S w) : Calls Try.prog 62 #[.pointer (some ⟨b, 0, none⟩), .int .i64 c, .int .i64 i] w fun e w' => e = .returned (.int .i64 (wrongE c i)) ∧ w = w' := by
  have HG := Lib.hid (good_any h)
  clear h
  by_cases h1 : c < 1 ∨ 5 < c
  · have e1 : wrongE c i = 1 := by rw [wrongE, if_pos h1]
    rw [e1]
    rcases h1 with h1 | h1
    · clear e1
      go_enter Try.func62, Try.ntmps62
      go_wp2_with fail
      refine Calls.mono HG.out ?_
      rintro e w' ⟨rfl, rfl⟩
      go_wp2
      go_ret
      exact ⟨rfl, rfl⟩
    · have h2 : ¬ c < 1 := by omega
      clear e1
      go_enter Try.func62, Try.ntmps62
      go_wp2_with fail
      refine Calls.mono HG.out ?_
      rintro e w' ⟨rfl, rfl⟩
      go_wp2
      go_ret
      exact ⟨rfl, rfl⟩
  · have h2 : ¬ c < 1 := by omega
    have h3 : ¬ 5 < c := by omega
    by_cases h4 : i < 0 ∨ 256 ≤ i
    · have e1 : wrongE c i = 11 := by rw [wrongE, if_neg h1, if_pos h4]
      rw [e1]
      clear h1 e1
      rcases h4 with h4 | h4
      · go_enter Try.func62, Try.ntmps62
        go_wp2_with fail
        refine Calls.mono HG.out ?_
        rintro e w' ⟨rfl, rfl⟩
        go_wp2
        go_ret
        exact ⟨rfl, rfl⟩
      · have h5 : ¬ i < 0 := by omega
        go_enter Try.func62, Try.ntmps62
        go_wp2_with fail
        refine Calls.mono HG.out ?_
        rintro e w' ⟨rfl, rfl⟩
        go_wp2
        go_ret
        exact ⟨rfl, rfl⟩
    · have e1 : wrongE c i = 0 := by rw [wrongE, if_neg h1, if_neg h4]
      rw [e1]
      have h5 : ¬ i < 0 := by omega
      have h6 : ¬ 256 ≤ i := by omega
      clear h1 h4 e1
      go_enter Try.func62, Try.ntmps62
      go_wp2_with fail
      refine Calls.mono HG.out ?_
      rintro e w' ⟨rfl, rfl⟩
      go_wp2
      go_ret
      exact ⟨rfl, rfl⟩

theorem Sat.row_value {v : Value} {n : Nat} {e : TypeId} {size : Nat} {xs : List Value} (h : Sat W (row v n e size xs * A) w) : ∃ a cap, v = .slice a n cap := by
  obtain ⟨a, cap, h1, _⟩ := h.row_val
  exact ⟨a, cap, h1⟩

end Go.Proofs.Yticljfpippbkkaa

/-
  A table: groups begin; what is kept and looked up. Conditions: those that each theorem names.
-/
namespace Go.Proofs.Yticljfpippbkkaa
open Go.RowKit Go.Sp
variable {W w w' : World} {F A : HProp}

theorem row_empty (h : Sat W F w) : Sat W (row (.slice (some ⟨w.heap.size, 0, none⟩) 0 0) 0 28 3 [] * F) (w.alloc (.cells #[] 28)) :=
  (h.alloc (.cells #[] 28)).row_whole 0 (size := 3) (by simp [maxLen]) (by simp)
theorem rowT_one {v : Value} {X : List Tok} {n : Nat} {xs : List Value} (h : Sat W (row v n 28 3 xs * F) w) (hn : n = X.length) (hx : xs = flat X) : Sat W (rowT v X * F) w := by
  subst hn hx; exact h

set_option maxRecDepth 100000 in
set_option maxHeartbeats 4000000 in
theorem clone_any (v : Value) (L : List Tok) (hv : ∀ w', Sat W F w' → RdT w' v L) (hl : L.length ≤ 1000000) (h : Sat W F w) :
    Calls Try.prog 26 #[v] w fun e w' => ∃ u, e = .returned u ∧ Sat W (rowT u L * F) w' := by
  obtain ⟨i0, hi, hz0, hz1, hz2⟩ := info_parts3 info_tok
  have HI := Lib.hid hi
  have HZ0 := Lib.hid hz0
  have HZ1 := Lib.hid hz1
  have HZ2 := Lib.hid hz2
  clear hi hz0 hz1 hz2
  obtain ⟨a, cap, rfl⟩ := (hv w h).val
  have H := Lib.hid h
  have HV := Lib.hid hv
  have qT : (binOp .eql 22 (.slice a L.length cap) (.slice none 0 0)).run Try.prog w = .ok (.bool a.isNone) w := Lib.run_eql_slice_nil w _ _ a _ _ _ _ Try.underlying22
  have HL := Lib.hid hl
  clear h hv hl
  cases a with
  | none =>
    have h0 : L = [] := by
      rcases Nat.eq_zero_or_pos L.length with h0 | h0
      · exact List.eq_nil_of_length_eq_zero h0
      · obtain ⟨b, off, c, e, _⟩ := (HV.out w H.out).head h0
        cases e
    subst h0
    simp only [List.length_nil] at qT
    go_enter Try.func26, Try.ntmps26
    go_wp2
    go_ret
    exact ⟨_, rfl, H.out.row_nil⟩
  | some a =>
    have HE := Lib.hid (row_empty H.out)
    have HR := Lib.hid ((HV.out w H.out).ext (Ext.alloc (Ext.refl w) (o := .cells #[] 28))).1
    go_enter Try.func26, Try.ntmps26
    go_upto_region 3 with fail
    go_step
    refine wpList_plain rfl (fun K hK => ?_)
    go_simp
    refine hK _ _ ?_
    clear hK K
    refine wpList_plain rfl (fun K hK => ?_)
    go_simp
    refine hK _ _ ?_
    clear hK K
    refine wpList_append_rd rfl _ _ 22 rfl i0 _ 32 Try.underlying22 HI.out HZ0.out HZ1.out HZ2.out rfl (by omega) rfl HE.out (.slice (some a) L.length cap) L.length (flat L) rfl HR.out (flat_one L) ?_ ?_ ?_
    · have := HL.out; simp [maxLen]; omega
    · have := HL.out; omega
    intro v1 w1 h1
    have H1 := Lib.hid (rowT_one (X := L) h1 (by simp) (by simp))
    clear h1
    go_wp2
    go_ret
    exact ⟨_, rfl, H1.out⟩

end Go.Proofs.Yticljfpippbkkaa

/-
  A table: groups begin. Conditions: those that each theorem names.
-/
namespace Go.Proofs.Yticljfpippbkkaa
open Go.RowKit Go.Sp
variable {W w w' : World} {F A : HProp}

theorem info_grp : (Try.prog.info? 143).map (fun i => (i.zero, i.size, i.bytes)) = some (some (.agg #[.int .i64 0, .map none, .map none, .slice none 0 0]), 4, 48) := by kernel_rfl
theorem info_parts3G {P : Program} {e : TypeId} {z : Value} {s b : Nat} (h : (P.info? e).map (fun i => (i.zero, i.size, i.bytes)) = some (some z, s, b)) : ∃ i, P.info? e = some i ∧ i.zero = some z ∧ i.size = s ∧ i.bytes = b := by
  cases hi : P.info? e with
  | none => rw [hi] at h; cases h
  | some i =>
    rw [hi] at h
    simp only [Option.map_some, Option.some.injEq, Prod.mk.injEq] at h
    exact ⟨i, rfl, h.1, h.2.1, h.2.2⟩

def grp0 (k : Int) : GrpS := ⟨k, fun _ => none, fun _ => none, []⟩
def TabS.begun (S : TabS) (k : Int) : TabS := { S with groups := S.groups ++ [grp0 k] }

theorem slices_one {v : Value} {n : Nat} {e : TypeId} {xs : List Value} (h : Sat W (row v n e 3 xs * A) w) : v.oneCell' = true := by
  obtain ⟨a, c, rfl, _⟩ := h.row_val
  rfl

/-- the slices of all groups are one cell each -/
theorem grp_one {m : Nat → Option Obj} : ∀ (V : List GrpV) (S : List GrpS) (w : World), Sat W (grpsH m V S * A) w → ∀ v ∈ V, v.av.oneCell' = true
  | [], _, _, _, v, hv => by simp at hv
  | u :: V, [], _, h, _, _ => by
    have h' : Sat W (fact False emp * A) _ := h
    exact h'.fact_l.1.elim
  | u :: V, s :: S, w, h, v, hv => by
    have h' : Sat W (grp1 m u s * (grpsH m V S * A)) w := h.asc
    rcases List.mem_cons.1 hv with rfl | hv
    · obtain ⟨_, h2⟩ := h'.fact_l
      obtain ⟨nn, h3⟩ := h2.ex_l
      obtain ⟨rn, h4⟩ := h3.ex_l
      obtain ⟨f, h5⟩ := h4.ex_l
      obtain ⟨_, h6⟩ := h5.fact_l
      have h7 := h6.asc.r.asc.r
      exact slices_one h7
    · exact grp_one V S w h'.r v hv

theorem _root_.Go.Sp.Sat.grp_open {m : Nat → Option Obj} {v : GrpV} {s : GrpS} (h : Sat W (grp1 m v s * A) w) : (v.kind = s.kind ∧ s.after.length ≤ 20000) ∧ ∃ (nn rn : Nat) (f : Int × Int → Option RegV), (∀ k, RepO m (f k) (s.regs k)) ∧
    Sat W (mapH Value.string Mean.val v.nb nn s.names * (mapH kE2 RegV.val v.rb rn f * (rowT v.av s.after * A))) w := by
  obtain ⟨h1, h2⟩ := h.fact_l
  obtain ⟨nn, h3⟩ := h2.ex_l
  obtain ⟨rn, h4⟩ := h3.ex_l
  obtain ⟨f, h5⟩ := h4.ex_l
  obtain ⟨h6, h7⟩ := h5.fact_l
  exact ⟨h1, nn, rn, f, h6, h7.of_eq (by ac_rfl)⟩
theorem _root_.Go.Sp.Sat.grp_mk {m : Nat → Option Obj} {v : GrpV} {s : GrpS} {nn rn : Nat} {f : Int × Int → Option RegV} (h : Sat W (mapH Value.string Mean.val v.nb nn s.names * (mapH kE2 RegV.val v.rb rn f * (rowT v.av s.after * A))) w)
    (h1 : v.kind = s.kind ∧ s.after.length ≤ 20000) (h6 : ∀ k, RepO m (f k) (s.regs k)) : Sat W (grp1 m v s * A) w :=
  Sat.fact_l_intro h1 (Sat.ex_l_intro nn (Sat.ex_l_intro rn (Sat.ex_l_intro f (Sat.fact_l_intro h6 (h.of_eq (by ac_rfl))))))

end Go.Proofs.Yticljfpippbkkaa
