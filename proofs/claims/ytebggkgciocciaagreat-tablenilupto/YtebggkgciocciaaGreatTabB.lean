
/-
  A table in memory: its cells, its groups, what it is. Conditions: those that each theorem names.
-/
import Derived.Test.YtebggkgciocciaaGreatTabA
import Derived.Test.YtebggkgciocciaaGreatTokRow
import Derived.Test.YtebggkgciocciaaGreatStep
namespace Go.Proofs.YtebggkgciocciaaGreat
open Go.RowKit Go.Sp
variable {W w w' : World} {F A : HProp}

/-! ### plain things -/
structure Gl where
  nat : Int
  stretch : Int
  shrink : Int
  so : Int
  ko : Int
structure Mean where
  kind : Int
  cls : Int
  code : Int
  cat : Int
  text : ByteArray
/-- a register, its tokens as a slice; and as a list -/
structure RegV where
  n : Int
  g : Gl
  s : Value
structure RegS where
  n : Int
  g : Gl
  toks : List Tok
structure GrpS where
  kind : Int
  names : ByteArray → Option Mean
  regs : Int × Int → Option RegS
  after : List Tok
structure TabS where
  names : ByteArray → Option Mean
  regs : Nat → RegS
  groups : List GrpS
  later : List Tok

def Gl.cells (g : Gl) : List Value := [.int .i64 g.nat, .int .i64 g.stretch, .int .i64 g.shrink, .int .i64 g.so, .int .i64 g.ko]
def Mean.cells (m : Mean) : List Value := [.int .i64 m.kind, .int .i64 m.cls, .int .i64 m.code, .int .i64 m.cat, .string m.text]
def RegV.cells (v : RegV) : List Value := [.int .i64 v.n, .int .i64 v.g.nat, .int .i64 v.g.stretch, .int .i64 v.g.shrink, .int .i64 v.g.so, .int .i64 v.g.ko, v.s]
abbrev Mean.val (m : Mean) : Value := .agg #[.int .i64 m.kind, .int .i64 m.cls, .int .i64 m.code, .int .i64 m.cat, .string m.text]
abbrev RegV.val (v : RegV) : Value := .agg #[.int .i64 v.n, .int .i64 v.g.nat, .int .i64 v.g.stretch, .int .i64 v.g.shrink, .int .i64 v.g.so, .int .i64 v.g.ko, v.s]
abbrev RegV.box (v : RegV) : Obj := .cells #[.int .i64 v.n, .int .i64 v.g.nat, .int .i64 v.g.stretch, .int .i64 v.g.shrink, .int .i64 v.g.so, .int .i64 v.g.ko, v.s] 29

theorem RegV.val_inj (a b : RegV) (h : a.val = b.val) : a = b := by
  obtain ⟨n, ⟨g1, g2, g3, g4, g5⟩, s⟩ := a
  obtain ⟨n', ⟨h1, h2, h3, h4, h5⟩, s'⟩ := b
  simp [RegV.val] at h
  simp [h]
theorem Mean.val_inj (a b : Mean) (h : a.val = b.val) : a = b := by
  obtain ⟨k, c, d, e, t⟩ := a
  obtain ⟨k', c', d', e', t'⟩ := b
  simp [Mean.val] at h
  simp [h]

/-! ### the part of the heap that stays -/
def roH (m : Nat → Option Obj) : HProp := fun h => ∀ k, h k = m k
/-- in that part the slice v is the list L -/
def RdM (m : Nat → Option Obj) (v : Value) (L : List Tok) : Prop := ∀ w : World, (∀ k o, m k = some o → w.heap[k]? = some o) → RdT w v L
def Rep (m : Nat → Option Obj) (v : RegV) (s : RegS) : Prop := v.n = s.n ∧ v.g = s.g ∧ RdM m v.s s.toks

theorem _root_.Go.Sp.Sat.ro_rd {m : Nat → Option Obj} {v : Value} {L : List Tok} (h : Sat W (roH m * A) w) (hr : RdM m v L) : RdT w v L := by
  obtain ⟨_, x, hx, hm⟩ := h.l
  exact hr w fun k o hk => hx k o ((hm k).trans hk)

/-- What is owned joins the part that stays. -/
theorem _root_.Go.Sp.Sat.ro_join {m : Nat → Option Obj} {B : HProp} (h : Sat W (B * (roH m * A)) w) : ∃ m', Sat W (roH m' * A) w ∧ (∀ k o, m k = some o → m' k = some o) ∧
    ∃ h0 : Nat → Option Obj, B h0 ∧ ∀ k o, h0 k = some o → m' k = some o := by
  obtain ⟨h1, x, hx, a, r, hd, hu, hB, hr⟩ := h.asc'
  obtain ⟨b0, c0, hd2, hu2, hb0, hc0⟩ := hB
  refine ⟨a, ⟨h1, x, hx, a, r, hd, hu, fun k => rfl, hr⟩, fun k o hk => ?_, b0, hb0, fun k o hk => ?_⟩
  · rw [hu2 k]
    have := hc0 k
    rw [hk] at this
    rcases hd2 k with h | h
    · rw [h, this]; rfl
    · rw [this] at h; cases h
  · rw [hu2 k, hk]; rfl

theorem RdM.mono {m m' : Nat → Option Obj} {v : Value} {L : List Tok} (h : RdM m v L) (hm : ∀ k o, m k = some o → m' k = some o) : RdM m' v L := fun w hw => h w fun k o hk => hw k o (hm k o hk)
theorem Rep.mono {m m' : Nat → Option Obj} {v : RegV} {s : RegS} (h : Rep m v s) (hm : ∀ k o, m k = some o → m' k = some o) : Rep m' v s := ⟨h.1, h.2.1, h.2.2.mono hm⟩
theorem RdM.nil (m : Nat → Option Obj) (a : Option Addr) (c : Nat) : RdM m (.slice a 0 c) [] := fun w _ => RdT.empty w a c

/-- a list of tokens that is owned comes to stay -/
theorem _root_.Go.Sp.Sat.row_stays {m : Nat → Option Obj} {v : Value} {L : List Tok} (h : Sat W (rowT v L * (roH m * A)) w) : ∃ m', Sat W (roH m' * A) w ∧ (∀ k o, m k = some o → m' k = some o) ∧ RdM m' v L := by
  obtain ⟨m', h1, h2, h0, hB, h3⟩ := h.ro_join
  refine ⟨m', h1, h2, fun w0 hw0 => ?_⟩
  have hs : Sat w0 (rowT v L) w0 := ⟨⟨rfl, rfl, rfl⟩, h0, fun k o hk => hw0 k o (h3 k o hk), hB⟩
  exact rowT_rd (A := emp) (hs.of_eq (by rw [star_comm, emp_star]))

/-! ### the table's cells -/
def regCells (R : Nat → RegV) : Nat → List Value
  | 0 => []
  | n + 1 => regCells R n ++ (R n).cells
theorem regCells_len (R : Nat → RegV) (n : Nat) : (regCells R n).length = n * 7 := by
  induction n with
  | zero => rfl
  | succ n ih => rw [regCells, List.length_append, ih]; simp [RegV.cells]; omega
theorem regCells_get (R : Nat → RegV) (n j o : Nat) (hj : j < n) (ho : o < 7) : (regCells R n)[j * 7 + o]? = (R j).cells[o]? := by
  induction n with
  | zero => omega
  | succ n ih =>
    rw [regCells]
    by_cases hjn : j < n
    · rw [List.getElem?_append_left (by rw [regCells_len]; omega), ih hjn]
    · obtain rfl : j = n := by omega
      rw [List.getElem?_append_right (by rw [regCells_len]; omega), regCells_len]
      congr 1
      omega
def tabCells (nm : Nat) (R : Nat → RegV) (gs lt : Value) : Array Value := (.map (some nm) :: (regCells R 1536 ++ [gs, lt])).toArray
theorem tab_size (nm : Nat) (R : Nat → RegV) (gs lt : Value) : (tabCells nm R gs lt).size = 10755 := by
  simp [tabCells, regCells_len]
theorem tab_names (nm : Nat) (R : Nat → RegV) (gs lt : Value) : (tabCells nm R gs lt)[0]? = some (.map (some nm)) := by
  rw [tabCells, List.getElem?_toArray, List.getElem?_cons_zero]
theorem tab_reg (nm : Nat) (R : Nat → RegV) (gs lt : Value) {j o : Nat} (hj : j < 1536) (ho : o < 7) : (tabCells nm R gs lt)[1 + j * 7 + o]? = (R j).cells[o]? := by
  have e : 1 + j * 7 + o = (j * 7 + o) + 1 := by omega
  rw [tabCells, List.getElem?_toArray, e, List.getElem?_cons_succ, List.getElem?_append_left (by rw [regCells_len]; omega), regCells_get R 1536 j o hj ho]
theorem tab_groups (nm : Nat) (R : Nat → RegV) (gs lt : Value) : (tabCells nm R gs lt)[10753]? = some gs := by
  rw [tabCells, List.getElem?_toArray, List.getElem?_cons_succ, List.getElem?_append_right (by rw [regCells_len]; omega), regCells_len]
  simp
theorem tab_later (nm : Nat) (R : Nat → RegV) (gs lt : Value) : (tabCells nm R gs lt)[10754]? = some lt := by
  rw [tabCells, List.getElem?_toArray, List.getElem?_cons_succ, List.getElem?_append_right (by rw [regCells_len]; omega), regCells_len]
  simp

def RegV.at (v : RegV) : Nat → Value
  | 0 => .int .i64 v.n | 1 => .int .i64 v.g.nat | 2 => .int .i64 v.g.stretch | 3 => .int .i64 v.g.shrink | 4 => .int .i64 v.g.so | 5 => .int .i64 v.g.ko | _ => v.s
def setR (R : Nat → RegV) (j : Nat) (v : RegV) : Nat → RegV := fun i => if i = j then v else R i

/-- all cells, by their place -/
theorem tab_get (nm : Nat) (R : Nat → RegV) (gs lt : Value) (i : Nat) : (tabCells nm R gs lt)[i]? =
    if i = 0 then some (.map (some nm)) else if i < 10753 then some ((R ((i - 1) / 7)).at ((i - 1) % 7)) else if i = 10753 then some gs else if i = 10754 then some lt else none := by
  by_cases h0 : i = 0
  · subst h0; rw [tab_names, if_pos rfl]
  · rw [if_neg h0]
    by_cases h1 : i < 10753
    · rw [if_pos h1]
      have e : i = 1 + ((i - 1) / 7) * 7 + (i - 1) % 7 := by omega
      have ho : (i - 1) % 7 < 7 := by omega
      have h2 := tab_reg nm R gs lt (j := (i - 1) / 7) (o := (i - 1) % 7) (by omega) ho
      rw [← e] at h2
      rw [h2]
      generalize (i - 1) % 7 = o at ho
      match o, ho with
      | 0, _ => rfl
      | 1, _ => rfl
      | 2, _ => rfl
      | 3, _ => rfl
      | 4, _ => rfl
      | 5, _ => rfl
      | 6, _ => rfl
    · rw [if_neg h1]
      by_cases h2 : i = 10753
      · subst h2; rw [if_pos rfl, tab_groups]
      · rw [if_neg h2]
        by_cases h3 : i = 10754
        · subst h3; rw [if_pos rfl, tab_later]
        · rw [if_neg h3]
          exact Array.getElem?_eq_none (by rw [tab_size]; omega)

theorem tab_set_groups (nm : Nat) (R : Nat → RegV) (gs lt v : Value) : (tabCells nm R gs lt).setIfInBounds 10753 v = tabCells nm R v lt := by
  apply Array.ext_getElem?
  intro i
  rw [Array.getElem?_setIfInBounds, tab_get, tab_get, tab_size]
  by_cases h : 10753 = i
  · subst h; simp
  · rw [if_neg h, if_neg (c := i = 10753) (Ne.symm h), if_neg (c := i = 10753) (Ne.symm h)]
theorem tab_set_later (nm : Nat) (R : Nat → RegV) (gs lt v : Value) : (tabCells nm R gs lt).setIfInBounds 10754 v = tabCells nm R gs v := by
  apply Array.ext_getElem?
  intro i
  rw [Array.getElem?_setIfInBounds, tab_get, tab_get, tab_size]
  by_cases h : 10754 = i
  · subst h; simp
  · rw [if_neg h, if_neg (c := i = 10754) (Ne.symm h), if_neg (c := i = 10754) (Ne.symm h)]

/-- a register's number is set -/
theorem tab_set_n (nm : Nat) (R : Nat → RegV) (gs lt : Value) (j : Nat) (hj : j < 1536) (z : Int) : (tabCells nm R gs lt).setIfInBounds (1 + j * 7) (.int .i64 z) = tabCells nm (setR R j { R j with n := z }) gs lt := by
  apply Array.ext_getElem?
  intro i
  rw [Array.getElem?_setIfInBounds, tab_get, tab_get, tab_size]
  by_cases h : 1 + j * 7 = i
  · subst h
    have e1 : (1 + j * 7 - 1) / 7 = j := by omega
    have e2 : (1 + j * 7 - 1) % 7 = 0 := by omega
    rw [if_pos rfl, if_pos (by omega), if_neg (by omega), if_pos (by omega), e1, e2]
    simp [setR, RegV.at]
  · rw [if_neg h]
    by_cases h0 : i = 0
    · simp [h0]
    · rw [if_neg h0, if_neg h0]
      by_cases h1 : i < 10753
      · rw [if_pos h1, if_pos h1]
        congr 1
        unfold setR
        split
        · rename_i hij
          have : (i - 1) % 7 ≠ 0 := by omega
          have ho : (i - 1) % 7 < 7 := by omega
          rw [hij]
          generalize (i - 1) % 7 = o at *
          match o, ho with
          | 0, _ => omega
          | 1, _ => rfl
          | 2, _ => rfl
          | 3, _ => rfl
          | 4, _ => rfl
          | 5, _ => rfl
          | 6, _ => rfl
        · rfl
      · rw [if_neg h1, if_neg h1]

/-- a register's cell, set -/
def RegV.set (v : RegV) (o : Nat) (x : Value) : Nat → Value := fun i => if i = o then x else v.at i
/-- a register is set whole -/
theorem tab_set_reg (nm : Nat) (R : Nat → RegV) (gs lt : Value) (j : Nat) (hj : j < 1536) (v : RegV) :
    ((((((((tabCells nm R gs lt).setIfInBounds (1 + j * 7) (v.at 0)).setIfInBounds (1 + j * 7 + 1) (v.at 1)).setIfInBounds (1 + j * 7 + 2) (v.at 2)).setIfInBounds (1 + j * 7 + 3) (v.at 3)).setIfInBounds (1 + j * 7 + 4) (v.at 4)).setIfInBounds (1 + j * 7 + 5) (v.at 5)).setIfInBounds (1 + j * 7 + 6) (v.at 6)) = tabCells nm (setR R j v) gs lt := by
  apply Array.ext_getElem?
  intro i
  have hsz := tab_size nm R gs lt
  have hg := tab_get nm R gs lt i
  have hg2 := tab_get nm (setR R j v) gs lt i
  generalize tabCells nm R gs lt = X at *
  generalize tabCells nm (setR R j v) gs lt = Y at *
  simp only [Array.getElem?_setIfInBounds, Array.size_setIfInBounds, hsz, hg, hg2]
  clear hg hg2 hsz X Y
  by_cases h : 1 + j * 7 ≤ i ∧ i ≤ 1 + j * 7 + 6
  · obtain ⟨o, ho, rfl⟩ : ∃ o, o < 7 ∧ i = 1 + j * 7 + o := ⟨i - (1 + j * 7), by omega, by omega⟩
    have e1 : (1 + j * 7 + o - 1) / 7 = j := by omega
    have e2 : (1 + j * 7 + o - 1) % 7 = o := by omega
    have e3 : setR R j v j = v := by simp [setR]
    rw [if_neg (c := 1 + j * 7 + o = 0) (by omega), if_pos (c := 1 + j * 7 + o < 10753) (by omega), if_neg (c := 1 + j * 7 + o = 0) (by omega), if_pos (c := 1 + j * 7 + o < 10753) (by omega), e1, e2, e3]
    have hb : 1 + j * 7 + 6 < 10755 := by omega
    clear e1 e2 h e3
    match o, ho with
    | 0, _ => rw [if_neg (by omega), if_neg (by omega), if_neg (by omega), if_neg (by omega), if_neg (by omega), if_neg (by omega), if_pos (by omega), if_pos (by omega)]
    | 1, _ => rw [if_neg (by omega), if_neg (by omega), if_neg (by omega), if_neg (by omega), if_neg (by omega), if_pos (by omega), if_pos (by omega)]
    | 2, _ => rw [if_neg (by omega), if_neg (by omega), if_neg (by omega), if_neg (by omega), if_pos (by omega), if_pos (by omega)]
    | 3, _ => rw [if_neg (by omega), if_neg (by omega), if_neg (by omega), if_pos (by omega), if_pos (by omega)]
    | 4, _ => rw [if_neg (by omega), if_neg (by omega), if_pos (by omega), if_pos (by omega)]
    | 5, _ => rw [if_neg (by omega), if_pos (by omega), if_pos (by omega)]
    | 6, _ => rw [if_pos (by omega), if_pos (by omega)]
  · rw [if_neg (by omega), if_neg (by omega), if_neg (by omega), if_neg (by omega), if_neg (by omega), if_neg (by omega), if_neg (by omega)]
    by_cases h0 : i = 0
    · simp [h0]
    · rw [if_neg h0, if_neg h0]
      by_cases h1 : i < 10753
      · rw [if_pos h1, if_pos h1]
        congr 1
        unfold setR
        rw [if_neg (by omega)]
      · rw [if_neg h1, if_neg h1]

end Go.Proofs.YtebggkgciocciaaGreat
