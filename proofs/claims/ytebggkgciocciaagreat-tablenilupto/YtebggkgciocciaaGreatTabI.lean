
/-
  Values of registers: are they right? Conditions: those that each theorem names.
-/
import Derived.Test.YtebggkgciocciaaGreatTabH
namespace Go.Proofs.YtebggkgciocciaaGreat
open Go.RowKit Go.Sp
variable {W w w' : World} {F A : HProp}

def gl0 : Gl := ⟨0, 0, 0, 0, 0⟩
def glue0 (g : Gl) : Bool := g.nat == 0 && (g.stretch == 0 && (g.shrink == 0 && (g.so == 0 && g.ko == 0)))

theorem run_eq_glue (w : World) (g : Gl) : (Op.equalIn 10000 26 g.val gl0.val).run Tryz.prog w = .ok (glue0 g) w := by
  obtain ⟨a, b, c, d, e⟩ := g
  unfold glue0 gl0
  go_simp
  by_cases h1 : a = 0 <;> by_cases h2 : b = 0 <;> by_cases h3 : c = 0 <;> by_cases h4 : d = 0 <;> by_cases h5 : e = 0 <;> simp [h1, h2, h3, h4, h5]
theorem run_eql_glue (w : World) (g : Gl) : (binOp .eql 26 g.val gl0.val).run Tryz.prog w = .ok (.bool (glue0 g)) w := by
  simp only [binOp]
  simp [Op.equal, Op.maxDepth, run_eq_glue w g]

/-- a value in memory, its tokens a list -/
structure ValAt (w : World) (b : Nat) (v : RegS) (s : Value) : Prop where
  c0 : w.cell? ⟨b, 0, none⟩ = some (.int .i64 v.n)
  c1 : w.cell? ⟨b, 1, none⟩ = some (.int .i64 v.g.nat)
  c2 : w.cell? ⟨b, 2, none⟩ = some (.int .i64 v.g.stretch)
  c3 : w.cell? ⟨b, 3, none⟩ = some (.int .i64 v.g.shrink)
  c4 : w.cell? ⟨b, 4, none⟩ = some (.int .i64 v.g.so)
  c5 : w.cell? ⟨b, 5, none⟩ = some (.int .i64 v.g.ko)
  c6 : w.cell? ⟨b, 6, none⟩ = some s
  rd : RdT w s v.toks

def bareN (v : RegS) : Bool := glue0 v.g && ((v.toks.length : Int) == 0)
def bareG (v : RegS) : Bool := v.n == 0 && ((v.toks.length : Int) == 0)
def bareT (v : RegS) : Bool := v.n == 0 && glue0 v.g


set_option maxRecDepth 100000 in
set_option maxHeartbeats 4000000 in
theorem bareN_any {b : Nat} {v : RegS} {s : Value} (h : ValAt w b v s) : Calls Tryz.prog 71 #[.bool true, .bool false, .bool false, .pointer (some ⟨b, 0, none⟩)] w fun e w' => e = .returned (.bool (bareN v)) ∧ w = w' := by
  obtain ⟨n, ⟨g1, g2, g3, g4, g5⟩, L⟩ := v
  obtain ⟨c0, c1, c2, c3, c4, c5, c6, rd⟩ := h
  obtain ⟨a, c, rfl⟩ := rd.val
  obtain ⟨r, hr⟩ : ∃ r, bareN ⟨n, ⟨g1, g2, g3, g4, g5⟩, L⟩ = r := ⟨_, rfl⟩
  rw [hr]
  have HR := Lib.hid hr
  simp only at c0 c1 c2 c3 c4 c5 c6
  obtain ⟨k, hk⟩ : ∃ k, L.length = k := ⟨_, rfl⟩
  have HK := Lib.hid hk
  rw [hk] at c6
  clear rd hr hk
  go_enter Tryz.func71, Tryz.ntmps71
  go_wp2
  all_goals
    go_ret
    refine ⟨?_, rfl⟩
    rw [← HR.out]
    have hk := HK.out
    first | (simp_all [bareN, glue0]; done) | (go_ways; fail)
set_option maxRecDepth 100000 in
set_option maxHeartbeats 4000000 in
theorem bareG_any {b : Nat} {v : RegS} {s : Value} (h : ValAt w b v s) : Calls Tryz.prog 71 #[.bool false, .bool true, .bool false, .pointer (some ⟨b, 0, none⟩)] w fun e w' => e = .returned (.bool (bareG v)) ∧ w = w' := by
  obtain ⟨n, ⟨g1, g2, g3, g4, g5⟩, L⟩ := v
  obtain ⟨c0, c1, c2, c3, c4, c5, c6, rd⟩ := h
  obtain ⟨a, c, rfl⟩ := rd.val
  obtain ⟨r, hr⟩ : ∃ r, bareG ⟨n, ⟨g1, g2, g3, g4, g5⟩, L⟩ = r := ⟨_, rfl⟩
  rw [hr]
  have HR := Lib.hid hr
  simp only at c0 c1 c2 c3 c4 c5 c6
  obtain ⟨k, hk⟩ : ∃ k, L.length = k := ⟨_, rfl⟩
  have HK := Lib.hid hk
  rw [hk] at c6
  clear rd hr hk
  go_enter Tryz.func71, Tryz.ntmps71
  go_wp2
  all_goals
    go_ret
    refine ⟨?_, rfl⟩
    rw [← HR.out]
    have hk := HK.out
    first | (simp_all [bareG]; done) | (go_ways; fail)
set_option maxRecDepth 100000 in
set_option maxHeartbeats 4000000 in
theorem bareT_any {b : Nat} {v : RegS} {s : Value} (h : ValAt w b v s) : Calls Tryz.prog 71 #[.bool false, .bool false, .bool true, .pointer (some ⟨b, 0, none⟩)] w fun e w' => e = .returned (.bool (bareT v)) ∧ w = w' := by
  obtain ⟨n, ⟨g1, g2, g3, g4, g5⟩, L⟩ := v
  obtain ⟨c0, c1, c2, c3, c4, c5, c6, rd⟩ := h
  obtain ⟨a, c, rfl⟩ := rd.val
  obtain ⟨r, hr⟩ : ∃ r, bareT ⟨n, ⟨g1, g2, g3, g4, g5⟩, L⟩ = r := ⟨_, rfl⟩
  rw [hr]
  have HR := Lib.hid hr
  simp only at c0 c1 c2 c3 c4 c5 c6
  obtain ⟨k, hk⟩ : ∃ k, L.length = k := ⟨_, rfl⟩
  have HK := Lib.hid hk
  rw [hk] at c6
  clear rd hr hk
  go_enter Tryz.func71, Tryz.ntmps71
  go_wp2
  all_goals
    go_ret
    refine ⟨?_, rfl⟩
    rw [← HR.out]
    have hk := HK.out
    first | (simp_all [bareT, glue0]; done) | (go_ways; fail)

end Go.Proofs.YtebggkgciocciaaGreat
