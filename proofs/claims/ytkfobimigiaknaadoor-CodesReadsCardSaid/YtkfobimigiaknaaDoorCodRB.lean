/-
  The reference's reader in memory; Stop. Conditions: those that each theorem names.
-/
import Derived.Test.YtkfobimigiaknaaDoorCodRA
import Derived.Test.YtkfobimigiaknaaDoorRowB
namespace Go.Proofs.YtkfobimigiaknaaDoor
open Go.RowKit Go.Sp
variable {W w w' : World} {F F' : HProp}

/-- texts as cells -/
def strsV (ls : List (List UInt8)) : List Value := ls.map fun l => (.string ⟨l.toArray⟩)
theorem strsV_len (ls : List (List UInt8)) : (strsV ls).length = ls.length := by simp [strsV]
theorem strsV_get (ls : List (List UInt8)) (j : Nat) (h : j < ls.length) : (strsV ls)[j]? = some (.string ⟨(ls[j]).toArray⟩) := by simp [strsV, List.getElem?_map, List.getElem?_eq_getElem h]

/-- bytes that append made are bytes that are owned -/
theorem rowB_M {v : Value} {l : List UInt8} (h : Sat W (rowB v l * F) w) : Sat W (rowM v l * F) w := h.imp_l fun x hx => by
  obtain ⟨hl, ⟨rfl, h0, he⟩ | ⟨g, cap, cur, rfl, h2, h3, h4, h5, h6⟩⟩ := hx
  · exact .inl ⟨rfl, List.eq_nil_of_length_eq_zero h0, he⟩
  · exact .inr ⟨g, cap, cur, (0, 0), rfl, h2, h3, by simpa using h4, by simpa [bytesB, bytesV] using h5, .inl rfl, h6⟩

/-- what is left of a list behind its first k -/
def tailOf (v0 : Value) (n0 k : Nat) (vl : Value) : Prop :=
  k ≤ n0 ∧ ((v0 = .slice none 0 0 ∧ vl = .slice none 0 0 ∧ n0 = 0) ∨
    ∃ g o cap c, v0 = .slice (some ⟨g, 0, none⟩) n0 cap ∧ vl = .slice (some ⟨g, o, none⟩) (n0 - k) c ∧ n0 - k ≤ c ∧ (k < n0 → o = k))

abbrev rfC (R : Rs) (vl vL : Value) : Array Value := #[vl, .int .i64 R.number, vL, .int .i64 R.state, .bool (R.stopped || R.ended)]
abbrev rfO (R : Rs) (vl vL : Value) : Obj := .cells (rfC R vl vL) 55

/-- the reference's reader b is R -/
def RefAt (W : World) (F : HProp) (b : Nat) (R : Rs) (w : World) : Prop :=
  (R.ended = true → R.left = []) ∧ ∃ vl vL v0 ls k, tailOf v0 ls.length k vl ∧ ls.drop k = linesL R.text ∧
    Sat W (pts b (rfO R vl vL) * (rowM vL R.left * (row v0 ls.length 9 1 (strsV ls) * F))) w

theorem stopR_any {R : Rs} {b : Nat} (h : RefAt W F b R w) : Calls Tryd.prog 25 #[.pointer (some ⟨b, 0, none⟩)] w fun e w' => e = .returned (.tuple #[]) ∧ RefAt W F b { R with stopped := true } w' := by
  obtain ⟨he, vl, vL, v0, ls, k, h1, h2, hs⟩ := h
  have c4 := hs.cell (i := 4) rfl
  have f1 := hs.free (i := 4)
  have lb := hs.lt
  have HF := Lib.hid (show RefAt W F b { R with stopped := true } (w.setCell ⟨b, 4, none⟩ (.bool true)) from ⟨he, vl, vL, v0, ls, k, h1, h2, hs.set (i := 4)⟩)
  clear hs h1 h2
  go_enter Tryd.func25, Tryd.ntmps25
  go_wp2
  exact ⟨rfl, .tuple #[], by unfold results; go_simp, rfl, HF.out⟩

end Go.Proofs.YtkfobimigiaknaaDoor
