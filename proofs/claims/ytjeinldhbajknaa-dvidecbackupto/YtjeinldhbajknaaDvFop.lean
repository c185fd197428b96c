
/-
  A command out of a feed: all branches together. Conditions: those that each theorem names.
-/
import Derived.Test.YtjeinldhbajknaaDvF1
import Derived.Test.YtjeinldhbajknaaDvF2
import Derived.Test.YtjeinldhbajknaaDvF3
namespace Go.Proofs.Ytjeinldhbajknaa
open Go.RowKit Go.Sp Go.Conc
variable {W w w' : World} {A : HProp}

theorem op_any {b cf cap : Nat} {f : Fd} (h : FdAt W A b cf cap f w) :
    Calls Try.prog 30 #[.pointer (some ⟨b, 0, none⟩)] w fun e w' => ∃ va, e = .returned (.agg #[.int .i64 f.cmd.1.code, .int .i64 f.cmd.1.at_, va, .string ⟨f.cmd.1.text.toArray⟩]) ∧ FdAt W (rowI va f.cmd.1.args * A) b cf cap f.cmd.2 w' := by
  have hlt := f.next_lt
  have hcs : f.next.1 ≤ 127 ∨ (128 ≤ f.next.1 ∧ f.next.1 ≤ 131) ∨ f.next.1 = 132 ∨ (133 ≤ f.next.1 ∧ f.next.1 ≤ 136) ∨ f.next.1 = 137 ∨ f.next.1 = 138 ∨ f.next.1 = 139 ∨ (140 ≤ f.next.1 ∧ f.next.1 ≤ 142) ∨ (143 ≤ f.next.1 ∧ f.next.1 ≤ 146) ∨ f.next.1 = 147 ∨ (148 ≤ f.next.1 ∧ f.next.1 ≤ 151) ∨ f.next.1 = 152 ∨ (153 ≤ f.next.1 ∧ f.next.1 ≤ 156) ∨ (157 ≤ f.next.1 ∧ f.next.1 ≤ 160) ∨ f.next.1 = 161 ∨ (162 ≤ f.next.1 ∧ f.next.1 ≤ 165) ∨ f.next.1 = 166 ∨ (167 ≤ f.next.1 ∧ f.next.1 ≤ 170) ∨ (171 ≤ f.next.1 ∧ f.next.1 ≤ 234) ∨ (235 ≤ f.next.1 ∧ f.next.1 ≤ 238) ∨ (239 ≤ f.next.1 ∧ f.next.1 ≤ 242) ∨ (243 ≤ f.next.1 ∧ f.next.1 ≤ 246) ∨ f.next.1 = 247 ∨ f.next.1 = 248 ∨ f.next.1 = 249 ∨ 250 ≤ f.next.1 := by omega
  rcases hcs with hb | hb | hb | hb | hb | hb | hb | hb | hb | hb | hb | hb | hb | hb | hb | hb | hb | hb | hb | hb | hb | hb | hb | hb | hb | hb
  · exact op_0 hb h
  · exact op_128 hb h
  · exact op_132 hb h
  · exact op_133 hb h
  · exact op_137 hb h
  · exact op_138 hb h
  · exact op_139 hb h
  · exact op_140 hb h
  · exact op_143 hb h
  · exact op_147 hb h
  · exact op_148 hb h
  · exact op_152 hb h
  · exact op_153 hb h
  · exact op_157 hb h
  · exact op_161 hb h
  · exact op_162 hb h
  · exact op_166 hb h
  · exact op_167 hb h
  · exact op_171 hb h
  · exact op_235 hb h
  · exact op_239 hb h
  · exact op_243 hb h
  · exact op_247 hb h
  · exact op_248 hb h
  · exact op_249 hb h
  · exact op_250 hb h

end Go.Proofs.Ytjeinldhbajknaa
