
/-
  Category codes: as a value, as a block; a byte turned. Conditions: none.
-/
import Derived.Test.YtebggkgciocciaaGreatTok
import Derived.Test.YtebggkgciocciaaGreatTail
namespace Go.Proofs.YtebggkgciocciaaGreat
open Go.RowKit Go.Sp
variable {W w w' : World} {F : HProp}

def codeAt (C : List Int) (c : UInt8) : Int := C.getD c.toNat 0
abbrev codesV (C : List Int) : Value := .agg (C.map (Value.int .i64)).toArray
abbrev codesO (C : List Int) (e : TypeId) : Obj := .cells (C.map (Value.int .i64)).toArray e
theorem codes_cell {C : List Int} {e : TypeId} {bc : Nat} {A : HProp} (h : Sat W (pts bc (codesO C e) * A) w) (hC : C.length = 256) (c : UInt8) : w.cell? ⟨bc, c.toNat, none⟩ = some (.int .i64 (codeAt C c)) := by
  have hc : c.toNat < C.length := by have := c.toNat_lt; omega
  refine h.cell ?_
  simp [codeAt, hc]

theorem size_codes : (Tryz.prog.info? 69).map (·.size) = some 256 := by kernel_rfl
theorem xor_all : ∀ n : Nat, n < 256 → bits .xor .u8 (n : Int) 64 = ((n ^^^ 64 : Nat) : Int) := by decide +kernel
theorem xor_u8 (c : UInt8) : bits .xor .u8 (c.toNat : Int) 64 = ((c ^^^ 64).toNat : Int) := by
  rw [xor_all c.toNat c.toNat_lt]
  simp

end Go.Proofs.YtebggkgciocciaaGreat
