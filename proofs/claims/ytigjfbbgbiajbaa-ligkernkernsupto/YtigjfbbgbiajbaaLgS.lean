/-
  The law's small font: what is computed of it. Conditions: none.
-/
import Derived.Test.YtigjfbbgbiajbaaLgQ
namespace Go.Proofs.Ytigjfbbgbiajbaa
open Go.RowKit Go.Sp

def noMet : Met := ⟨0, 0, 0, 0, -1, 0⟩
def letMet : Met := ⟨524288, 0, 0, 0, 0, 0⟩
def smallC (k : Nat) : List Met := (([0, 1, 85, 90, 93, 96, 106] : List Nat).take k).foldl (fun L i => L.set i letMet) (List.replicate 107 noMet)
def smallF : Fnt := ⟨0, 10485760, 12, ((smallC 7).set 90 ⟨524288, 0, 0, 0, 1, 0⟩).set 85 ⟨524288, 0, 0, 0, 1, 2⟩, [⟨0, 105, 0, 12⟩, ⟨128, 108, 0, 13⟩, ⟨128, 118, 128, 0⟩], [-20000], [], []⟩
theorem small_check : lcheckE smallF = 0 := by kernel_rfl
theorem small_there : ∀ c ∈ ([102, 105, 97, 118] : List UInt8), (thereM smallF c.toNat).isSome = true := by
  have h : ([102, 105, 97, 118] : List UInt8).all (fun c => (thereM smallF c.toNat).isSome) = true := by kernel_rfl
  exact List.all_eq_true.1 h
def fiav : List Mk := [⟨12, 2, true, 0, false⟩, ⟨97, 1, false, 0, false⟩, ⟨-2, 0, false, -20000, true⟩, ⟨118, 1, false, 0, false⟩]
theorem small_run : runM smallF [102, 105, 97, 118] = fiav := by kernel_rfl
theorem find_op {F : Fnt} {x y : Int} (h : (match findM F x y with | none => true | some s => decide (128 ≤ s.op.toNat) || decide (s.op.toNat = 0)) = true) : ∀ s, findM F x y = some s → s.op.toNat < 128 → s.op.toNat = 0 := by
  intro s hs hlt
  rw [hs] at h
  simp only [Bool.or_eq_true, decide_eq_true_eq] at h
  omega
theorem small_ok : RunOk smallF [102, 105, 97, 118] := by
  refine ⟨find_op (by kernel_rfl), find_op (by kernel_rfl), find_op (by kernel_rfl), trivial⟩
end Go.Proofs.Ytigjfbbgbiajbaa
