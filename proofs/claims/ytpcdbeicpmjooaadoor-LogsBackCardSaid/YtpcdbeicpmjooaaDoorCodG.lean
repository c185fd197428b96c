
/-
  The reader's small methods. Conditions: those that each theorem names.
-/
import Derived.Test.YtpcdbeicpmjooaaDoorCodF
namespace Go.Proofs.YtpcdbeicpmjooaaDoor
open Go.RowKit Go.Sp
variable {W w w' : World} {F F' : HProp}

theorem none_any {R : Rs} {b : Nat} (h : RdAt W F b R w) : Calls Tryd.prog 25 #[.pointer (some ⟨b, 0, none⟩)] w fun e w' => e = .returned (.bool false) ∧ w = w' := by
  obtain ⟨u, xs, at_, h1, h2, h3, hs⟩ := h
  have c0 := hs.cell (i := 0) rfl
  clear hs h1
  go_enter Tryd.func25, Tryd.ntmps25
  go_wp2
  go_ret
  exact ⟨rfl, rfl⟩

theorem none_nil (w : World) : Calls Tryd.prog 25 #[.pointer none] w fun e w' => e = .returned (.bool true) ∧ w = w' := by
  go_enter Tryd.func25, Tryd.ntmps25
  go_wp2
  go_ret
  exact ⟨rfl, rfl⟩

/-- a reader that nobody made -/
theorem none_zero {b : Nat} (h : w.cell? ⟨b, 0, none⟩ = some (.bool false)) : Calls Tryd.prog 25 #[.pointer (some ⟨b, 0, none⟩)] w fun e w' => e = .returned (.bool true) ∧ w = w' := by
  go_enter Tryd.func25, Tryd.ntmps25
  go_wp2
  go_ret
  exact ⟨rfl, rfl⟩

theorem new_any (text : List UInt8) (h : Sat W F w) (ht : text.length ≤ 65536) : Calls Tryd.prog 16 #[(.string ⟨text.toArray⟩)] w fun e w' => ∃ b, e = .returned (.tuple #[.pointer (some ⟨b, 0, none⟩), .int .i64 0]) ∧ RdAt W F b (newR text) w' := by
  have hsz : (⟨text.toArray⟩ : ByteArray).size = text.length := str_size text
  have i1 : ¬ (65536 : Int) < (text.length : Int) := by omega
  have HF := Lib.hid (show RdAt W F w.heap.size (newR text) (w.alloc (rdO (newR text) (.slice none 0 0) 0)) from by
    refine ⟨.slice none 0 0, [], 0, rfl, Nat.le_refl _, by simp, ?_⟩
    exact (Sat.rowM_nil h).alloc _)
  generalize text.length = n at *
  go_enter Tryd.func16, Tryd.ntmps16
  go_wp2
  go_ret2
  exact ⟨_, rfl, HF.out⟩

theorem new_no (text : List UInt8) (w : World) (ht : 65536 < text.length) : Calls Tryd.prog 16 #[(.string ⟨text.toArray⟩)] w fun e w' => e = .returned (.tuple #[.pointer none, .int .i64 6]) ∧ w = w' := by
  have hsz : (⟨text.toArray⟩ : ByteArray).size = text.length := str_size text
  have i1 : (65536 : Int) < (text.length : Int) := by omega
  generalize text.length = n at *
  go_enter Tryd.func16, Tryd.ntmps16
  go_wp2
  go_ret2
  exact ⟨rfl, rfl⟩

end Go.Proofs.YtpcdbeicpmjooaaDoor
