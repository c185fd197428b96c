/-
  The law CodesNil, walked. Conditions: those that each theorem names.
-/
import Derived.Test.YtkfobimigiaknaaDoorCodQ
namespace Go.Proofs.YtkfobimigiaknaaDoor
open Go.RowKit Go.Sp
variable {W w w' : World} {F F' : HProp}

/-- none says yes of v, in w and in whatever comes of it -/
def NoR (w : World) (v : Value) : Prop := ∀ w', Ext w w' → Calls Tryd.prog 28 #[v] w' fun e w'' => e = .returned (.bool true) ∧ w' = w''

set_option maxRecDepth 1000000 in
set_option maxHeartbeats 8000000 in
theorem nil_any (C : List Int) (hC : C.length = 256) (endl : Int) (h : Sat W F w) : Calls Tryd.prog 9 #[codesV C, .int .i64 endl] w fun e w' => e = .returned (.bool true) ∧ Sat W F w' := by
  have H0 := Lib.hid (h.alloc (codesO C 22))
  have HC := Lib.hid hC
  have HL := Lib.hid (fun w' (h : Sat W F w') => live_any h)
  obtain ⟨bc, hbc⟩ : ∃ bc, w.heap.size = bc := ⟨_, rfl⟩
  rw [hbc] at H0
  clear h hC
  go_enter Tryd.func9, Tryd.ntmps9
  go_wp2_with fail
  clear hbc
  go_loopg [5, 6] 2 (fun g s5 s6 wx => ∃ i : Nat, i ≤ 2 ∧ g = 2 - i ∧ s6 = .int .i64 i ∧ (i < 2 → NoR wx s5) ∧ Sat W (pts bc (codesO C 22) * F) wx)
  case atStart => exact ⟨0, by omega, rfl, rfl, fun _ w' _ => none_nil w', H0.out⟩
  case round =>
    obtain ⟨i, hi, rfl, rfl, hn, hx⟩ := hrel
    have HX := Lib.hid hx
    have HN := Lib.hid hn
    have hblk := hx.blk
    clear hn hx
    by_cases hlt : i < 2
    · have j1 : (i : Int) < 2 := by omega
      have HNO := Lib.hid (HN.out hlt)
      have HNX := Lib.hid (show Calls Tryd.prog 20 #[u5, codesV C, .int .i64 endl] wr fun e w' => e = .returned (.tuple #[.agg #[.int .i64 0, .int .u8 0, .string ⟨#[]⟩], .int .i64 1]) ∧ Ext wr w' from next_none C endl u5 wr HNO.out)
      go_wp2_with fail
      refine wp_load_row 22 (.tmp 2) (by rfl) bc (by rfl) _ _ _ _ hblk Tryd.underlying22 (by rfl) ?_ ?_
      · rw [size_codes]; simp [HC.out]
      clear hblk
      go_wp2_with fail
      refine Calls.mono HNX.out ?_
      rintro e w1 ⟨rfl, hw⟩
      have HW := Lib.hid hw
      clear hw
      go_wp2_with fail
      refine Calls.mono (stop_none (HNO.out _ HW.out.alloc)) ?_
      rintro e w2 ⟨rfl, rfl⟩
      have HZ := Lib.hid ((HX.out.ext HW.out).allocD (o := .cells #[.int .i64 0, .int .u8 0, .string ⟨#[]⟩] 31))
      have HLN := Lib.hid (line_none (HNO.out _ (HW.out.alloc (o := .cells #[.int .i64 0, .int .u8 0, .string ⟨#[]⟩] 31))))
      go_wp2_with (first
        | (go_at_call 16; refine Calls.mono (num_any _ _) ?_; rintro e w' ⟨rfl, rfl⟩)
        | (go_at_call 21; refine Calls.mono HLN.out ?_; rintro e w' ⟨rfl, rfl⟩))
      go_roundg (2 - (i + 1))
      case measure => omega
      case rel =>
        refine ⟨i + 1, by omega, rfl, by go_num, fun _ w' hw' => none_zero (hw'.cell ?_), HZ.out.allocD⟩
        go_simp
    · have hi2 : 2 = i := by omega
      subst hi2
      go_wp2_with fail
      refine Calls.mono (HL.out _ HX.out.r) ?_
      rintro e w2 ⟨rfl, h2⟩
      go_wp2
      go_ret
      exact ⟨rfl, h2⟩

end Go.Proofs.YtkfobimigiaknaaDoor
