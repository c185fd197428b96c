
/-
  The law's own check. Conditions: those that each theorem names.
-/
import Derived.Test.YtpcdbeicpmjooaaDoorLogF
namespace Go.Proofs.YtpcdbeicpmjooaaDoor
open Go.RowKit Go.Sp
variable {W w w' : World} {F F' : HProp}

theorem num_any (e : Int) (w : World) : Calls Tryd.prog 8 #[.int .i64 e] w fun r w' => r = .returned (.int .i64 e) ∧ w = w' := by
  go_enter Tryd.func8, Tryd.ntmps8
  go_wp2
  go_ret
  exact ⟨rfl, rfl⟩

theorem knows_add : addM 5 0 [97, 98, 99, 100, 101, 102, 103] = ([97, 98, 99, 100, 101, 10, 102, 103], 2) := by decide +kernel
theorem knows_tok : tokenB (List.replicate 256 0) ⟨16, 0, ⟨#[102, 111, 111]⟩⟩ = [92, 102, 111, 111, 32] := by decide +kernel
theorem zero256 : Tryd.zeroCells22 = ((List.replicate 256 (0 : Int)).map (Value.int .i64)).toArray := by kernel_rfl

set_option maxRecDepth 1000000 in
set_option maxHeartbeats 4000000 in
theorem knows_any (h : Sat W F w) : Calls Tryd.prog 10 #[] w fun e w' => e = .returned (.bool true) ∧ Sat W F w' := by
  have HN := Lib.hid (newLg_any 5 (by omega) (by omega) h)
  clear h
  go_enter Tryd.func10, Tryd.ntmps10
  go_wp2_with fail
  refine Calls.mono HN.out ?_
  rintro e w1 ⟨b, rfl, h1⟩
  have ha := add_any [97, 98, 99, 100, 101, 102, 103] (by simp) h1
  unfold AddPost at ha
  rw [knows_add] at ha
  have HA := Lib.hid ha
  clear h1 ha
  go_wp2_with fail
  refine Calls.mono HA.out ?_
  intro e w2 hp
  rw [if_pos (by simp)] at hp
  obtain ⟨rfl, h2⟩ := hp
  have HT := Lib.hid (text_any h2)
  have H2 := Lib.hid h2.sat
  clear h2
  go_wp2_with (go_at_call 8; refine Calls.mono (num_any _ _) ?_; rintro e w' ⟨rfl, rfl⟩)
  refine Calls.mono HT.out ?_
  rintro e w3 ⟨rfl, rfl⟩
  go_wp2_with fail
  have hk := token_any (List.replicate 256 0) (by simp) ⟨16, 0, ⟨#[102, 111, 111]⟩⟩ (show (3 : Nat) ≤ 2000000 by omega) H2.out
  rw [knows_tok, show codesV (List.replicate 256 0) = .agg Tryd.zeroCells22 by rw [zero256]] at hk
  refine Calls.mono hk ?_
  rintro e w4 ⟨rfl, h4⟩
  go_wp2
  go_ret
  exact ⟨rfl, h4⟩

/-- good says no of v -/
def NoLog (w : World) (v : Value) : Prop := ∀ w', Ext w w' → Calls Tryd.prog 29 #[v] w' fun e w'' => e = .returned (.bool false) ∧ w' = w''

theorem text_no {v : Value} (h : NoLog w v) : Calls Tryd.prog 20 #[v] w fun e w' => e = .returned (.string ⟨#[]⟩) ∧ w = w' := by
  have HG := Lib.hid (h w (Ext.refl _))
  clear h
  go_enter Tryd.func20, Tryd.ntmps20
  go_wp2_with fail
  refine Calls.mono HG.out ?_
  rintro e w' ⟨rfl, rfl⟩
  go_wp2
  go_ret
  exact ⟨rfl, rfl⟩
theorem add_no {v : Value} (h : NoLog w v) (s : ByteArray) : Calls Tryd.prog 19 #[v, .string s] w fun e w' => e = .returned (.int .i64 1) ∧ w = w' := by
  have HG := Lib.hid (h w (Ext.refl _))
  clear h
  go_enter Tryd.func19, Tryd.ntmps19
  go_wp2_with fail
  refine Calls.mono HG.out ?_
  rintro e w' ⟨rfl, rfl⟩
  go_wp2
  go_ret
  exact ⟨rfl, rfl⟩

/-- strings that are read -/
def RdS (w : World) (v : Value) (L : List (List UInt8)) : Prop := Rd w v L.length 1 (L.map fun l => (.string ⟨l.toArray⟩))

end Go.Proofs.YtpcdbeicpmjooaaDoor
