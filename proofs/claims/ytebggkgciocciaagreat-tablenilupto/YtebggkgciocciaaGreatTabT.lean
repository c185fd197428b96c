
/-
  A table: what must come (the law's knows). Conditions: those that each theorem names.
-/
import Derived.Test.YtebggkgciocciaaGreatTabS
namespace Go.Proofs.YtebggkgciocciaaGreat
open Go.RowKit Go.Sp
variable {W w w' : World} {F A : HProp}

theorem num_any (n : Int) (w : World) : Calls Tryz.prog 8 #[.int .i64 n] w fun e w' => e = .returned (.int .i64 n) ∧ w = w' := by
  go_enter Tryz.func8, Tryz.ntmps8
  go_wp2
  go_ret
  exact ⟨rfl, rfl⟩

def kv (n : Int) : RegS := ⟨n, ⟨0, 0, 0, 0, 0⟩, []⟩
theorem keepR_new {g : GrpS} {k : Int × Int} {r : RegS} (h : g.regs k = none) : g.keepR k r = { g with regs := mput g.regs k r } := by rw [GrpS.keepR, h]

theorem knows_plain : ∃ S1 S2 S3 S4 S5 g, setT newS 1 1 (kv 5) false = S1 ∧ setE 1 1 (kv 5) = 0 ∧ beginE S1 0 = 0 ∧ beginS S1 0 = S2 ∧ setE 1 1 (kv 6) = 0 ∧ setT S2 1 1 (kv 6) false = S3 ∧
    setE 1 2 (kv 7) = 0 ∧ setT S3 1 2 (kv 7) true = S4 ∧ S4.groups = [] ++ [g] ∧ g.keysOK ∧ S4.ended [] g = S5 ∧ S5.regs 257 = kv 5 ∧ S5.regs 258 = kv 7 := by
  have e1 : setE 1 1 (kv 5) = 0 := by decide
  have e2 : setE 1 1 (kv 6) = 0 := by decide
  have e3 : setE 1 2 (kv 7) = 0 := by decide
  have b1 : beginE (setT newS 1 1 (kv 5) false) 0 = 0 := by
    rw [setT, if_pos e1]
    rfl
  refine ⟨_, _, _, _, _, ((grp0 0).keepR (1, 1) ((beginS (setT newS 1 1 (kv 5) false) 0).regs 257)).delR (1, 2), rfl, e1, b1, rfl, e2, rfl, e3, rfl, ?_, ?_, rfl, ?_, ?_⟩
  · rw [setT, if_pos e3, setT, if_pos e2, beginS, if_pos b1, setT, if_pos e1]
    rfl
  · rw [keepR_new rfl]
    intro k r hk
    simp only [GrpS.delR] at hk
    by_cases h2 : k = (1, 2)
    · subst h2; rw [mdel_same] at hk; cases hk
    · rw [mdel_other _ h2] at hk
      by_cases h1 : k = (1, 1)
      · exact ⟨1, 1, h1, by omega, by omega⟩
      · rw [mput_other _ _ h1] at hk; cases hk
  · rw [keepR_new rfl]
    simp only [TabS.ended, endR, GrpS.delR]
    rw [show keyJ 257 = (1, 1) from rfl, mdel_other _ (by decide), mput_same]
    simp only
    rw [beginS, if_pos b1, setT, if_pos e1]
    simp [TabS.begun, putS, setS]
  · rw [keepR_new rfl]
    simp only [TabS.ended, endR, GrpS.delR]
    rw [show keyJ 258 = (1, 2) from rfl, mdel_same]
    simp only
    rw [setT, if_pos e3]
    simp [putS, setS]

theorem TabAt.frame {b N : Nat} {S : TabS} {B : HProp} (h : TabAt W (A * (B * F)) b N S w) : TabAt W (A * F) b N S w := by
  refine TabAt.less (A := B) (h.of_eq (by ac_rfl))

set_option maxRecDepth 100000 in
set_option maxHeartbeats 4000000 in
theorem knows_any (h : Sat W F w) : Calls Tryz.prog 6 #[] w fun e w' => e = .returned (.bool true) ∧ Sat W F w' := by
  obtain ⟨S1, S2, S3, S4, S5, g, e1, e2, e3, e4, e5, e6, e7, e8, e9, e10, e11, e12, e13⟩ := knows_plain
  have HNEW := Lib.hid (new_any h)
  have hrd : ∀ w', Sat W F w' → RdT w' (.slice none 0 0) [] := fun w' _ => RdT.empty w' none 0
  have K1 := Lib.hid (show ∀ b w, TabAt W F b 0 newS w → _ from fun b w h => set_any 1 1 (v := kv 5) (s := .slice none 0 0) false hrd h)
  rw [e1, e2] at K1
  have K2 := Lib.hid (show ∀ b w, TabAt W F b 0 S1 w → _ from fun b w h => begin_any 0 h)
  rw [e3, e4] at K2
  have K3 := Lib.hid (show ∀ b w, TabAt W F b 0 S2 w → _ from fun b w h => set_any 1 1 (v := kv 6) (s := .slice none 0 0) false hrd h)
  rw [e5, e6] at K3
  have K4 := Lib.hid (show ∀ b w, TabAt W F b 0 S3 w → _ from fun b w h => set_any 1 2 (v := kv 7) (s := .slice none 0 0) true hrd h)
  rw [e7, e8] at K4
  have K5 := Lib.hid (show ∀ b w, TabAt W F b 0 S4 w → _ from fun b w h => end_some [] g e9 e10 h)
  rw [e11] at K5
  have K6 := Lib.hid (show ∀ b N w, TabAt W F b N S5 w → _ from fun b N w h => get_any (c := 1) (i := 1) (by omega) (by omega) h)
  have K7 := Lib.hid (show ∀ A b N w, TabAt W A b N S5 w → _ from fun A b N w h => get_any (F := A) (c := 1) (i := 2) (by omega) (by omega) h)
  simp only [show 1 * 256 + 1 = 257 from rfl, show 1 * 256 + 2 = 258 from rfl, e12, e13] at K6 K7
  simp only [kv, valA] at K1 K2 K3 K4 K5 K6 K7
  clear e1 e2 e3 e4 e5 e6 e7 e8 e9 e10 e11 e12 e13 h
  go_enter Tryz.func6, Tryz.ntmps6
  go_wp2_with fail
  refine Calls.mono HNEW.out ?_
  rintro e w1 ⟨b, rfl, h1⟩
  go_wp2_with fail
  refine Calls.mono (K1.out _ _ h1) ?_
  rintro e w2 ⟨rfl, h2⟩
  clear h1
  go_wp2_with fail
  refine Calls.mono (K2.out _ _ h2) ?_
  rintro e w3 ⟨rfl, h3⟩
  clear h2
  go_wp2_with fail
  refine Calls.mono (K3.out _ _ h3) ?_
  rintro e w4 ⟨rfl, h4⟩
  clear h3
  go_wp2_with fail
  refine Calls.mono (K4.out _ _ h4) ?_
  rintro e w5 ⟨rfl, h5⟩
  clear h4
  go_wp2_with fail
  refine Calls.mono (K5.out _ _ h5) ?_
  rintro e w6 ⟨rfl, N, h6⟩
  clear h5
  go_wp2_with fail
  refine Calls.mono (K6.out _ _ _ h6) ?_
  rintro e w7 ⟨u, rfl, h7⟩
  clear h6
  obtain ⟨ua, uc, rfl⟩ := h7.sat.rowT_value
  have h8 := h7.less.allocX (.cells #[.int .i64 5, .int .i64 0, .int .i64 0, .int .i64 0, .int .i64 0, .int .i64 0, .slice ua 0 uc] 29)
  have H8 := Lib.hid h8
  clear h7 h8
  simp only [List.length_nil]
  go_wp2_with fail
  refine Calls.mono (K7.out _ _ _ _ H8.out) ?_
  rintro e w8 ⟨u2, rfl, h9⟩
  obtain ⟨ub, ud, rfl⟩ := h9.sat.rowT_value
  have h10 := (h9.less.sat.alloc (.cells #[.int .i64 7, .int .i64 0, .int .i64 0, .int .i64 0, .int .i64 0, .int .i64 0, .slice ub 0 ud] 29))
  have HS := Lib.hid h10
  have d7 := h10.cell (i := 0) rfl
  have d5 := h10.r.cell (i := 0) rfl
  have l7 := h10.lt
  have l5 := h10.r.lt
  clear h9 h10
  simp only [List.length_nil]
  go_wp2_with (go_at_call 8; with_reducible refine Calls.mono (num_any _ _) ?_; rintro e w' ⟨rfl, rfl⟩)
  go_ret
  exact ⟨rfl, HS.out.r.r⟩

end Go.Proofs.YtebggkgciocciaaGreat
