
/-
  The law's own check. Conditions: those that each theorem names.
-/
import Derived.Test.YtlfekbmcegbhoaaDoorLogF
namespace Go.Proofs.YtlfekbmcegbhoaaDoor
open Go.RowKit Go.Sp
variable {W w w' : World} {F F' : HProp}

theorem num_any (e : Int) (w : World) : Calls Tryd.prog 9 #[.int .i64 e] w fun r w' => r = .returned (.int .i64 e) ∧ w = w' := by
  go_enter Tryd.func9, Tryd.ntmps9
  go_wp2
  go_ret
  exact ⟨rfl, rfl⟩

theorem knows_add : addM 5 0 [97, 98, 99, 100, 101, 102, 103] = ([97, 98, 99, 100, 101, 10, 102, 103], 2) := by decide +kernel
theorem knows_tok : tokenB (List.replicate 256 0) ⟨16, 0, ⟨#[102, 111, 111]⟩⟩ = [92, 102, 111, 111, 32] := by decide +kernel
theorem zero256 : Tryd.zeroCells40 = ((List.replicate 256 (0 : Int)).map (Value.int .i64)).toArray := by kernel_rfl

set_option maxRecDepth 1000000 in
set_option maxHeartbeats 4000000 in
theorem knows_any (h : Sat W F w) : Calls Tryd.prog 10 #[] w fun e w' => e = .returned (.bool true) ∧ Sat W F w' := by
  have HN := Lib.hid (new_any 5 (by omega) (by omega) h)
  clear h
  go_enter Tryd.func10, Tryd.ntmps10
  go_wp2_with fail
  refine Calls.mono HN.out ?_
  rintro e w1 ⟨b, rfl, h1⟩
  have ha := add_any [97, 98, 99, 100, 101, 102, 103] (by simp) h1
  unfold AddPost at ha
  rw [knows_add] at ha
  have HA := Lib.hid ha
  clear h1 ha
  go_wp2_with fail
  refine Calls.mono HA.out ?_
  intro e w2 hp
  rw [if_pos (by simp)] at hp
  obtain ⟨rfl, h2⟩ := hp
  have HT := Lib.hid (text_any h2)
  have H2 := Lib.hid h2.sat
  clear h2
  go_wp2_with (go_at_call 9; refine Calls.mono (num_any _ _) ?_; rintro e w' ⟨rfl, rfl⟩)
  refine Calls.mono HT.out ?_
  rintro e w3 ⟨rfl, rfl⟩
  go_wp2_with fail
  have hk := token_any (List.replicate 256 0) (by simp) ⟨16, 0, ⟨#[102, 111, 111]⟩⟩ (show (3 : Nat) ≤ 2000000 by omega) H2.out
  rw [knows_tok, show codesV (List.replicate 256 0) = .agg Tryd.zeroCells40 by rw [zero256]] at hk
  refine Calls.mono hk ?_
  rintro e w4 ⟨rfl, h4⟩
  go_wp2
  go_ret
  exact ⟨rfl, h4⟩

/-- good says no of v -/
def NoLog (w : World) (v : Value) : Prop := ∀ w', Ext w w' → Calls Tryd.prog 21 #[v] w' fun e w'' => e = .returned (.bool false) ∧ w' = w''

theorem text_no {v : Value} (h : NoLog w v) : Calls Tryd.prog 11 #[v] w fun e w' => e = .returned (.string ⟨#[]⟩) ∧ w = w' := by
  have HG := Lib.hid (h w (Ext.refl _))
  clear h
  go_enter Tryd.func11, Tryd.ntmps11
  go_wp2_with fail
  refine Calls.mono HG.out ?_
  rintro e w' ⟨rfl, rfl⟩
  go_wp2
  go_ret
  exact ⟨rfl, rfl⟩
theorem line_no {v : Value} (h : NoLog w v) : Calls Tryd.prog 24 #[v] w fun e w' => e = .returned (.int .i64 1) ∧ w = w' := by
  have HG := Lib.hid (h w (Ext.refl _))
  clear h
  go_enter Tryd.func24, Tryd.ntmps24
  go_wp2_with fail
  refine Calls.mono HG.out ?_
  rintro e w' ⟨rfl, rfl⟩
  go_wp2
  go_ret
  exact ⟨rfl, rfl⟩
theorem add_no {v : Value} (h : NoLog w v) (s : ByteArray) : Calls Tryd.prog 8 #[v, .string s] w fun e w' => e = .returned (.int .i64 1) ∧ w = w' := by
  have HG := Lib.hid (h w (Ext.refl _))
  clear h
  go_enter Tryd.func8, Tryd.ntmps8
  go_wp2_with fail
  refine Calls.mono HG.out ?_
  rintro e w' ⟨rfl, rfl⟩
  go_wp2
  go_ret
  exact ⟨rfl, rfl⟩

theorem textR_nil (w : World) : Calls Tryd.prog 26 #[.pointer none] w fun e w' => e = .returned (.string ⟨#[]⟩) ∧ w = w' := by
  go_enter Tryd.func26, Tryd.ntmps26
  go_wp2
  go_ret
  exact ⟨rfl, rfl⟩
theorem lineR_nil (w : World) : Calls Tryd.prog 25 #[.pointer none] w fun e w' => e = .returned (.int .i64 1) ∧ w = w' := by
  go_enter Tryd.func25, Tryd.ntmps25
  go_wp2
  go_ret
  exact ⟨rfl, rfl⟩
theorem addR_nil (s : ByteArray) (w : World) : Calls Tryd.prog 27 #[.pointer none, .string s] w fun e w' => e = .returned (.int .i64 1) ∧ w = w' := by
  go_enter Tryd.func27, Tryd.ntmps27
  go_wp2
  go_ret
  exact ⟨rfl, rfl⟩

set_option maxRecDepth 100000 in
set_option maxHeartbeats 4000000 in
theorem adds_no {v : Value} (h : NoLog w v) (l : List UInt8) : Calls Tryd.prog 12 #[v, .pointer none, (.string ⟨l.toArray⟩)] w fun e w' => e = .returned (.bool true) ∧ w = w' := by
  have HT := Lib.hid (text_no h)
  have HL := Lib.hid (line_no h)
  have htl : (⟨l.toArray⟩ : ByteArray).toList = l := by rw [Lib.toList_data]
  by_cases he : l = []
  · subst he
    clear h
    go_enter Tryd.func12, Tryd.ntmps12
    go_wp2_with (first
      | (go_at_call 9; refine Calls.mono (num_any _ _) ?_; rintro e w' ⟨rfl, rfl⟩)
      | (go_at_call 24; refine Calls.mono HL.out ?_; rintro e w' ⟨rfl, rfl⟩)
      | (go_at_call 11; refine Calls.mono HT.out ?_; rintro e w' ⟨rfl, rfl⟩)
      | (go_at_call 25; refine Calls.mono (lineR_nil _) ?_; rintro e w' ⟨rfl, rfl⟩)
      | (go_at_call 26; refine Calls.mono (textR_nil _) ?_; rintro e w' ⟨rfl, rfl⟩))
    go_ret
    exact ⟨rfl, rfl⟩
  · have hb : (l == []) = false := by simpa using he
    have HA := Lib.hid (add_no h ⟨l.toArray⟩)
    generalize (⟨l.toArray⟩ : ByteArray) = s at *
    clear h he
    go_enter Tryd.func12, Tryd.ntmps12
    go_wp2_with (first
      | (go_at_call 9; refine Calls.mono (num_any _ _) ?_; rintro e w' ⟨rfl, rfl⟩)
      | (go_at_call 8; refine Calls.mono HA.out ?_; rintro e w' ⟨rfl, rfl⟩)
      | (go_at_call 11; refine Calls.mono HT.out ?_; rintro e w' ⟨rfl, rfl⟩)
      | (go_at_call 27; refine Calls.mono (addR_nil _ _) ?_; rintro e w' ⟨rfl, rfl⟩)
      | (go_at_call 26; refine Calls.mono (textR_nil _) ?_; rintro e w' ⟨rfl, rfl⟩))
    go_ret
    exact ⟨rfl, rfl⟩

/-- strings that are read -/
def RdS (w : World) (v : Value) (L : List (List UInt8)) : Prop := Rd w v L.length 1 (L.map fun l => (.string ⟨l.toArray⟩))

set_option maxRecDepth 100000 in
set_option maxHeartbeats 4000000 in
theorem nil_any (Ls : List (List UInt8)) (v : Value) (hv : RdS w v Ls) (h : Sat W F w) : Calls Tryd.prog 4 #[v] w fun e w' => e = .returned (.bool true) ∧ Sat W F w' := by
  have H0 := Lib.hid (h.alloc (lgO (.slice none 0 0) 0 0))
  have HV := Lib.hid (Rd.ext hv (Ext.alloc (Ext.refl w) (o := lgO (.slice none 0 0) 0 0)))
  have hle : Ls.length ≤ 9223372036854775807 := hv.2.1
  obtain ⟨a, cap, rfl⟩ : ∃ a cap, v = .slice a Ls.length cap := by
    obtain ⟨_, _, a, cap, e, _⟩ := hv
    exact ⟨a, cap, e⟩
  obtain ⟨bl, hbl⟩ : ∃ bl, w.heap.size = bl := ⟨_, rfl⟩
  obtain ⟨n, hn⟩ : ∃ n, Ls.length = n := ⟨_, rfl⟩
  have HN := Lib.hid hn
  rw [hbl] at H0
  rw [hn] at hle
  rw [hn]
  have HV2 : Rd (w.alloc (lgO (.slice none 0 0) 0 0)) (.slice a n cap) n 1 (Ls.map fun l => (.string ⟨l.toArray⟩)) := by
    have := HV.out
    unfold RdS at this
    rwa [hn] at this
  have HV3 := Lib.hid HV2
  clear h hv hn HV HV2
  go_enter Tryd.func4, Tryd.ntmps4
  go_wp2_with fail
  clear hbl
  have HNO := Lib.hid (show NoLog (w.alloc (lgO (.slice none 0 0) 0 0)) (.pointer none) from fun w' _ => good_nil w')
  have HNZ := Lib.hid (show NoLog (w.alloc (lgO (.slice none 0 0) 0 0)) (.pointer (some ⟨bl, 0, none⟩)) from fun w' hw => good_zero (hw.cell (H0.out.cell (i := 1) rfl)))
  have HW := Lib.hid H0.out.r
  generalize w.alloc (.cells #[.slice none 0 0, .int .i64 0, .int .i64 0] 36) = W2 at *
  clear H0
  go_loopg [5] n (fun g s5 wx => ∃ k : Nat, k ≤ n ∧ g = n - k ∧ s5 = .int .i64 k ∧ wx = W2)
  case atStart => exact ⟨0, by omega, rfl, rfl, rfl⟩
  case round =>
    obtain ⟨k, hk, rfl, rfl, rfl⟩ := hrel
    by_cases hlt : k < n
    · have i1 : (k : Int) < (n : Int) := by omega
      obtain ⟨b, off, cap', e, hcell⟩ := HV3.out.head (by omega) (by omega)
      cases e
      have hkl : k < Ls.length := by rw [HN.out]; exact hlt
      have c0 := hcell k ((.string ⟨(Ls[k]).toArray⟩)) (by simp [hkl])
      have HA1 := Lib.hid (adds_no HNO.out Ls[k])
      have HA2 := Lib.hid (adds_no HNZ.out Ls[k])
      generalize Ls[k] = l at *
      generalize (⟨l.toArray⟩ : ByteArray) = s at *
      clear hkl hcell
      go_wp2_with fail
      refine Calls.mono HA1.out ?_
      rintro e w2 ⟨rfl, rfl⟩
      go_wp2_with fail
      refine Calls.mono HA2.out ?_
      rintro e w2 ⟨rfl, rfl⟩
      go_wp2
      go_roundg (n - (k + 1))
      case measure => omega
      case rel => exact ⟨k + 1, by omega, rfl, by go_num, rfl⟩
    · have i1 : ¬ (k : Int) < (n : Int) := by omega
      go_wp2_with fail
      refine Calls.mono (knows_any HW.out) ?_
      rintro e w2 ⟨rfl, h2⟩
      go_wp2
      go_ret
      exact ⟨rfl, h2⟩

end Go.Proofs.YtlfekbmcegbhoaaDoor
