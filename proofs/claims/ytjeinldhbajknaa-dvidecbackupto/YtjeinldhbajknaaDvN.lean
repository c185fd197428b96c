
/-
  A command outside of pages. Conditions: those that each theorem names.
-/
import Derived.Test.YtjeinldhbajknaaDvL
namespace Go.Proofs.Ytjeinldhbajknaa
open Go.RowKit Go.Sp Go.Conc
variable {W w w' : World} {A : HProp}

set_option maxRecDepth 100000 in
set_option maxHeartbeats 4000000 in
theorem out_nop {b : Nat} {F : FileM} (o : Cmd) (va : Value) (c : Nat) (hc : o.code = c) (hb : c = 138) (hr : Rd w va o.args.length 1 (intsL o.args)) (h : FileAt W A b F w) :
    Calls Try.prog 33 #[.pointer (some ⟨b, 0, none⟩), o.val va] w fun e w' => e = .returned (.tuple #[]) ∧ FileAt W A b (F) w' := by
  obtain ⟨hr1, hr2, a, cap, hva, hat⟩ := hr
  subst hva
  have hx := h.allocX (.cells #[.int .i64 o.code, .int .i64 o.at_, .slice a o.args.length cap, .string ⟨o.text.toArray⟩] 33)
  obtain ⟨b3, hb3⟩ : ∃ b3, w.heap.size = b3 := ⟨_, rfl⟩
  rw [hb3] at hx
  have HX := Lib.hid hx
  have HAT := Lib.hid (show ∀ k x, o.args[k]? = some x → ∃ g off, a = some ⟨g, off, none⟩ ∧ w.cell? ⟨g, off + k, none⟩ = some (.int .i64 x) from fun k x hk => hat k (.int .i64 x) (by simp [hk]))
  have HRD := Lib.hid (show Rd w (.slice a o.args.length cap) o.args.length 1 (intsL o.args) from ⟨hr1, hr2, a, cap, rfl, hat⟩)
  have q0 := hx.sat.cell (i := 0) rfl
  have q2 := hx.sat.cell (i := 2) rfl
  have ql := hx.sat.lt
  have HEX := Lib.hid (show Ext w _ from (Ext.refl w).alloc (o := .cells #[.int .i64 o.code, .int .i64 o.at_, .slice a o.args.length cap, .string ⟨o.text.toArray⟩] 33))
  unfold Cmd.val
  clear hr1 hr2 hat hx h
  have HCC := Lib.hid hc
  clear hc
  subst hb
  go_enter Try.func33, Try.ntmps33
  go_upto_region 1 with fail
  generalize w.alloc (.cells #[.int .i64 o.code, .int .i64 o.at_, .slice a o.args.length cap, .string ⟨o.text.toArray⟩] 33) = W1 at *
  clear hb3
  rw [HCC.out] at q0
  (try go_wp2)
  exact ⟨rfl, .tuple #[], by unfold results; go_simp, rfl, (HX.out).less⟩

set_option maxRecDepth 100000 in
set_option maxHeartbeats 4000000 in
theorem out_def {b : Nat} {F : FileM} (o : Cmd) (va : Value) (c : Nat) (hc : o.code = c) (hb : 243 ≤ c ∧ c ≤ 246) (hl : 4 ≤ o.args.length) (d : DefM) (hd : o.def_ = d) (hk : 0 ≤ F.known d ∧ F.known d ≤ 1048576) (hag : F.again.length ≤ 1048576) (hr : Rd w va o.args.length 1 (intsL o.args)) (h : FileAt W A b F w) :
    Calls Try.prog 33 #[.pointer (some ⟨b, 0, none⟩), o.val va] w fun e w' => e = .returned (.tuple #[]) ∧ FileAt W A b (F.define d) w' := by
  obtain ⟨hr1, hr2, a, cap, hva, hat⟩ := hr
  subst hva
  have hx := h.allocX (.cells #[.int .i64 o.code, .int .i64 o.at_, .slice a o.args.length cap, .string ⟨o.text.toArray⟩] 33)
  obtain ⟨b3, hb3⟩ : ∃ b3, w.heap.size = b3 := ⟨_, rfl⟩
  rw [hb3] at hx
  have HX := Lib.hid hx
  have HAT := Lib.hid (show ∀ k x, o.args[k]? = some x → ∃ g off, a = some ⟨g, off, none⟩ ∧ w.cell? ⟨g, off + k, none⟩ = some (.int .i64 x) from fun k x hk => hat k (.int .i64 x) (by simp [hk]))
  have HRD := Lib.hid (show Rd w (.slice a o.args.length cap) o.args.length 1 (intsL o.args) from ⟨hr1, hr2, a, cap, rfl, hat⟩)
  have q0 := hx.sat.cell (i := 0) rfl
  have q2 := hx.sat.cell (i := 2) rfl
  have ql := hx.sat.lt
  have HEX := Lib.hid (show Ext w _ from (Ext.refl w).alloc (o := .cells #[.int .i64 o.code, .int .i64 o.at_, .slice a o.args.length cap, .string ⟨o.text.toArray⟩] 33))
  unfold Cmd.val
  clear hr1 hr2 hat hx h
  have HCC := Lib.hid hc
  clear hc
  have g243 : (243 : Int) ≤ (c : Int) := by omega
  have l246 : (c : Int) ≤ (246 : Int) := by omega
  have e138 : ((c : Int) == 138) = false := by rw [beq_eq_false_iff_ne]; omega
  have e139 : ((c : Int) == 139) = false := by rw [beq_eq_false_iff_ne]; omega
  have e248 : ((c : Int) == 248) = false := by rw [beq_eq_false_iff_ne]; omega
  have HK := Lib.hid hk
  have HD := Lib.hid hd
  clear hd
  have HAG := Lib.hid hag
  clear hk hag
  go_enter Try.func33, Try.ntmps33
  go_upto_region 1 with fail
  generalize w.alloc (.cells #[.int .i64 o.code, .int .i64 o.at_, .slice a o.args.length cap, .string ⟨o.text.toArray⟩] 33) = W1 at *
  clear hb3
  rw [HCC.out] at q0
  have q1 := HX.out.sat.cell (i := 1) rfl
  have q3 := HX.out.sat.cell (i := 3) rfl
  have hdf := def_any o (.slice a o.args.length cap) hl (HRD.out.ext HEX.out)
  unfold Cmd.val at hdf
  rw [HD.out, HCC.out] at hdf
  have HDF := Lib.hid hdf
  clear hdf
  go_wp2_with fail
  refine Calls.mono HDF.out ?_
  rintro e w3 ⟨rfl, hx3⟩
  have HDE := Lib.hid (define_any d HK.out HAG.out (HX.out.ext hx3))
  clear hx3 HDF q0 q1 q2 q3 ql
  go_wp2_with fail
  refine Calls.mono HDE.out ?_
  rintro e w4 ⟨rfl, h4⟩
  have H4 := Lib.hid h4
  clear h4 HDE
  (try go_wp2)
  exact ⟨rfl, .tuple #[], by unfold results; go_simp, rfl, (H4.out).less⟩

set_option maxRecDepth 100000 in
set_option maxHeartbeats 4000000 in
theorem out_bad_low {b : Nat} {F : FileM} (o : Cmd) (va : Value) (c : Nat) (hc : o.code = c) (hb : c ≤ 137) (hp : (F.part == 0) = false) (hr : Rd w va o.args.length 1 (intsL o.args)) (h : FileAt W A b F w) :
    Calls Try.prog 33 #[.pointer (some ⟨b, 0, none⟩), o.val va] w fun e w' => e = .returned (.tuple #[]) ∧ FileAt W A b ({ F with bad := true }) w' := by
  obtain ⟨hr1, hr2, a, cap, hva, hat⟩ := hr
  subst hva
  have hx := h.allocX (.cells #[.int .i64 o.code, .int .i64 o.at_, .slice a o.args.length cap, .string ⟨o.text.toArray⟩] 33)
  obtain ⟨b3, hb3⟩ : ∃ b3, w.heap.size = b3 := ⟨_, rfl⟩
  rw [hb3] at hx
  have HX := Lib.hid hx
  have HAT := Lib.hid (show ∀ k x, o.args[k]? = some x → ∃ g off, a = some ⟨g, off, none⟩ ∧ w.cell? ⟨g, off + k, none⟩ = some (.int .i64 x) from fun k x hk => hat k (.int .i64 x) (by simp [hk]))
  have HRD := Lib.hid (show Rd w (.slice a o.args.length cap) o.args.length 1 (intsL o.args) from ⟨hr1, hr2, a, cap, rfl, hat⟩)
  have q0 := hx.sat.cell (i := 0) rfl
  have q2 := hx.sat.cell (i := 2) rfl
  have ql := hx.sat.lt
  have HEX := Lib.hid (show Ext w _ from (Ext.refl w).alloc (o := .cells #[.int .i64 o.code, .int .i64 o.at_, .slice a o.args.length cap, .string ⟨o.text.toArray⟩] 33))
  unfold Cmd.val
  clear hr1 hr2 hat hx h
  have HCC := Lib.hid hc
  clear hc
  have g243 : ¬ (243 : Int) ≤ (c : Int) := by omega
  have l246 : (c : Int) ≤ (246 : Int) := by omega
  have e138 : ((c : Int) == 138) = false := by rw [beq_eq_false_iff_ne]; omega
  have e139 : ((c : Int) == 139) = false := by rw [beq_eq_false_iff_ne]; omega
  have e248 : ((c : Int) == 248) = false := by rw [beq_eq_false_iff_ne]; omega
  go_enter Try.func33, Try.ntmps33
  go_upto_region 1 with fail
  generalize w.alloc (.cells #[.int .i64 o.code, .int .i64 o.at_, .slice a o.args.length cap, .string ⟨o.text.toArray⟩] 33) = W1 at *
  clear hb3
  rw [HCC.out] at q0
  obtain ⟨m', fb', tb', nt', ov', av', pv', V', h1', h2⟩ := HX.out
  have k15 := h2.cell (i := 15) rfl
  have k4 := h2.cell (i := 4) rfl
  have kl := h2.lt
  have kf := h2.free (i := 15)
  have h3 := h2.set (i := 15) (v := .bool true)
  have H3 := Lib.hid (show FileAt W (pts b3 (.cells #[.int .i64 o.code, .int .i64 o.at_, .slice a o.args.length cap, .string ⟨o.text.toArray⟩] 33) * A) b { F with bad := true } _ from ⟨m', fb', tb', nt', ov', av', pv', V', h1', h3⟩)
  clear h1' h2 h3 HX
  (try go_wp2)
  exact ⟨rfl, .tuple #[], by unfold results; go_simp, rfl, (H3.out).less⟩

set_option maxRecDepth 100000 in
set_option maxHeartbeats 4000000 in
theorem out_bad_p139 {b : Nat} {F : FileM} (o : Cmd) (va : Value) (c : Nat) (hc : o.code = c) (hb : c = 139) (hp : (F.part == 0) = false) (hr : Rd w va o.args.length 1 (intsL o.args)) (h : FileAt W A b F w) :
    Calls Try.prog 33 #[.pointer (some ⟨b, 0, none⟩), o.val va] w fun e w' => e = .returned (.tuple #[]) ∧ FileAt W A b ({ F with bad := true }) w' := by
  obtain ⟨hr1, hr2, a, cap, hva, hat⟩ := hr
  subst hva
  have hx := h.allocX (.cells #[.int .i64 o.code, .int .i64 o.at_, .slice a o.args.length cap, .string ⟨o.text.toArray⟩] 33)
  obtain ⟨b3, hb3⟩ : ∃ b3, w.heap.size = b3 := ⟨_, rfl⟩
  rw [hb3] at hx
  have HX := Lib.hid hx
  have HAT := Lib.hid (show ∀ k x, o.args[k]? = some x → ∃ g off, a = some ⟨g, off, none⟩ ∧ w.cell? ⟨g, off + k, none⟩ = some (.int .i64 x) from fun k x hk => hat k (.int .i64 x) (by simp [hk]))
  have HRD := Lib.hid (show Rd w (.slice a o.args.length cap) o.args.length 1 (intsL o.args) from ⟨hr1, hr2, a, cap, rfl, hat⟩)
  have q0 := hx.sat.cell (i := 0) rfl
  have q2 := hx.sat.cell (i := 2) rfl
  have ql := hx.sat.lt
  have HEX := Lib.hid (show Ext w _ from (Ext.refl w).alloc (o := .cells #[.int .i64 o.code, .int .i64 o.at_, .slice a o.args.length cap, .string ⟨o.text.toArray⟩] 33))
  unfold Cmd.val
  clear hr1 hr2 hat hx h
  have HCC := Lib.hid hc
  clear hc
  subst hb
  go_enter Try.func33, Try.ntmps33
  go_upto_region 1 with fail
  generalize w.alloc (.cells #[.int .i64 o.code, .int .i64 o.at_, .slice a o.args.length cap, .string ⟨o.text.toArray⟩] 33) = W1 at *
  clear hb3
  rw [HCC.out] at q0
  obtain ⟨m', fb', tb', nt', ov', av', pv', V', h1', h2⟩ := HX.out
  have k15 := h2.cell (i := 15) rfl
  have k4 := h2.cell (i := 4) rfl
  have kl := h2.lt
  have kf := h2.free (i := 15)
  have h3 := h2.set (i := 15) (v := .bool true)
  have H3 := Lib.hid (show FileAt W (pts b3 (.cells #[.int .i64 o.code, .int .i64 o.at_, .slice a o.args.length cap, .string ⟨o.text.toArray⟩] 33) * A) b { F with bad := true } _ from ⟨m', fb', tb', nt', ov', av', pv', V', h1', h3⟩)
  clear h1' h2 h3 HX
  (try go_wp2)
  exact ⟨rfl, .tuple #[], by unfold results; go_simp, rfl, (H3.out).less⟩

set_option maxRecDepth 100000 in
set_option maxHeartbeats 4000000 in
theorem out_bad_mid {b : Nat} {F : FileM} (o : Cmd) (va : Value) (c : Nat) (hc : o.code = c) (hb : 140 ≤ c ∧ c ≤ 242) (hp : (F.part == 0) = false) (hr : Rd w va o.args.length 1 (intsL o.args)) (h : FileAt W A b F w) :
    Calls Try.prog 33 #[.pointer (some ⟨b, 0, none⟩), o.val va] w fun e w' => e = .returned (.tuple #[]) ∧ FileAt W A b ({ F with bad := true }) w' := by
  obtain ⟨hr1, hr2, a, cap, hva, hat⟩ := hr
  subst hva
  have hx := h.allocX (.cells #[.int .i64 o.code, .int .i64 o.at_, .slice a o.args.length cap, .string ⟨o.text.toArray⟩] 33)
  obtain ⟨b3, hb3⟩ : ∃ b3, w.heap.size = b3 := ⟨_, rfl⟩
  rw [hb3] at hx
  have HX := Lib.hid hx
  have HAT := Lib.hid (show ∀ k x, o.args[k]? = some x → ∃ g off, a = some ⟨g, off, none⟩ ∧ w.cell? ⟨g, off + k, none⟩ = some (.int .i64 x) from fun k x hk => hat k (.int .i64 x) (by simp [hk]))
  have HRD := Lib.hid (show Rd w (.slice a o.args.length cap) o.args.length 1 (intsL o.args) from ⟨hr1, hr2, a, cap, rfl, hat⟩)
  have q0 := hx.sat.cell (i := 0) rfl
  have q2 := hx.sat.cell (i := 2) rfl
  have ql := hx.sat.lt
  have HEX := Lib.hid (show Ext w _ from (Ext.refl w).alloc (o := .cells #[.int .i64 o.code, .int .i64 o.at_, .slice a o.args.length cap, .string ⟨o.text.toArray⟩] 33))
  unfold Cmd.val
  clear hr1 hr2 hat hx h
  have HCC := Lib.hid hc
  clear hc
  have g243 : ¬ (243 : Int) ≤ (c : Int) := by omega
  have l246 : (c : Int) ≤ (246 : Int) := by omega
  have e138 : ((c : Int) == 138) = false := by rw [beq_eq_false_iff_ne]; omega
  have e139 : ((c : Int) == 139) = false := by rw [beq_eq_false_iff_ne]; omega
  have e248 : ((c : Int) == 248) = false := by rw [beq_eq_false_iff_ne]; omega
  go_enter Try.func33, Try.ntmps33
  go_upto_region 1 with fail
  generalize w.alloc (.cells #[.int .i64 o.code, .int .i64 o.at_, .slice a o.args.length cap, .string ⟨o.text.toArray⟩] 33) = W1 at *
  clear hb3
  rw [HCC.out] at q0
  obtain ⟨m', fb', tb', nt', ov', av', pv', V', h1', h2⟩ := HX.out
  have k15 := h2.cell (i := 15) rfl
  have k4 := h2.cell (i := 4) rfl
  have kl := h2.lt
  have kf := h2.free (i := 15)
  have h3 := h2.set (i := 15) (v := .bool true)
  have H3 := Lib.hid (show FileAt W (pts b3 (.cells #[.int .i64 o.code, .int .i64 o.at_, .slice a o.args.length cap, .string ⟨o.text.toArray⟩] 33) * A) b { F with bad := true } _ from ⟨m', fb', tb', nt', ov', av', pv', V', h1', h3⟩)
  clear h1' h2 h3 HX
  (try go_wp2)
  exact ⟨rfl, .tuple #[], by unfold results; go_simp, rfl, (H3.out).less⟩

set_option maxRecDepth 100000 in
set_option maxHeartbeats 4000000 in
theorem out_bad_p247 {b : Nat} {F : FileM} (o : Cmd) (va : Value) (c : Nat) (hc : o.code = c) (hb : c = 247) (hp : (F.part == 0) = false) (hr : Rd w va o.args.length 1 (intsL o.args)) (h : FileAt W A b F w) :
    Calls Try.prog 33 #[.pointer (some ⟨b, 0, none⟩), o.val va] w fun e w' => e = .returned (.tuple #[]) ∧ FileAt W A b ({ F with bad := true }) w' := by
  obtain ⟨hr1, hr2, a, cap, hva, hat⟩ := hr
  subst hva
  have hx := h.allocX (.cells #[.int .i64 o.code, .int .i64 o.at_, .slice a o.args.length cap, .string ⟨o.text.toArray⟩] 33)
  obtain ⟨b3, hb3⟩ : ∃ b3, w.heap.size = b3 := ⟨_, rfl⟩
  rw [hb3] at hx
  have HX := Lib.hid hx
  have HAT := Lib.hid (show ∀ k x, o.args[k]? = some x → ∃ g off, a = some ⟨g, off, none⟩ ∧ w.cell? ⟨g, off + k, none⟩ = some (.int .i64 x) from fun k x hk => hat k (.int .i64 x) (by simp [hk]))
  have HRD := Lib.hid (show Rd w (.slice a o.args.length cap) o.args.length 1 (intsL o.args) from ⟨hr1, hr2, a, cap, rfl, hat⟩)
  have q0 := hx.sat.cell (i := 0) rfl
  have q2 := hx.sat.cell (i := 2) rfl
  have ql := hx.sat.lt
  have HEX := Lib.hid (show Ext w _ from (Ext.refl w).alloc (o := .cells #[.int .i64 o.code, .int .i64 o.at_, .slice a o.args.length cap, .string ⟨o.text.toArray⟩] 33))
  unfold Cmd.val
  clear hr1 hr2 hat hx h
  have HCC := Lib.hid hc
  clear hc
  subst hb
  go_enter Try.func33, Try.ntmps33
  go_upto_region 1 with fail
  generalize w.alloc (.cells #[.int .i64 o.code, .int .i64 o.at_, .slice a o.args.length cap, .string ⟨o.text.toArray⟩] 33) = W1 at *
  clear hb3
  rw [HCC.out] at q0
  obtain ⟨m', fb', tb', nt', ov', av', pv', V', h1', h2⟩ := HX.out
  have k15 := h2.cell (i := 15) rfl
  have k4 := h2.cell (i := 4) rfl
  have kl := h2.lt
  have kf := h2.free (i := 15)
  have h3 := h2.set (i := 15) (v := .bool true)
  have H3 := Lib.hid (show FileAt W (pts b3 (.cells #[.int .i64 o.code, .int .i64 o.at_, .slice a o.args.length cap, .string ⟨o.text.toArray⟩] 33) * A) b { F with bad := true } _ from ⟨m', fb', tb', nt', ov', av', pv', V', h1', h3⟩)
  clear h1' h2 h3 HX
  (try go_wp2)
  exact ⟨rfl, .tuple #[], by unfold results; go_simp, rfl, (H3.out).less⟩

set_option maxRecDepth 100000 in
set_option maxHeartbeats 4000000 in
theorem out_bad_p248 {b : Nat} {F : FileM} (o : Cmd) (va : Value) (c : Nat) (hc : o.code = c) (hb : c = 248) (hp : (F.part == 0) = false) (hr : Rd w va o.args.length 1 (intsL o.args)) (h : FileAt W A b F w) :
    Calls Try.prog 33 #[.pointer (some ⟨b, 0, none⟩), o.val va] w fun e w' => e = .returned (.tuple #[]) ∧ FileAt W A b ({ F with bad := true }) w' := by
  obtain ⟨hr1, hr2, a, cap, hva, hat⟩ := hr
  subst hva
  have hx := h.allocX (.cells #[.int .i64 o.code, .int .i64 o.at_, .slice a o.args.length cap, .string ⟨o.text.toArray⟩] 33)
  obtain ⟨b3, hb3⟩ : ∃ b3, w.heap.size = b3 := ⟨_, rfl⟩
  rw [hb3] at hx
  have HX := Lib.hid hx
  have HAT := Lib.hid (show ∀ k x, o.args[k]? = some x → ∃ g off, a = some ⟨g, off, none⟩ ∧ w.cell? ⟨g, off + k, none⟩ = some (.int .i64 x) from fun k x hk => hat k (.int .i64 x) (by simp [hk]))
  have HRD := Lib.hid (show Rd w (.slice a o.args.length cap) o.args.length 1 (intsL o.args) from ⟨hr1, hr2, a, cap, rfl, hat⟩)
  have q0 := hx.sat.cell (i := 0) rfl
  have q2 := hx.sat.cell (i := 2) rfl
  have ql := hx.sat.lt
  have HEX := Lib.hid (show Ext w _ from (Ext.refl w).alloc (o := .cells #[.int .i64 o.code, .int .i64 o.at_, .slice a o.args.length cap, .string ⟨o.text.toArray⟩] 33))
  unfold Cmd.val
  clear hr1 hr2 hat hx h
  have HCC := Lib.hid hc
  clear hc
  subst hb
  go_enter Try.func33, Try.ntmps33
  go_upto_region 1 with fail
  generalize w.alloc (.cells #[.int .i64 o.code, .int .i64 o.at_, .slice a o.args.length cap, .string ⟨o.text.toArray⟩] 33) = W1 at *
  clear hb3
  rw [HCC.out] at q0
  obtain ⟨m', fb', tb', nt', ov', av', pv', V', h1', h2⟩ := HX.out
  have k15 := h2.cell (i := 15) rfl
  have k4 := h2.cell (i := 4) rfl
  have kl := h2.lt
  have kf := h2.free (i := 15)
  have h3 := h2.set (i := 15) (v := .bool true)
  have H3 := Lib.hid (show FileAt W (pts b3 (.cells #[.int .i64 o.code, .int .i64 o.at_, .slice a o.args.length cap, .string ⟨o.text.toArray⟩] 33) * A) b { F with bad := true } _ from ⟨m', fb', tb', nt', ov', av', pv', V', h1', h3⟩)
  clear h1' h2 h3 HX
  (try go_wp2)
  exact ⟨rfl, .tuple #[], by unfold results; go_simp, rfl, (H3.out).less⟩

set_option maxRecDepth 100000 in
set_option maxHeartbeats 4000000 in
theorem out_bad_high {b : Nat} {F : FileM} (o : Cmd) (va : Value) (c : Nat) (hc : o.code = c) (hb : 249 ≤ c ∧ c ≤ 255) (hp : (F.part == 0) = false) (hr : Rd w va o.args.length 1 (intsL o.args)) (h : FileAt W A b F w) :
    Calls Try.prog 33 #[.pointer (some ⟨b, 0, none⟩), o.val va] w fun e w' => e = .returned (.tuple #[]) ∧ FileAt W A b ({ F with bad := true }) w' := by
  obtain ⟨hr1, hr2, a, cap, hva, hat⟩ := hr
  subst hva
  have hx := h.allocX (.cells #[.int .i64 o.code, .int .i64 o.at_, .slice a o.args.length cap, .string ⟨o.text.toArray⟩] 33)
  obtain ⟨b3, hb3⟩ : ∃ b3, w.heap.size = b3 := ⟨_, rfl⟩
  rw [hb3] at hx
  have HX := Lib.hid hx
  have HAT := Lib.hid (show ∀ k x, o.args[k]? = some x → ∃ g off, a = some ⟨g, off, none⟩ ∧ w.cell? ⟨g, off + k, none⟩ = some (.int .i64 x) from fun k x hk => hat k (.int .i64 x) (by simp [hk]))
  have HRD := Lib.hid (show Rd w (.slice a o.args.length cap) o.args.length 1 (intsL o.args) from ⟨hr1, hr2, a, cap, rfl, hat⟩)
  have q0 := hx.sat.cell (i := 0) rfl
  have q2 := hx.sat.cell (i := 2) rfl
  have ql := hx.sat.lt
  have HEX := Lib.hid (show Ext w _ from (Ext.refl w).alloc (o := .cells #[.int .i64 o.code, .int .i64 o.at_, .slice a o.args.length cap, .string ⟨o.text.toArray⟩] 33))
  unfold Cmd.val
  clear hr1 hr2 hat hx h
  have HCC := Lib.hid hc
  clear hc
  have g243 : (243 : Int) ≤ (c : Int) := by omega
  have l246 : ¬ (c : Int) ≤ (246 : Int) := by omega
  have e138 : ((c : Int) == 138) = false := by rw [beq_eq_false_iff_ne]; omega
  have e139 : ((c : Int) == 139) = false := by rw [beq_eq_false_iff_ne]; omega
  have e248 : ((c : Int) == 248) = false := by rw [beq_eq_false_iff_ne]; omega
  go_enter Try.func33, Try.ntmps33
  go_upto_region 1 with fail
  generalize w.alloc (.cells #[.int .i64 o.code, .int .i64 o.at_, .slice a o.args.length cap, .string ⟨o.text.toArray⟩] 33) = W1 at *
  clear hb3
  rw [HCC.out] at q0
  obtain ⟨m', fb', tb', nt', ov', av', pv', V', h1', h2⟩ := HX.out
  have k15 := h2.cell (i := 15) rfl
  have k4 := h2.cell (i := 4) rfl
  have kl := h2.lt
  have kf := h2.free (i := 15)
  have h3 := h2.set (i := 15) (v := .bool true)
  have H3 := Lib.hid (show FileAt W (pts b3 (.cells #[.int .i64 o.code, .int .i64 o.at_, .slice a o.args.length cap, .string ⟨o.text.toArray⟩] 33) * A) b { F with bad := true } _ from ⟨m', fb', tb', nt', ov', av', pv', V', h1', h3⟩)
  clear h1' h2 h3 HX
  (try go_wp2)
  exact ⟨rfl, .tuple #[], by unfold results; go_simp, rfl, (H3.out).less⟩

set_option maxRecDepth 100000 in
set_option maxHeartbeats 4000000 in
theorem out_badz_low {b : Nat} {F : FileM} (o : Cmd) (va : Value) (c : Nat) (hc : o.code = c) (hb : c ≤ 137) (hp : (F.part == 0) = true) (hr : Rd w va o.args.length 1 (intsL o.args)) (h : FileAt W A b F w) :
    Calls Try.prog 33 #[.pointer (some ⟨b, 0, none⟩), o.val va] w fun e w' => e = .returned (.tuple #[]) ∧ FileAt W A b ({ F with bad := true }) w' := by
  obtain ⟨hr1, hr2, a, cap, hva, hat⟩ := hr
  subst hva
  have hx := h.allocX (.cells #[.int .i64 o.code, .int .i64 o.at_, .slice a o.args.length cap, .string ⟨o.text.toArray⟩] 33)
  obtain ⟨b3, hb3⟩ : ∃ b3, w.heap.size = b3 := ⟨_, rfl⟩
  rw [hb3] at hx
  have HX := Lib.hid hx
  have HAT := Lib.hid (show ∀ k x, o.args[k]? = some x → ∃ g off, a = some ⟨g, off, none⟩ ∧ w.cell? ⟨g, off + k, none⟩ = some (.int .i64 x) from fun k x hk => hat k (.int .i64 x) (by simp [hk]))
  have HRD := Lib.hid (show Rd w (.slice a o.args.length cap) o.args.length 1 (intsL o.args) from ⟨hr1, hr2, a, cap, rfl, hat⟩)
  have q0 := hx.sat.cell (i := 0) rfl
  have q2 := hx.sat.cell (i := 2) rfl
  have ql := hx.sat.lt
  have HEX := Lib.hid (show Ext w _ from (Ext.refl w).alloc (o := .cells #[.int .i64 o.code, .int .i64 o.at_, .slice a o.args.length cap, .string ⟨o.text.toArray⟩] 33))
  unfold Cmd.val
  clear hr1 hr2 hat hx h
  have HCC := Lib.hid hc
  clear hc
  have g243 : ¬ (243 : Int) ≤ (c : Int) := by omega
  have l246 : (c : Int) ≤ (246 : Int) := by omega
  have e138 : ((c : Int) == 138) = false := by rw [beq_eq_false_iff_ne]; omega
  have e139 : ((c : Int) == 139) = false := by rw [beq_eq_false_iff_ne]; omega
  have e248 : ((c : Int) == 248) = false := by rw [beq_eq_false_iff_ne]; omega
  go_enter Try.func33, Try.ntmps33
  go_upto_region 1 with fail
  generalize w.alloc (.cells #[.int .i64 o.code, .int .i64 o.at_, .slice a o.args.length cap, .string ⟨o.text.toArray⟩] 33) = W1 at *
  clear hb3
  rw [HCC.out] at q0
  obtain ⟨m', fb', tb', nt', ov', av', pv', V', h1', h2⟩ := HX.out
  have k15 := h2.cell (i := 15) rfl
  have k4 := h2.cell (i := 4) rfl
  have kl := h2.lt
  have kf := h2.free (i := 15)
  have h3 := h2.set (i := 15) (v := .bool true)
  have H3 := Lib.hid (show FileAt W (pts b3 (.cells #[.int .i64 o.code, .int .i64 o.at_, .slice a o.args.length cap, .string ⟨o.text.toArray⟩] 33) * A) b { F with bad := true } _ from ⟨m', fb', tb', nt', ov', av', pv', V', h1', h3⟩)
  clear h1' h2 h3 HX
  (try go_wp2)
  exact ⟨rfl, .tuple #[], by unfold results; go_simp, rfl, (H3.out).less⟩

set_option maxRecDepth 100000 in
set_option maxHeartbeats 4000000 in
theorem out_badz_mid {b : Nat} {F : FileM} (o : Cmd) (va : Value) (c : Nat) (hc : o.code = c) (hb : 140 ≤ c ∧ c ≤ 242) (hp : (F.part == 0) = true) (hr : Rd w va o.args.length 1 (intsL o.args)) (h : FileAt W A b F w) :
    Calls Try.prog 33 #[.pointer (some ⟨b, 0, none⟩), o.val va] w fun e w' => e = .returned (.tuple #[]) ∧ FileAt W A b ({ F with bad := true }) w' := by
  obtain ⟨hr1, hr2, a, cap, hva, hat⟩ := hr
  subst hva
  have hx := h.allocX (.cells #[.int .i64 o.code, .int .i64 o.at_, .slice a o.args.length cap, .string ⟨o.text.toArray⟩] 33)
  obtain ⟨b3, hb3⟩ : ∃ b3, w.heap.size = b3 := ⟨_, rfl⟩
  rw [hb3] at hx
  have HX := Lib.hid hx
  have HAT := Lib.hid (show ∀ k x, o.args[k]? = some x → ∃ g off, a = some ⟨g, off, none⟩ ∧ w.cell? ⟨g, off + k, none⟩ = some (.int .i64 x) from fun k x hk => hat k (.int .i64 x) (by simp [hk]))
  have HRD := Lib.hid (show Rd w (.slice a o.args.length cap) o.args.length 1 (intsL o.args) from ⟨hr1, hr2, a, cap, rfl, hat⟩)
  have q0 := hx.sat.cell (i := 0) rfl
  have q2 := hx.sat.cell (i := 2) rfl
  have ql := hx.sat.lt
  have HEX := Lib.hid (show Ext w _ from (Ext.refl w).alloc (o := .cells #[.int .i64 o.code, .int .i64 o.at_, .slice a o.args.length cap, .string ⟨o.text.toArray⟩] 33))
  unfold Cmd.val
  clear hr1 hr2 hat hx h
  have HCC := Lib.hid hc
  clear hc
  have g243 : ¬ (243 : Int) ≤ (c : Int) := by omega
  have l246 : (c : Int) ≤ (246 : Int) := by omega
  have e138 : ((c : Int) == 138) = false := by rw [beq_eq_false_iff_ne]; omega
  have e139 : ((c : Int) == 139) = false := by rw [beq_eq_false_iff_ne]; omega
  have e248 : ((c : Int) == 248) = false := by rw [beq_eq_false_iff_ne]; omega
  go_enter Try.func33, Try.ntmps33
  go_upto_region 1 with fail
  generalize w.alloc (.cells #[.int .i64 o.code, .int .i64 o.at_, .slice a o.args.length cap, .string ⟨o.text.toArray⟩] 33) = W1 at *
  clear hb3
  rw [HCC.out] at q0
  obtain ⟨m', fb', tb', nt', ov', av', pv', V', h1', h2⟩ := HX.out
  have k15 := h2.cell (i := 15) rfl
  have k4 := h2.cell (i := 4) rfl
  have kl := h2.lt
  have kf := h2.free (i := 15)
  have h3 := h2.set (i := 15) (v := .bool true)
  have H3 := Lib.hid (show FileAt W (pts b3 (.cells #[.int .i64 o.code, .int .i64 o.at_, .slice a o.args.length cap, .string ⟨o.text.toArray⟩] 33) * A) b { F with bad := true } _ from ⟨m', fb', tb', nt', ov', av', pv', V', h1', h3⟩)
  clear h1' h2 h3 HX
  (try go_wp2)
  exact ⟨rfl, .tuple #[], by unfold results; go_simp, rfl, (H3.out).less⟩

set_option maxRecDepth 100000 in
set_option maxHeartbeats 4000000 in
theorem out_badz_p247 {b : Nat} {F : FileM} (o : Cmd) (va : Value) (c : Nat) (hc : o.code = c) (hb : c = 247) (hp : (F.part == 0) = true) (hr : Rd w va o.args.length 1 (intsL o.args)) (h : FileAt W A b F w) :
    Calls Try.prog 33 #[.pointer (some ⟨b, 0, none⟩), o.val va] w fun e w' => e = .returned (.tuple #[]) ∧ FileAt W A b ({ F with bad := true }) w' := by
  obtain ⟨hr1, hr2, a, cap, hva, hat⟩ := hr
  subst hva
  have hx := h.allocX (.cells #[.int .i64 o.code, .int .i64 o.at_, .slice a o.args.length cap, .string ⟨o.text.toArray⟩] 33)
  obtain ⟨b3, hb3⟩ : ∃ b3, w.heap.size = b3 := ⟨_, rfl⟩
  rw [hb3] at hx
  have HX := Lib.hid hx
  have HAT := Lib.hid (show ∀ k x, o.args[k]? = some x → ∃ g off, a = some ⟨g, off, none⟩ ∧ w.cell? ⟨g, off + k, none⟩ = some (.int .i64 x) from fun k x hk => hat k (.int .i64 x) (by simp [hk]))
  have HRD := Lib.hid (show Rd w (.slice a o.args.length cap) o.args.length 1 (intsL o.args) from ⟨hr1, hr2, a, cap, rfl, hat⟩)
  have q0 := hx.sat.cell (i := 0) rfl
  have q2 := hx.sat.cell (i := 2) rfl
  have ql := hx.sat.lt
  have HEX := Lib.hid (show Ext w _ from (Ext.refl w).alloc (o := .cells #[.int .i64 o.code, .int .i64 o.at_, .slice a o.args.length cap, .string ⟨o.text.toArray⟩] 33))
  unfold Cmd.val
  clear hr1 hr2 hat hx h
  have HCC := Lib.hid hc
  clear hc
  subst hb
  go_enter Try.func33, Try.ntmps33
  go_upto_region 1 with fail
  generalize w.alloc (.cells #[.int .i64 o.code, .int .i64 o.at_, .slice a o.args.length cap, .string ⟨o.text.toArray⟩] 33) = W1 at *
  clear hb3
  rw [HCC.out] at q0
  obtain ⟨m', fb', tb', nt', ov', av', pv', V', h1', h2⟩ := HX.out
  have k15 := h2.cell (i := 15) rfl
  have k4 := h2.cell (i := 4) rfl
  have kl := h2.lt
  have kf := h2.free (i := 15)
  have h3 := h2.set (i := 15) (v := .bool true)
  have H3 := Lib.hid (show FileAt W (pts b3 (.cells #[.int .i64 o.code, .int .i64 o.at_, .slice a o.args.length cap, .string ⟨o.text.toArray⟩] 33) * A) b { F with bad := true } _ from ⟨m', fb', tb', nt', ov', av', pv', V', h1', h3⟩)
  clear h1' h2 h3 HX
  (try go_wp2)
  exact ⟨rfl, .tuple #[], by unfold results; go_simp, rfl, (H3.out).less⟩

set_option maxRecDepth 100000 in
set_option maxHeartbeats 4000000 in
theorem out_badz_high {b : Nat} {F : FileM} (o : Cmd) (va : Value) (c : Nat) (hc : o.code = c) (hb : 249 ≤ c ∧ c ≤ 255) (hp : (F.part == 0) = true) (hr : Rd w va o.args.length 1 (intsL o.args)) (h : FileAt W A b F w) :
    Calls Try.prog 33 #[.pointer (some ⟨b, 0, none⟩), o.val va] w fun e w' => e = .returned (.tuple #[]) ∧ FileAt W A b ({ F with bad := true }) w' := by
  obtain ⟨hr1, hr2, a, cap, hva, hat⟩ := hr
  subst hva
  have hx := h.allocX (.cells #[.int .i64 o.code, .int .i64 o.at_, .slice a o.args.length cap, .string ⟨o.text.toArray⟩] 33)
  obtain ⟨b3, hb3⟩ : ∃ b3, w.heap.size = b3 := ⟨_, rfl⟩
  rw [hb3] at hx
  have HX := Lib.hid hx
  have HAT := Lib.hid (show ∀ k x, o.args[k]? = some x → ∃ g off, a = some ⟨g, off, none⟩ ∧ w.cell? ⟨g, off + k, none⟩ = some (.int .i64 x) from fun k x hk => hat k (.int .i64 x) (by simp [hk]))
  have HRD := Lib.hid (show Rd w (.slice a o.args.length cap) o.args.length 1 (intsL o.args) from ⟨hr1, hr2, a, cap, rfl, hat⟩)
  have q0 := hx.sat.cell (i := 0) rfl
  have q2 := hx.sat.cell (i := 2) rfl
  have ql := hx.sat.lt
  have HEX := Lib.hid (show Ext w _ from (Ext.refl w).alloc (o := .cells #[.int .i64 o.code, .int .i64 o.at_, .slice a o.args.length cap, .string ⟨o.text.toArray⟩] 33))
  unfold Cmd.val
  clear hr1 hr2 hat hx h
  have HCC := Lib.hid hc
  clear hc
  have g243 : (243 : Int) ≤ (c : Int) := by omega
  have l246 : ¬ (c : Int) ≤ (246 : Int) := by omega
  have e138 : ((c : Int) == 138) = false := by rw [beq_eq_false_iff_ne]; omega
  have e139 : ((c : Int) == 139) = false := by rw [beq_eq_false_iff_ne]; omega
  have e248 : ((c : Int) == 248) = false := by rw [beq_eq_false_iff_ne]; omega
  go_enter Try.func33, Try.ntmps33
  go_upto_region 1 with fail
  generalize w.alloc (.cells #[.int .i64 o.code, .int .i64 o.at_, .slice a o.args.length cap, .string ⟨o.text.toArray⟩] 33) = W1 at *
  clear hb3
  rw [HCC.out] at q0
  obtain ⟨m', fb', tb', nt', ov', av', pv', V', h1', h2⟩ := HX.out
  have k15 := h2.cell (i := 15) rfl
  have k4 := h2.cell (i := 4) rfl
  have kl := h2.lt
  have kf := h2.free (i := 15)
  have h3 := h2.set (i := 15) (v := .bool true)
  have H3 := Lib.hid (show FileAt W (pts b3 (.cells #[.int .i64 o.code, .int .i64 o.at_, .slice a o.args.length cap, .string ⟨o.text.toArray⟩] 33) * A) b { F with bad := true } _ from ⟨m', fb', tb', nt', ov', av', pv', V', h1', h3⟩)
  clear h1' h2 h3 HX
  (try go_wp2)
  exact ⟨rfl, .tuple #[], by unfold results; go_simp, rfl, (H3.out).less⟩


end Go.Proofs.Ytjeinldhbajknaa
