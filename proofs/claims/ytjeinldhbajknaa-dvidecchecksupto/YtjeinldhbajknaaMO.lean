import Derived.Test.YtjeinldhbajknaaMK
/-
  A command outside of pages. Conditions: those that each theorem names.
-/
namespace Go.Proofs.Ytjeinldhbajknaa
open Go.RowKit Go.Sp Go.Conc
variable {W w w' : World} {A : HProp}

set_option maxRecDepth 100000 in
set_option maxHeartbeats 4000000 in
theorem out_nop {b : Nat} {F : FileM} (o : Cmd) (va : Value) (c : Nat) (hc : o.code = c) (hb : c = 138) (hr : Rd w va o.args.length 1 (intsL o.args)) (h : FileAt W A b F w) :
    Calls Try.prog 33 #[.pointer (some ⟨b, 0, none⟩), o.val va] w fun e w' => e = .returned (.tuple #[]) ∧ FileAt W A b (F) w' := by
  obtain ⟨hr1, hr2, a, cap, hva, hat⟩ := hr
  subst hva
  have hx := h.allocX (.cells #[.int .i64 o.code, .int .i64 o.at_, .slice a o.args.length cap, .string ⟨o.text.toArray⟩] 33)
  obtain ⟨b3, hb3⟩ : ∃ b3, w.heap.size = b3 := ⟨_, rfl⟩
  rw [hb3] at hx
  have HX := Lib.hid hx
  have HAT := Lib.hid (show ∀ k x, o.args[k]? = some x → ∃ g off, a = some ⟨g, off, none⟩ ∧ w.cell? ⟨g, off + k, none⟩ = some (.int .i64 x) from fun k x hk => hat k (.int .i64 x) (by simp [hk]))
  have HRD := Lib.hid (show Rd w (.slice a o.args.length cap) o.args.length 1 (intsL o.args) from ⟨hr1, hr2, a, cap, rfl, hat⟩)
  have q0 := hx.sat.cell (i := 0) rfl
  have q2 := hx.sat.cell (i := 2) rfl
  have ql := hx.sat.lt
  have HEX := Lib.hid (show Ext w _ from (Ext.refl w).alloc (o := .cells #[.int .i64 o.code, .int .i64 o.at_, .slice a o.args.length cap, .string ⟨o.text.toArray⟩] 33))
  unfold Cmd.val
  clear hr1 hr2 hat hx h
  have HCC := Lib.hid hc
  clear hc
  subst hb
  go_enter Try.func33, Try.ntmps33
  go_upto_region 1 with fail
  generalize w.alloc (.cells #[.int .i64 o.code, .int .i64 o.at_, .slice a o.args.length cap, .string ⟨o.text.toArray⟩] 33) = W1 at *
  clear hb3
  rw [HCC.out] at q0
  (try go_wp2)
  exact ⟨rfl, .tuple #[], by unfold results; go_simp, rfl, (HX.out).less⟩

set_option maxRecDepth 100000 in
set_option maxHeartbeats 4000000 in
theorem out_def {b : Nat} {F : FileM} (o : Cmd) (va : Value) (c : Nat) (hc : o.code = c) (hb : 243 ≤ c ∧ c ≤ 246) (hl : 4 ≤ o.args.length) (d : DefM) (hd : o.def_ = d) (hk : 0 ≤ F.known d ∧ F.known d ≤ 1048576) (hag : F.again.length ≤ 1048576) (hr : Rd w va o.args.length 1 (intsL o.args)) (h : FileAt W A b F w) :
    Calls Try.prog 33 #[.pointer (some ⟨b, 0, none⟩), o.val va] w fun e w' => e = .returned (.tuple #[]) ∧ FileAt W A b (F.define d) w' := by
  obtain ⟨hr1, hr2, a, cap, hva, hat⟩ := hr
  subst hva
  have hx := h.allocX (.cells #[.int .i64 o.code, .int .i64 o.at_, .slice a o.args.length cap, .string ⟨o.text.toArray⟩] 33)
  obtain ⟨b3, hb3⟩ : ∃ b3, w.heap.size = b3 := ⟨_, rfl⟩
  rw [hb3] at hx
  have HX := Lib.hid hx
  have HAT := Lib.hid (show ∀ k x, o.args[k]? = some x → ∃ g off, a = some ⟨g, off, none⟩ ∧ w.cell? ⟨g, off + k, none⟩ = some (.int .i64 x) from fun k x hk => hat k (.int .i64 x) (by simp [hk]))
  have HRD := Lib.hid (show Rd w (.slice a o.args.length cap) o.args.length 1 (intsL o.args) from ⟨hr1, hr2, a, cap, rfl, hat⟩)
  have q0 := hx.sat.cell (i := 0) rfl
  have q2 := hx.sat.cell (i := 2) rfl
  have ql := hx.sat.lt
  have HEX := Lib.hid (show Ext w _ from (Ext.refl w).alloc (o := .cells #[.int .i64 o.code, .int .i64 o.at_, .slice a o.args.length cap, .string ⟨o.text.toArray⟩] 33))
  unfold Cmd.val
  clear hr1 hr2 hat hx h
  have HCC := Lib.hid hc
  clear hc
  have g243 : (243 : Int) ≤ (c : Int) := by omega
  have l246 : (c : Int) ≤ (246 : Int) := by omega
  have e138 : ((c : Int) == 138) = false := by rw [beq_eq_false_iff_ne]; omega
  have e139 : ((c : Int) == 139) = false := by rw [beq_eq_false_iff_ne]; omega
  have e248 : ((c : Int) == 248) = false := by rw [beq_eq_false_iff_ne]; omega
  have HK := Lib.hid hk
  have HD := Lib.hid hd
  clear hd
  have HAG := Lib.hid hag
  clear hk hag
  go_enter Try.func33, Try.ntmps33
  go_upto_region 1 with fail
  generalize w.alloc (.cells #[.int .i64 o.code, .int .i64 o.at_, .slice a o.args.length cap, .string ⟨o.text.toArray⟩] 33) = W1 at *
  clear hb3
  rw [HCC.out] at q0
  have q1 := HX.out.sat.cell (i := 1) rfl
  have q3 := HX.out.sat.cell (i := 3) rfl
  have hdf := def_any o (.slice a o.args.length cap) hl (HRD.out.ext HEX.out)
  unfold Cmd.val at hdf
  rw [HD.out, HCC.out] at hdf
  have HDF := Lib.hid hdf
  clear hdf
  go_wp2_with fail
  refine Calls.mono HDF.out ?_
  rintro e w3 ⟨rfl, hx3⟩
  have HDE := Lib.hid (define_any d HK.out HAG.out (HX.out.ext hx3))
  clear hx3 HDF q0 q1 q2 q3 ql
  go_wp2_with fail
  refine Calls.mono HDE.out ?_
  rintro e w4 ⟨rfl, h4⟩
  have H4 := Lib.hid h4
  clear h4 HDE
  (try go_wp2)
  exact ⟨rfl, .tuple #[], by unfold results; go_simp, rfl, (H4.out).less⟩

set_option maxRecDepth 100000 in
set_option maxHeartbeats 4000000 in
theorem out_bad_low {b : Nat} {F : FileM} (o : Cmd) (va : Value) (c : Nat) (hc : o.code = c) (hb : c ≤ 137) (hp : (F.part == 0) = false) (hr : Rd w va o.args.length 1 (intsL o.args)) (h : FileAt W A b F w) :
    Calls Try.prog 33 #[.pointer (some ⟨b, 0, none⟩), o.val va] w fun e w' => e = .returned (.tuple #[]) ∧ FileAt W A b ({ F with bad := true }) w' := by
  obtain ⟨hr1, hr2, a, cap, hva, hat⟩ := hr
  subst hva
  have hx := h.allocX (.cells #[.int .i64 o.code, .int .i64 o.at_, .slice a o.args.length cap, .string ⟨o.text.toArray⟩] 33)
  obtain ⟨b3, hb3⟩ : ∃ b3, w.heap.size = b3 := ⟨_, rfl⟩
  rw [hb3] at hx
  have HX := Lib.hid hx
  have HAT := Lib.hid (show ∀ k x, o.args[k]? = some x → ∃ g off, a = some ⟨g, off, none⟩ ∧ w.cell? ⟨g, off + k, none⟩ = some (.int .i64 x) from fun k x hk => hat k (.int .i64 x) (by simp [hk]))
  have HRD := Lib.hid (show Rd w (.slice a o.args.length cap) o.args.length 1 (intsL o.args) from ⟨hr1, hr2, a, cap, rfl, hat⟩)
  have q0 := hx.sat.cell (i := 0) rfl
  have q2 := hx.sat.cell (i := 2) rfl
  have ql := hx.sat.lt
  have HEX := Lib.hid (show Ext w _ from (Ext.refl w).alloc (o := .cells #[.int .i64 o.code, .int .i64 o.at_, .slice a o.args.length cap, .string ⟨o.text.toArray⟩] 33))
  unfold Cmd.val
  clear hr1 hr2 hat hx h
  have HCC := Lib.hid hc
  clear hc
  have g243 : ¬ (243 : Int) ≤ (c : Int) := by omega
  have l246 : (c : Int) ≤ (246 : Int) := by omega
  have e138 : ((c : Int) == 138) = false := by rw [beq_eq_false_iff_ne]; omega
  have e139 : ((c : Int) == 139) = false := by rw [beq_eq_false_iff_ne]; omega
  have e248 : ((c : Int) == 248) = false := by rw [beq_eq_false_iff_ne]; omega
  go_enter Try.func33, Try.ntmps33
  go_upto_region 1 with fail
  generalize w.alloc (.cells #[.int .i64 o.code, .int .i64 o.at_, .slice a o.args.length cap, .string ⟨o.text.toArray⟩] 33) = W1 at *
  clear hb3
  rw [HCC.out] at q0
  obtain ⟨m', fb', tb', nt', ov', av', pv', V', h1', h2⟩ := HX.out
  have k15 := h2.cell (i := 15) rfl
  have k4 := h2.cell (i := 4) rfl
  have kl := h2.lt
  have kf := h2.free (i := 15)
  have h3 := h2.set (i := 15) (v := .bool true)
  have H3 := Lib.hid (show FileAt W (pts b3 (.cells #[.int .i64 o.code, .int .i64 o.at_, .slice a o.args.length cap, .string ⟨o.text.toArray⟩] 33) * A) b { F with bad := true } _ from ⟨m', fb', tb', nt', ov', av', pv', V', h1', h3⟩)
  clear h1' h2 h3 HX
  (try go_wp2)
  exact ⟨rfl, .tuple #[], by unfold results; go_simp, rfl, (H3.out).less⟩

set_option maxRecDepth 100000 in
set_option maxHeartbeats 4000000 in
theorem out_bad_p139 {b : Nat} {F : FileM} (o : Cmd) (va : Value) (c : Nat) (hc : o.code = c) (hb : c = 139) (hp : (F.part == 0) = false) (hr : Rd w va o.args.length 1 (intsL o.args)) (h : FileAt W A b F w) :
    Calls Try.prog 33 #[.pointer (some ⟨b, 0, none⟩), o.val va] w fun e w' => e = .returned (.tuple #[]) ∧ FileAt W A b ({ F with bad := true }) w' := by
  obtain ⟨hr1, hr2, a, cap, hva, hat⟩ := hr
  subst hva
  have hx := h.allocX (.cells #[.int .i64 o.code, .int .i64 o.at_, .slice a o.args.length cap, .string ⟨o.text.toArray⟩] 33)
  obtain ⟨b3, hb3⟩ : ∃ b3, w.heap.size = b3 := ⟨_, rfl⟩
  rw [hb3] at hx
  have HX := Lib.hid hx
  have HAT := Lib.hid (show ∀ k x, o.args[k]? = some x → ∃ g off, a = some ⟨g, off, none⟩ ∧ w.cell? ⟨g, off + k, none⟩ = some (.int .i64 x) from fun k x hk => hat k (.int .i64 x) (by simp [hk]))
  have HRD := Lib.hid (show Rd w (.slice a o.args.length cap) o.args.length 1 (intsL o.args) from ⟨hr1, hr2, a, cap, rfl, hat⟩)
  have q0 := hx.sat.cell (i := 0) rfl
  have q2 := hx.sat.cell (i := 2) rfl
  have ql := hx.sat.lt
  have HEX := Lib.hid (show Ext w _ from (Ext.refl w).alloc (o := .cells #[.int .i64 o.code, .int .i64 o.at_, .slice a o.args.length cap, .string ⟨o.text.toArray⟩] 33))
  unfold Cmd.val
  clear hr1 hr2 hat hx h
  have HCC := Lib.hid hc
  clear hc
  subst hb
  go_enter Try.func33, Try.ntmps33
  go_upto_region 1 with fail
  generalize w.alloc (.cells #[.int .i64 o.code, .int .i64 o.at_, .slice a o.args.length cap, .string ⟨o.text.toArray⟩] 33) = W1 at *
  clear hb3
  rw [HCC.out] at q0
  obtain ⟨m', fb', tb', nt', ov', av', pv', V', h1', h2⟩ := HX.out
  have k15 := h2.cell (i := 15) rfl
  have k4 := h2.cell (i := 4) rfl
  have kl := h2.lt
  have kf := h2.free (i := 15)
  have h3 := h2.set (i := 15) (v := .bool true)
  have H3 := Lib.hid (show FileAt W (pts b3 (.cells #[.int .i64 o.code, .int .i64 o.at_, .slice a o.args.length cap, .string ⟨o.text.toArray⟩] 33) * A) b { F with bad := true } _ from ⟨m', fb', tb', nt', ov', av', pv', V', h1', h3⟩)
  clear h1' h2 h3 HX
  (try go_wp2)
  exact ⟨rfl, .tuple #[], by unfold results; go_simp, rfl, (H3.out).less⟩

set_option maxRecDepth 100000 in
set_option maxHeartbeats 4000000 in
theorem out_bad_mid {b : Nat} {F : FileM} (o : Cmd) (va : Value) (c : Nat) (hc : o.code = c) (hb : 140 ≤ c ∧ c ≤ 242) (hp : (F.part == 0) = false) (hr : Rd w va o.args.length 1 (intsL o.args)) (h : FileAt W A b F w) :
    Calls Try.prog 33 #[.pointer (some ⟨b, 0, none⟩), o.val va] w fun e w' => e = .returned (.tuple #[]) ∧ FileAt W A b ({ F with bad := true }) w' := by
  obtain ⟨hr1, hr2, a, cap, hva, hat⟩ := hr
  subst hva
  have hx := h.allocX (.cells #[.int .i64 o.code, .int .i64 o.at_, .slice a o.args.length cap, .string ⟨o.text.toArray⟩] 33)
  obtain ⟨b3, hb3⟩ : ∃ b3, w.heap.size = b3 := ⟨_, rfl⟩
  rw [hb3] at hx
  have HX := Lib.hid hx
  have HAT := Lib.hid (show ∀ k x, o.args[k]? = some x → ∃ g off, a = some ⟨g, off, none⟩ ∧ w.cell? ⟨g, off + k, none⟩ = some (.int .i64 x) from fun k x hk => hat k (.int .i64 x) (by simp [hk]))
  have HRD := Lib.hid (show Rd w (.slice a o.args.length cap) o.args.length 1 (intsL o.args) from ⟨hr1, hr2, a, cap, rfl, hat⟩)
  have q0 := hx.sat.cell (i := 0) rfl
  have q2 := hx.sat.cell (i := 2) rfl
  have ql := hx.sat.lt
  have HEX := Lib.hid (show Ext w _ from (Ext.refl w).alloc (o := .cells #[.int .i64 o.code, .int .i64 o.at_, .slice a o.args.length cap, .string ⟨o.text.toArray⟩] 33))
  unfold Cmd.val
  clear hr1 hr2 hat hx h
  have HCC := Lib.hid hc
  clear hc
  have g243 : ¬ (243 : Int) ≤ (c : Int) := by omega
  have l246 : (c : Int) ≤ (246 : Int) := by omega
  have e138 : ((c : Int) == 138) = false := by rw [beq_eq_false_iff_ne]; omega
  have e139 : ((c : Int) == 139) = false := by rw [beq_eq_false_iff_ne]; omega
  have e248 : ((c : Int) == 248) = false := by rw [beq_eq_false_iff_ne]; omega
  go_enter Try.func33, Try.ntmps33
  go_upto_region 1 with fail
  generalize w.alloc (.cells #[.int .i64 o.code, .int .i64 o.at_, .slice a o.args.length cap, .string ⟨o.text.toArray⟩] 33) = W1 at *
  clear hb3
  rw [HCC.out] at q0
  obtain ⟨m', fb', tb', nt', ov', av', pv', V', h1', h2⟩ := HX.out
  have k15 := h2.cell (i := 15) rfl
  have k4 := h2.cell (i := 4) rfl
  have kl := h2.lt
  have kf := h2.free (i := 15)
  have h3 := h2.set (i := 15) (v := .bool true)
  have H3 := Lib.hid (show FileAt W (pts b3 (.cells #[.int .i64 o.code, .int .i64 o.at_, .slice a o.args.length cap, .string ⟨o.text.toArray⟩] 33) * A) b { F with bad := true } _ from ⟨m', fb', tb', nt', ov', av', pv', V', h1', h3⟩)
  clear h1' h2 h3 HX
  (try go_wp2)
  exact ⟨rfl, .tuple #[], by unfold results; go_simp, rfl, (H3.out).less⟩

set_option maxRecDepth 100000 in
set_option maxHeartbeats 4000000 in
theorem out_bad_p247 {b : Nat} {F : FileM} (o : Cmd) (va : Value) (c : Nat) (hc : o.code = c) (hb : c = 247) (hp : (F.part == 0) = false) (hr : Rd w va o.args.length 1 (intsL o.args)) (h : FileAt W A b F w) :
    Calls Try.prog 33 #[.pointer (some ⟨b, 0, none⟩), o.val va] w fun e w' => e = .returned (.tuple #[]) ∧ FileAt W A b ({ F with bad := true }) w' := by
  obtain ⟨hr1, hr2, a, cap, hva, hat⟩ := hr
  subst hva
  have hx := h.allocX (.cells #[.int .i64 o.code, .int .i64 o.at_, .slice a o.args.length cap, .string ⟨o.text.toArray⟩] 33)
  obtain ⟨b3, hb3⟩ : ∃ b3, w.heap.size = b3 := ⟨_, rfl⟩
  rw [hb3] at hx
  have HX := Lib.hid hx
  have HAT := Lib.hid (show ∀ k x, o.args[k]? = some x → ∃ g off, a = some ⟨g, off, none⟩ ∧ w.cell? ⟨g, off + k, none⟩ = some (.int .i64 x) from fun k x hk => hat k (.int .i64 x) (by simp [hk]))
  have HRD := Lib.hid (show Rd w (.slice a o.args.length cap) o.args.length 1 (intsL o.args) from ⟨hr1, hr2, a, cap, rfl, hat⟩)
  have q0 := hx.sat.cell (i := 0) rfl
  have q2 := hx.sat.cell (i := 2) rfl
  have ql := hx.sat.lt
  have HEX := Lib.hid (show Ext w _ from (Ext.refl w).alloc (o := .cells #[.int .i64 o.code, .int .i64 o.at_, .slice a o.args.length cap, .string ⟨o.text.toArray⟩] 33))
  unfold Cmd.val
  clear hr1 hr2 hat hx h
  have HCC := Lib.hid hc
  clear hc
  subst hb
  go_enter Try.func33, Try.ntmps33
  go_upto_region 1 with fail
  generalize w.alloc (.cells #[.int .i64 o.code, .int .i64 o.at_, .slice a o.args.length cap, .string ⟨o.text.toArray⟩] 33) = W1 at *
  clear hb3
  rw [HCC.out] at q0
  obtain ⟨m', fb', tb', nt', ov', av', pv', V', h1', h2⟩ := HX.out
  have k15 := h2.cell (i := 15) rfl
  have k4 := h2.cell (i := 4) rfl
  have kl := h2.lt
  have kf := h2.free (i := 15)
  have h3 := h2.set (i := 15) (v := .bool true)
  have H3 := Lib.hid (show FileAt W (pts b3 (.cells #[.int .i64 o.code, .int .i64 o.at_, .slice a o.args.length cap, .string ⟨o.text.toArray⟩] 33) * A) b { F with bad := true } _ from ⟨m', fb', tb', nt', ov', av', pv', V', h1', h3⟩)
  clear h1' h2 h3 HX
  (try go_wp2)
  exact ⟨rfl, .tuple #[], by unfold results; go_simp, rfl, (H3.out).less⟩

set_option maxRecDepth 100000 in
set_option maxHeartbeats 4000000 in
theorem out_bad_p248 {b : Nat} {F : FileM} (o : Cmd) (va : Value) (c : Nat) (hc : o.code = c) (hb : c = 248) (hp : (F.part == 0) = false) (hr : Rd w va o.args.length 1 (intsL o.args)) (h : FileAt W A b F w) :
    Calls Try.prog 33 #[.pointer (some ⟨b, 0, none⟩), o.val va] w fun e w' => e = .returned (.tuple #[]) ∧ FileAt W A b ({ F with bad := true }) w' := by
  obtain ⟨hr1, hr2, a, cap, hva, hat⟩ := hr
  subst hva
  have hx := h.allocX (.cells #[.int .i64 o.code, .int .i64 o.at_, .slice a o.args.length cap, .string ⟨o.text.toArray⟩] 33)
  obtain ⟨b3, hb3⟩ : ∃ b3, w.heap.size = b3 := ⟨_, rfl⟩
  rw [hb3] at hx
  have HX := Lib.hid hx
  have HAT := Lib.hid (show ∀ k x, o.args[k]? = some x → ∃ g off, a = some ⟨g, off, none⟩ ∧ w.cell? ⟨g, off + k, none⟩ = some (.int .i64 x) from fun k x hk => hat k (.int .i64 x) (by simp [hk]))
  have HRD := Lib.hid (show Rd w (.slice a o.args.length cap) o.args.length 1 (intsL o.args) from ⟨hr1, hr2, a, cap, rfl, hat⟩)
  have q0 := hx.sat.cell (i := 0) rfl
  have q2 := hx.sat.cell (i := 2) rfl
  have ql := hx.sat.lt
  have HEX := Lib.hid (show Ext w _ from (Ext.refl w).alloc (o := .cells #[.int .i64 o.code, .int .i64 o.at_, .slice a o.args.length cap, .string ⟨o.text.toArray⟩] 33))
  unfold Cmd.val
  clear hr1 hr2 hat hx h
  have HCC := Lib.hid hc
  clear hc
  subst hb
  go_enter Try.func33, Try.ntmps33
  go_upto_region 1 with fail
  generalize w.alloc (.cells #[.int .i64 o.code, .int .i64 o.at_, .slice a o.args.length cap, .string ⟨o.text.toArray⟩] 33) = W1 at *
  clear hb3
  rw [HCC.out] at q0
  obtain ⟨m', fb', tb', nt', ov', av', pv', V', h1', h2⟩ := HX.out
  have k15 := h2.cell (i := 15) rfl
  have k4 := h2.cell (i := 4) rfl
  have kl := h2.lt
  have kf := h2.free (i := 15)
  have h3 := h2.set (i := 15) (v := .bool true)
  have H3 := Lib.hid (show FileAt W (pts b3 (.cells #[.int .i64 o.code, .int .i64 o.at_, .slice a o.args.length cap, .string ⟨o.text.toArray⟩] 33) * A) b { F with bad := true } _ from ⟨m', fb', tb', nt', ov', av', pv', V', h1', h3⟩)
  clear h1' h2 h3 HX
  (try go_wp2)
  exact ⟨rfl, .tuple #[], by unfold results; go_simp, rfl, (H3.out).less⟩

set_option maxRecDepth 100000 in
set_option maxHeartbeats 4000000 in
theorem out_bad_high {b : Nat} {F : FileM} (o : Cmd) (va : Value) (c : Nat) (hc : o.code = c) (hb : 249 ≤ c ∧ c ≤ 255) (hp : (F.part == 0) = false) (hr : Rd w va o.args.length 1 (intsL o.args)) (h : FileAt W A b F w) :
    Calls Try.prog 33 #[.pointer (some ⟨b, 0, none⟩), o.val va] w fun e w' => e = .returned (.tuple #[]) ∧ FileAt W A b ({ F with bad := true }) w' := by
  obtain ⟨hr1, hr2, a, cap, hva, hat⟩ := hr
  subst hva
  have hx := h.allocX (.cells #[.int .i64 o.code, .int .i64 o.at_, .slice a o.args.length cap, .string ⟨o.text.toArray⟩] 33)
  obtain ⟨b3, hb3⟩ : ∃ b3, w.heap.size = b3 := ⟨_, rfl⟩
  rw [hb3] at hx
  have HX := Lib.hid hx
  have HAT := Lib.hid (show ∀ k x, o.args[k]? = some x → ∃ g off, a = some ⟨g, off, none⟩ ∧ w.cell? ⟨g, off + k, none⟩ = some (.int .i64 x) from fun k x hk => hat k (.int .i64 x) (by simp [hk]))
  have HRD := Lib.hid (show Rd w (.slice a o.args.length cap) o.args.length 1 (intsL o.args) from ⟨hr1, hr2, a, cap, rfl, hat⟩)
  have q0 := hx.sat.cell (i := 0) rfl
  have q2 := hx.sat.cell (i := 2) rfl
  have ql := hx.sat.lt
  have HEX := Lib.hid (show Ext w _ from (Ext.refl w).alloc (o := .cells #[.int .i64 o.code, .int .i64 o.at_, .slice a o.args.length cap, .string ⟨o.text.toArray⟩] 33))
  unfold Cmd.val
  clear hr1 hr2 hat hx h
  have HCC := Lib.hid hc
  clear hc
  have g243 : (243 : Int) ≤ (c : Int) := by omega
  have l246 : ¬ (c : Int) ≤ (246 : Int) := by omega
  have e138 : ((c : Int) == 138) = false := by rw [beq_eq_false_iff_ne]; omega
  have e139 : ((c : Int) == 139) = false := by rw [beq_eq_false_iff_ne]; omega
  have e248 : ((c : Int) == 248) = false := by rw [beq_eq_false_iff_ne]; omega
  go_enter Try.func33, Try.ntmps33
  go_upto_region 1 with fail
  generalize w.alloc (.cells #[.int .i64 o.code, .int .i64 o.at_, .slice a o.args.length cap, .string ⟨o.text.toArray⟩] 33) = W1 at *
  clear hb3
  rw [HCC.out] at q0
  obtain ⟨m', fb', tb', nt', ov', av', pv', V', h1', h2⟩ := HX.out
  have k15 := h2.cell (i := 15) rfl
  have k4 := h2.cell (i := 4) rfl
  have kl := h2.lt
  have kf := h2.free (i := 15)
  have h3 := h2.set (i := 15) (v := .bool true)
  have H3 := Lib.hid (show FileAt W (pts b3 (.cells #[.int .i64 o.code, .int .i64 o.at_, .slice a o.args.length cap, .string ⟨o.text.toArray⟩] 33) * A) b { F with bad := true } _ from ⟨m', fb', tb', nt', ov', av', pv', V', h1', h3⟩)
  clear h1' h2 h3 HX
  (try go_wp2)
  exact ⟨rfl, .tuple #[], by unfold results; go_simp, rfl, (H3.out).less⟩

set_option maxRecDepth 100000 in
set_option maxHeartbeats 4000000 in
theorem out_badz_low {b : Nat} {F : FileM} (o : Cmd) (va : Value) (c : Nat) (hc : o.code = c) (hb : c ≤ 137) (hp : (F.part == 0) = true) (hr : Rd w va o.args.length 1 (intsL o.args)) (h : FileAt W A b F w) :
    Calls Try.prog 33 #[.pointer (some ⟨b, 0, none⟩), o.val va] w fun e w' => e = .returned (.tuple #[]) ∧ FileAt W A b ({ F with bad := true }) w' := by
  obtain ⟨hr1, hr2, a, cap, hva, hat⟩ := hr
  subst hva
  have hx := h.allocX (.cells #[.int .i64 o.code, .int .i64 o.at_, .slice a o.args.length cap, .string ⟨o.text.toArray⟩] 33)
  obtain ⟨b3, hb3⟩ : ∃ b3, w.heap.size = b3 := ⟨_, rfl⟩
  rw [hb3] at hx
  have HX := Lib.hid hx
  have HAT := Lib.hid (show ∀ k x, o.args[k]? = some x → ∃ g off, a = some ⟨g, off, none⟩ ∧ w.cell? ⟨g, off + k, none⟩ = some (.int .i64 x) from fun k x hk => hat k (.int .i64 x) (by simp [hk]))
  have HRD := Lib.hid (show Rd w (.slice a o.args.length cap) o.args.length 1 (intsL o.args) from ⟨hr1, hr2, a, cap, rfl, hat⟩)
  have q0 := hx.sat.cell (i := 0) rfl
  have q2 := hx.sat.cell (i := 2) rfl
  have ql := hx.sat.lt
  have HEX := Lib.hid (show Ext w _ from (Ext.refl w).alloc (o := .cells #[.int .i64 o.code, .int .i64 o.at_, .slice a o.args.length cap, .string ⟨o.text.toArray⟩] 33))
  unfold Cmd.val
  clear hr1 hr2 hat hx h
  have HCC := Lib.hid hc
  clear hc
  have g243 : ¬ (243 : Int) ≤ (c : Int) := by omega
  have l246 : (c : Int) ≤ (246 : Int) := by omega
  have e138 : ((c : Int) == 138) = false := by rw [beq_eq_false_iff_ne]; omega
  have e139 : ((c : Int) == 139) = false := by rw [beq_eq_false_iff_ne]; omega
  have e248 : ((c : Int) == 248) = false := by rw [beq_eq_false_iff_ne]; omega
  go_enter Try.func33, Try.ntmps33
  go_upto_region 1 with fail
  generalize w.alloc (.cells #[.int .i64 o.code, .int .i64 o.at_, .slice a o.args.length cap, .string ⟨o.text.toArray⟩] 33) = W1 at *
  clear hb3
  rw [HCC.out] at q0
  obtain ⟨m', fb', tb', nt', ov', av', pv', V', h1', h2⟩ := HX.out
  have k15 := h2.cell (i := 15) rfl
  have k4 := h2.cell (i := 4) rfl
  have kl := h2.lt
  have kf := h2.free (i := 15)
  have h3 := h2.set (i := 15) (v := .bool true)
  have H3 := Lib.hid (show FileAt W (pts b3 (.cells #[.int .i64 o.code, .int .i64 o.at_, .slice a o.args.length cap, .string ⟨o.text.toArray⟩] 33) * A) b { F with bad := true } _ from ⟨m', fb', tb', nt', ov', av', pv', V', h1', h3⟩)
  clear h1' h2 h3 HX
  (try go_wp2)
  exact ⟨rfl, .tuple #[], by unfold results; go_simp, rfl, (H3.out).less⟩

set_option maxRecDepth 100000 in
set_option maxHeartbeats 4000000 in
theorem out_badz_mid {b : Nat} {F : FileM} (o : Cmd) (va : Value) (c : Nat) (hc : o.code = c) (hb : 140 ≤ c ∧ c ≤ 242) (hp : (F.part == 0) = true) (hr : Rd w va o.args.length 1 (intsL o.args)) (h : FileAt W A b F w) :
    Calls Try.prog 33 #[.pointer (some ⟨b, 0, none⟩), o.val va] w fun e w' => e = .returned (.tuple #[]) ∧ FileAt W A b ({ F with bad := true }) w' := by
  obtain ⟨hr1, hr2, a, cap, hva, hat⟩ := hr
  subst hva
  have hx := h.allocX (.cells #[.int .i64 o.code, .int .i64 o.at_, .slice a o.args.length cap, .string ⟨o.text.toArray⟩] 33)
  obtain ⟨b3, hb3⟩ : ∃ b3, w.heap.size = b3 := ⟨_, rfl⟩
  rw [hb3] at hx
  have HX := Lib.hid hx
  have HAT := Lib.hid (show ∀ k x, o.args[k]? = some x → ∃ g off, a = some ⟨g, off, none⟩ ∧ w.cell? ⟨g, off + k, none⟩ = some (.int .i64 x) from fun k x hk => hat k (.int .i64 x) (by simp [hk]))
  have HRD := Lib.hid (show Rd w (.slice a o.args.length cap) o.args.length 1 (intsL o.args) from ⟨hr1, hr2, a, cap, rfl, hat⟩)
  have q0 := hx.sat.cell (i := 0) rfl
  have q2 := hx.sat.cell (i := 2) rfl
  have ql := hx.sat.lt
  have HEX := Lib.hid (show Ext w _ from (Ext.refl w).alloc (o := .cells #[.int .i64 o.code, .int .i64 o.at_, .slice a o.args.length cap, .string ⟨o.text.toArray⟩] 33))
  unfold Cmd.val
  clear hr1 hr2 hat hx h
  have HCC := Lib.hid hc
  clear hc
  have g243 : ¬ (243 : Int) ≤ (c : Int) := by omega
  have l246 : (c : Int) ≤ (246 : Int) := by omega
  have e138 : ((c : Int) == 138) = false := by rw [beq_eq_false_iff_ne]; omega
  have e139 : ((c : Int) == 139) = false := by rw [beq_eq_false_iff_ne]; omega
  have e248 : ((c : Int) == 248) = false := by rw [beq_eq_false_iff_ne]; omega
  go_enter Try.func33, Try.ntmps33
  go_upto_region 1 with fail
  generalize w.alloc (.cells #[.int .i64 o.code, .int .i64 o.at_, .slice a o.args.length cap, .string ⟨o.text.toArray⟩] 33) = W1 at *
  clear hb3
  rw [HCC.out] at q0
  obtain ⟨m', fb', tb', nt', ov', av', pv', V', h1', h2⟩ := HX.out
  have k15 := h2.cell (i := 15) rfl
  have k4 := h2.cell (i := 4) rfl
  have kl := h2.lt
  have kf := h2.free (i := 15)
  have h3 := h2.set (i := 15) (v := .bool true)
  have H3 := Lib.hid (show FileAt W (pts b3 (.cells #[.int .i64 o.code, .int .i64 o.at_, .slice a o.args.length cap, .string ⟨o.text.toArray⟩] 33) * A) b { F with bad := true } _ from ⟨m', fb', tb', nt', ov', av', pv', V', h1', h3⟩)
  clear h1' h2 h3 HX
  (try go_wp2)
  exact ⟨rfl, .tuple #[], by unfold results; go_simp, rfl, (H3.out).less⟩

set_option maxRecDepth 100000 in
set_option maxHeartbeats 4000000 in
theorem out_badz_p247 {b : Nat} {F : FileM} (o : Cmd) (va : Value) (c : Nat) (hc : o.code = c) (hb : c = 247) (hp : (F.part == 0) = true) (hr : Rd w va o.args.length 1 (intsL o.args)) (h : FileAt W A b F w) :
    Calls Try.prog 33 #[.pointer (some ⟨b, 0, none⟩), o.val va] w fun e w' => e = .returned (.tuple #[]) ∧ FileAt W A b ({ F with bad := true }) w' := by
  obtain ⟨hr1, hr2, a, cap, hva, hat⟩ := hr
  subst hva
  have hx := h.allocX (.cells #[.int .i64 o.code, .int .i64 o.at_, .slice a o.args.length cap, .string ⟨o.text.toArray⟩] 33)
  obtain ⟨b3, hb3⟩ : ∃ b3, w.heap.size = b3 := ⟨_, rfl⟩
  rw [hb3] at hx
  have HX := Lib.hid hx
  have HAT := Lib.hid (show ∀ k x, o.args[k]? = some x → ∃ g off, a = some ⟨g, off, none⟩ ∧ w.cell? ⟨g, off + k, none⟩ = some (.int .i64 x) from fun k x hk => hat k (.int .i64 x) (by simp [hk]))
  have HRD := Lib.hid (show Rd w (.slice a o.args.length cap) o.args.length 1 (intsL o.args) from ⟨hr1, hr2, a, cap, rfl, hat⟩)
  have q0 := hx.sat.cell (i := 0) rfl
  have q2 := hx.sat.cell (i := 2) rfl
  have ql := hx.sat.lt
  have HEX := Lib.hid (show Ext w _ from (Ext.refl w).alloc (o := .cells #[.int .i64 o.code, .int .i64 o.at_, .slice a o.args.length cap, .string ⟨o.text.toArray⟩] 33))
  unfold Cmd.val
  clear hr1 hr2 hat hx h
  have HCC := Lib.hid hc
  clear hc
  subst hb
  go_enter Try.func33, Try.ntmps33
  go_upto_region 1 with fail
  generalize w.alloc (.cells #[.int .i64 o.code, .int .i64 o.at_, .slice a o.args.length cap, .string ⟨o.text.toArray⟩] 33) = W1 at *
  clear hb3
  rw [HCC.out] at q0
  obtain ⟨m', fb', tb', nt', ov', av', pv', V', h1', h2⟩ := HX.out
  have k15 := h2.cell (i := 15) rfl
  have k4 := h2.cell (i := 4) rfl
  have kl := h2.lt
  have kf := h2.free (i := 15)
  have h3 := h2.set (i := 15) (v := .bool true)
  have H3 := Lib.hid (show FileAt W (pts b3 (.cells #[.int .i64 o.code, .int .i64 o.at_, .slice a o.args.length cap, .string ⟨o.text.toArray⟩] 33) * A) b { F with bad := true } _ from ⟨m', fb', tb', nt', ov', av', pv', V', h1', h3⟩)
  clear h1' h2 h3 HX
  (try go_wp2)
  exact ⟨rfl, .tuple #[], by unfold results; go_simp, rfl, (H3.out).less⟩

set_option maxRecDepth 100000 in
set_option maxHeartbeats 4000000 in
theorem out_badz_high {b : Nat} {F : FileM} (o : Cmd) (va : Value) (c : Nat) (hc : o.code = c) (hb : 249 ≤ c ∧ c ≤ 255) (hp : (F.part == 0) = true) (hr : Rd w va o.args.length 1 (intsL o.args)) (h : FileAt W A b F w) :
    Calls Try.prog 33 #[.pointer (some ⟨b, 0, none⟩), o.val va] w fun e w' => e = .returned (.tuple #[]) ∧ FileAt W A b ({ F with bad := true }) w' := by
  obtain ⟨hr1, hr2, a, cap, hva, hat⟩ := hr
  subst hva
  have hx := h.allocX (.cells #[.int .i64 o.code, .int .i64 o.at_, .slice a o.args.length cap, .string ⟨o.text.toArray⟩] 33)
  obtain ⟨b3, hb3⟩ : ∃ b3, w.heap.size = b3 := ⟨_, rfl⟩
  rw [hb3] at hx
  have HX := Lib.hid hx
  have HAT := Lib.hid (show ∀ k x, o.args[k]? = some x → ∃ g off, a = some ⟨g, off, none⟩ ∧ w.cell? ⟨g, off + k, none⟩ = some (.int .i64 x) from fun k x hk => hat k (.int .i64 x) (by simp [hk]))
  have HRD := Lib.hid (show Rd w (.slice a o.args.length cap) o.args.length 1 (intsL o.args) from ⟨hr1, hr2, a, cap, rfl, hat⟩)
  have q0 := hx.sat.cell (i := 0) rfl
  have q2 := hx.sat.cell (i := 2) rfl
  have ql := hx.sat.lt
  have HEX := Lib.hid (show Ext w _ from (Ext.refl w).alloc (o := .cells #[.int .i64 o.code, .int .i64 o.at_, .slice a o.args.length cap, .string ⟨o.text.toArray⟩] 33))
  unfold Cmd.val
  clear hr1 hr2 hat hx h
  have HCC := Lib.hid hc
  clear hc
  have g243 : (243 : Int) ≤ (c : Int) := by omega
  have l246 : ¬ (c : Int) ≤ (246 : Int) := by omega
  have e138 : ((c : Int) == 138) = false := by rw [beq_eq_false_iff_ne]; omega
  have e139 : ((c : Int) == 139) = false := by rw [beq_eq_false_iff_ne]; omega
  have e248 : ((c : Int) == 248) = false := by rw [beq_eq_false_iff_ne]; omega
  go_enter Try.func33, Try.ntmps33
  go_upto_region 1 with fail
  generalize w.alloc (.cells #[.int .i64 o.code, .int .i64 o.at_, .slice a o.args.length cap, .string ⟨o.text.toArray⟩] 33) = W1 at *
  clear hb3
  rw [HCC.out] at q0
  obtain ⟨m', fb', tb', nt', ov', av', pv', V', h1', h2⟩ := HX.out
  have k15 := h2.cell (i := 15) rfl
  have k4 := h2.cell (i := 4) rfl
  have kl := h2.lt
  have kf := h2.free (i := 15)
  have h3 := h2.set (i := 15) (v := .bool true)
  have H3 := Lib.hid (show FileAt W (pts b3 (.cells #[.int .i64 o.code, .int .i64 o.at_, .slice a o.args.length cap, .string ⟨o.text.toArray⟩] 33) * A) b { F with bad := true } _ from ⟨m', fb', tb', nt', ov', av', pv', V', h1', h3⟩)
  clear h1' h2 h3 HX
  (try go_wp2)
  exact ⟨rfl, .tuple #[], by unfold results; go_simp, rfl, (H3.out).less⟩


end Go.Proofs.Ytjeinldhbajknaa

/-
  A command outside of pages. Conditions: those that each theorem names.
-/
namespace Go.Proofs.Ytjeinldhbajknaa
open Go.RowKit Go.Sp Go.Conc
variable {W w w' : World} {A : HProp}

set_option maxRecDepth 100000 in
set_option maxHeartbeats 4000000 in
theorem out_page {b : Nat} {F : FileM} (o : Cmd) (va : Value) (c : Nat) (hc : o.code = c) (hb : c = 139) (hp : (F.part == 0) = true) (hl : 10 < o.args.length) (hpb : 0 ≤ F.pages ∧ F.pages ≤ 4000000000) (hr : Rd w va o.args.length 1 (intsL o.args)) (h : FileAt W A b F w) :
    Calls Try.prog 33 #[.pointer (some ⟨b, 0, none⟩), o.val va] w fun e w' => e = .returned (.tuple #[]) ∧ FileAt W A b ({ F.fail (!(o.args.getD 10 0 == F.last)) with last := o.at_, part := 1, stack := 0, some_ := false, pages := F.pages + 1 }) w' := by
  obtain ⟨hr1, hr2, a, cap, hva, hat⟩ := hr
  subst hva
  have hx := h.allocX (.cells #[.int .i64 o.code, .int .i64 o.at_, .slice a o.args.length cap, .string ⟨o.text.toArray⟩] 33)
  obtain ⟨b3, hb3⟩ : ∃ b3, w.heap.size = b3 := ⟨_, rfl⟩
  rw [hb3] at hx
  have HX := Lib.hid hx
  have HAT := Lib.hid (show ∀ k x, o.args[k]? = some x → ∃ g off, a = some ⟨g, off, none⟩ ∧ w.cell? ⟨g, off + k, none⟩ = some (.int .i64 x) from fun k x hk => hat k (.int .i64 x) (by simp [hk]))
  have HRD := Lib.hid (show Rd w (.slice a o.args.length cap) o.args.length 1 (intsL o.args) from ⟨hr1, hr2, a, cap, rfl, hat⟩)
  have q0 := hx.sat.cell (i := 0) rfl
  have q2 := hx.sat.cell (i := 2) rfl
  have ql := hx.sat.lt
  have HEX := Lib.hid (show Ext w _ from (Ext.refl w).alloc (o := .cells #[.int .i64 o.code, .int .i64 o.at_, .slice a o.args.length cap, .string ⟨o.text.toArray⟩] 33))
  unfold Cmd.val
  clear hr1 hr2 hat hx h
  have HCC := Lib.hid hc
  clear hc
  subst hb
  go_enter Try.func33, Try.ntmps33
  go_upto_region 1 with fail
  generalize w.alloc (.cells #[.int .i64 o.code, .int .i64 o.at_, .slice a o.args.length cap, .string ⟨o.text.toArray⟩] 33) = W1 at *
  clear hb3
  rw [HCC.out] at q0
  obtain ⟨x0, hx0⟩ : ∃ x, o.args[10]? = some x := ⟨_, List.getElem?_eq_getElem hl⟩
  obtain ⟨g, off, ha, v0⟩ := HAT.out 10 x0 hx0
  subst ha
  have V1 := Lib.hid (HEX.out.cell v0)
  have HGD := Lib.hid (show o.args.getD 10 0 = x0 by simp [List.getD, hx0])
  have i0 : (10 : Int) < (o.args.length : Int) := by omega
  have k4 : W1.cell? ⟨b, 4, none⟩ = some (.int .i64 F.part) ∧ b < W1.heap.size := by
    obtain ⟨m', fb', tb', nt', ov', av', pv', V', h1', h2⟩ := HX.out
    exact ⟨h2.cell rfl, h2.lt⟩
  obtain ⟨k4, kl⟩ := k4
  have HF := Lib.hid (fail_any (!(x0 == F.last)) HX.out.drewD)
  obtain ⟨F2, hF2⟩ : ∃ F2, F.fail (!(x0 == F.last)) = F2 := ⟨_, rfl⟩
  rw [hF2] at HF
  have HF2 := Lib.hid hF2
  have hpg : F2.pages = F.pages := by rw [← hF2]; unfold FileM.fail; split <;> rfl
  have HPG := Lib.hid hpg
  obtain ⟨m', fb', tb', nt', ov', av', pv', V', h1', h2⟩ := HX.out.drewD
  obtain ⟨C, hC⟩ : ∃ C : World → Prop, C = fun w' => ∃ X, Sat W (pts b (fileO ov' fb' av' tb' F pv') * X) w' ∧ Ext W1 w' ∧ w'.cell? ⟨b3, 2, none⟩ = some (.slice (some ⟨g, off, none⟩) o.args.length cap) := ⟨_, rfl⟩
  have HC := Lib.hid (show ∀ w', C w' → w'.cell? ⟨b, 6, none⟩ = some (.int .i64 F.last) ∧ w'.cell? ⟨b3, 2, none⟩ = some (.slice (some ⟨g, off, none⟩) o.args.length cap) ∧ w'.cell? ⟨g, off + 10, none⟩ = some (.int .i64 x0) from fun w' h => by
    rw [hC] at h
    obtain ⟨X, h, h3, h4⟩ := h
    exact ⟨h.cell rfl, h4, h3.cell V1.out⟩)
  have hcw : C W1.drew := by
    rw [hC]
    exact ⟨_, h2, (Ext.refl W1).drew, ((Ext.refl W1).drew).cell q2⟩
  have HCW := Lib.hid hcw
  clear hC hcw h1' h2 hx0 v0 hF2 hpg
  go_upto_region 7 with fail
  clear k4 kl q0 q2 ql
  refine wp_region_E C (by kernel_rfl) ?_
  generalize W1.drew = W2 at *
  refine wpE_take (i := 0) (q := 10) (v := ?_) rfl (by kernel_rfl) (by kernel_rfl) (by kernel_rfl) (by kernel_rfl) (by kernel_rfl) (fun _ _ _ h => h) (by kernel_rfl) ?_ ?_
  rotate_left 1
  · intro w hw; obtain ⟨q5, q6, q7⟩ := HC.out _ hw; go_simp; try with_reducible rfl
  refine wpE_take (i := 1) (q := 2) (v := ?_) rfl (by kernel_rfl) (by kernel_rfl) (by kernel_rfl) (by kernel_rfl) (by kernel_rfl) (fun _ _ _ h => h) (by kernel_rfl) ?_ ?_
  rotate_left 1
  · intro w hw; obtain ⟨q5, q6, q7⟩ := HC.out _ hw; go_simp; try with_reducible rfl
  refine wpE_take (i := 2) (q := 3) (v := ?_) rfl (by kernel_rfl) (by kernel_rfl) (by kernel_rfl) (by kernel_rfl) (by kernel_rfl) (fun _ _ _ h => h) (by kernel_rfl) ?_ ?_
  rotate_left 1
  · intro w hw; obtain ⟨q5, q6, q7⟩ := HC.out _ hw; go_simp; try with_reducible rfl
  refine wpE_take (i := 3) (q := 4) (v := ?_) rfl (by kernel_rfl) (by kernel_rfl) (by kernel_rfl) (by kernel_rfl) (by kernel_rfl) (fun _ _ _ h => h) (by kernel_rfl) ?_ ?_
  rotate_left 1
  · intro w hw; obtain ⟨q5, q6, q7⟩ := HC.out _ hw; go_simp; try with_reducible rfl
  refine wpE_take (i := 4) (q := 9) (v := ?_) rfl (by kernel_rfl) (by kernel_rfl) (by kernel_rfl) (by kernel_rfl) (by kernel_rfl) (fun _ _ _ h => h) (by kernel_rfl) ?_ ?_
  rotate_left 1
  · intro w hw; obtain ⟨q5, q6, q7⟩ := HC.out _ hw; go_simp; try with_reducible rfl
  refine wpE_take (i := 5) (q := 6) (v := ?_) rfl (by kernel_rfl) (by kernel_rfl) (by kernel_rfl) (by kernel_rfl) (by kernel_rfl) (fun _ _ _ h => h) (by kernel_rfl) ?_ ?_
  rotate_left 1
  · intro w hw; obtain ⟨q5, q6, q7⟩ := HC.out _ hw; go_simp; try with_reducible rfl
  refine wpE_take (i := 6) (q := 7) (v := ?_) rfl (by kernel_rfl) (by kernel_rfl) (by kernel_rfl) (by kernel_rfl) (by kernel_rfl) (fun _ _ _ h => h) (by kernel_rfl) ?_ ?_
  rotate_left 1
  · intro w hw; obtain ⟨q5, q6, q7⟩ := HC.out _ hw; go_simp; try with_reducible rfl
  refine wpE_take (i := 7) (q := 8) (v := ?_) rfl (by kernel_rfl) (by kernel_rfl) (by kernel_rfl) (by kernel_rfl) (by kernel_rfl) (fun _ _ _ h => h) (by kernel_rfl) ?_ ?_
  rotate_left 1
  · intro w hw; obtain ⟨q5, q6, q7⟩ := HC.out _ hw; go_simp; try with_reducible rfl
  refine wpE_take (i := 8) (q := 9) (v := ?_) rfl (by kernel_rfl) (by kernel_rfl) (by kernel_rfl) (by kernel_rfl) (by kernel_rfl) (fun _ _ _ h => h) (by kernel_rfl) ?_ ?_
  rotate_left 1
  · intro w hw; obtain ⟨q5, q6, q7⟩ := HC.out _ hw; go_simp; try with_reducible rfl
  refine wpE_take (i := 9) (q := 10) (v := ?_) rfl (by kernel_rfl) (by kernel_rfl) (by kernel_rfl) (by kernel_rfl) (by kernel_rfl) (fun _ _ _ h => h) (by kernel_rfl) ?_ ?_
  rotate_left 1
  · intro w hw; obtain ⟨q5, q6, q7⟩ := HC.out _ hw; go_simp; try with_reducible rfl
  refine wpE_one (i := 10) rfl (by kernel_rfl) (HCW.out) (fun K hK => ?_)
  go_simp
  refine Calls.mono HF.out ?_
  rintro e w3 ⟨rfl, h3⟩
  have H3 := Lib.hid h3
  clear h3 HF
  go_simp
  refine hK _ _ ?_
  clear hK K
  refine wpE_done (by kernel_rfl) (by kernel_rfl) ?_
  clear HC HCW HX
  have y1 := H3.out.sat.cell (i := 1) rfl
  have yl := H3.out.sat.lt
  obtain ⟨m2, fb2, tb2, nt2, ov2, av2, pv2, V2, h1, h2⟩ := H3.out
  have c4 := h2.cell (i := 4) rfl
  have c5 := h2.cell (i := 5) rfl
  have c6 := h2.cell (i := 6) rfl
  have c7 := h2.cell (i := 7) rfl
  have c10 := h2.cell (i := 10) rfl
  have f4 := h2.free (i := 4)
  have f5 := h2.free (i := 5)
  have f6 := h2.free (i := 6)
  have f7 := h2.free (i := 7)
  have f10 := h2.free (i := 10)
  have bl := h2.lt
  have hwk : IntKind.i64.wrap (F2.pages + 1) = F2.pages + 1 := IntWalk.i64_in _ (by rw [HPG.out]; omega)
  have h3 := ((((h2.set (i := 6) (v := .int .i64 (o.at_ : Int))).set (i := 4) (v := .int .i64 1)).set (i := 7) (v := .int .i64 0)).set (i := 10) (v := .bool false)).set (i := 5) (v := .int .i64 (F2.pages + 1))
  have H4 := Lib.hid (show FileAt W (pts b3 (.cells #[.int .i64 o.code, .int .i64 o.at_, .slice (some ⟨g, off, none⟩) o.args.length cap, .string ⟨o.text.toArray⟩] 33) * A) b { F2 with last := o.at_, part := 1, stack := 0, some_ := false, pages := F2.pages + 1 } _ from ⟨m2, fb2, tb2, nt2, ov2, av2, pv2, V2, h1, h3⟩)
  clear h1 h2 h3 H3
  go_wp2
  exact ⟨rfl, .tuple #[], by unfold results; go_simp, rfl, by rw [HGD.out, HF2.out, ← HPG.out]; exact H4.out.less⟩


end Go.Proofs.Ytjeinldhbajknaa

/-
  The end's beginning, outside of pages (248). Conditions: those that each theorem names.
-/
namespace Go.Proofs.Ytjeinldhbajknaa
open Go.RowKit Go.Sp Go.Conc
variable {W w w' : World} {A : HProp}

/-- a file in block b, one of whose commands is o, with its numbers in va -/
def FileHas (W : World) (A : HProp) (b : Nat) (F : FileM) (o : Cmd) (va : Value) (w : World) : Prop :=
  ∃ (m : Nat → Option Obj) (fb tb nt : Nat) (ov av pv : Value) (V : List (Cmd × Value)),
    (V.map Prod.fst = F.ops ∧ (argsH V m ∧ ∀ x ∈ F.keep, x ∈ V) ∧ PostIn V F pv) ∧ (o, va) ∈ V ∧
    Sat W (pts b (fileO ov fb av tb F pv) * (roH m * (row ov V.length 33 4 (flatO V) * (mapE (Value.int .i64) DefM.val fb F.nf F.fonts * (row av F.again.length 56 5 (flatD F.again) * (mapE (Value.int .i64) (Value.int .i64) tb nt F.told * A)))))) w
theorem load_op {w : World} {b : Nat} {l1 l2 : Int} {v : Value} {t : ByteArray} (h0 : w.cell? ⟨b, 0, none⟩ = some (.int .i64 l1)) (h1 : w.cell? ⟨b, 1, none⟩ = some (.int .i64 l2)) (h2 : w.cell? ⟨b, 2, none⟩ = some v) (h3 : w.cell? ⟨b, 3, none⟩ = some (.string t)) :
    (Instr.loadAt 33 (.pointer (some ⟨b, 0, none⟩))).run Try.prog w = .ok (.agg #[.int .i64 l1, .int .i64 l2, v, .string t]) w :=
  run_loadAt_mid (P := Try.prog) w b 0 33 [.int .i64 l1, .int .i64 l2, v, .string t] _ (fun j u hj => by
    rcases j with _ | _ | _ | _ | j <;> simp at hj <;> subst hj <;> assumption) Try.underlying33 rfl (by kernel_rfl)
set_option maxRecDepth 100000 in
set_option maxHeartbeats 4000000 in
theorem out_post {b : Nat} {F : FileM} (o : Cmd) (va : Value) (hc : o.code = 248) (hp : (F.part == 0) = true) (h : FileHas W A b F o va w) :
    Calls Try.prog 33 #[.pointer (some ⟨b, 0, none⟩), o.val va] w fun e w' => e = .returned (.tuple #[]) ∧ FileAt W A b { F with part := 2, post := o } w' := by
  obtain ⟨m, fb, tb, nt, ov, av, pv, V, ⟨h1, h2, h3⟩, hmem, hs⟩ := h
  have hrd := hs.r.args_rd h2.1 hmem
  obtain ⟨_, _, a, cap, hva, -⟩ := hrd
  simp only at hva
  subst hva
  have HRM := Lib.hid hmem
  have HVV := Lib.hid (show V.map Prod.fst = F.ops ∧ (argsH V m ∧ ∀ x ∈ F.keep, x ∈ V) from ⟨h1, h2⟩)
  have hx := hs.alloc (.cells #[.int .i64 o.code, .int .i64 o.at_, .slice a o.args.length cap, .string ⟨o.text.toArray⟩] 33)
  obtain ⟨b3, hb3⟩ : ∃ b3, w.heap.size = b3 := ⟨_, rfl⟩
  rw [hb3] at hx
  have HX := Lib.hid hx
  have q0 := hx.cell (i := 0) rfl
  have ql := hx.lt
  have k4 := hx.r.cell (i := 4) rfl
  have kl := hx.r.lt
  unfold Cmd.val
  have HHC := Lib.hid hc
  clear h1 h2 h3 hmem hs hx hc
  go_enter Try.func33, Try.ntmps33
  go_upto_region 1 with fail
  generalize w.alloc (.cells #[.int .i64 o.code, .int .i64 o.at_, .slice a o.args.length cap, .string ⟨o.text.toArray⟩] 33) = W1 at *
  clear hb3
  obtain ⟨C, hC⟩ : ∃ C : World → Prop, C = fun w' => ∃ X, Sat W (pts b3 (.cells #[.int .i64 o.code, .int .i64 o.at_, .slice a o.args.length cap, .string ⟨o.text.toArray⟩] 33) * X) w' := ⟨_, rfl⟩
  have HC := Lib.hid (show ∀ w', C w' → (Instr.loadAt 33 (.pointer (some ⟨b3, 0, none⟩))).run Try.prog w' = .ok (.agg #[.int .i64 o.code, .int .i64 o.at_, .slice a o.args.length cap, .string ⟨o.text.toArray⟩]) w' from fun w' h => by
    rw [hC] at h
    obtain ⟨X, h⟩ := h
    exact load_op (h.cell rfl) (h.cell rfl) (h.cell rfl) (h.cell rfl))
  have HC2 := Lib.hid (show ∀ X w', Sat W (pts b3 (.cells #[.int .i64 o.code, .int .i64 o.at_, .slice a o.args.length cap, .string ⟨o.text.toArray⟩] 33) * X) w' → C w' from fun X w' h => by rw [hC]; exact ⟨X, h⟩)
  clear hC
  rw [HHC.out] at q0
  go_upto_region 12 with fail
  have H2 := Lib.hid HX.out.drew
  clear HX q0 ql k4 kl
  refine wp_region_C C (by kernel_rfl) ?_
  generalize W1.drew = W2 at *
  refine wpC_take (i := 0) (v := ?_) rfl (by kernel_rfl) (by kernel_rfl) (by kernel_rfl) (fun _ _ _ h => h) (by kernel_rfl) ?_ ?_
  rotate_left 1
  · intro w hw; go_simp; try with_reducible rfl
  refine wpC_take (i := 1) (v := ?_) rfl (by kernel_rfl) (by kernel_rfl) (by kernel_rfl) (fun _ _ _ h => h) (by kernel_rfl) ?_ ?_
  rotate_left 1
  · intro w hw; go_simp; try with_reducible rfl
  refine wpC_take (i := 2) (v := .agg #[.int .i64 o.code, .int .i64 o.at_, .slice a o.args.length cap, .string ⟨o.text.toArray⟩]) rfl (by kernel_rfl) (by kernel_rfl) (by kernel_rfl) (fun _ _ _ h => h) (by kernel_rfl) (fun w hw => ?_) ?_
  · refine exec_load_m 33 (.tmp 3) rfl b3 0 ?_ _ (HC.out _ hw)
    kernel_rfl
  refine wpC_take (i := 3) (v := ?_) rfl (by kernel_rfl) (by kernel_rfl) (by kernel_rfl) (fun _ _ _ h => h) (by kernel_rfl) ?_ ?_
  rotate_left 1
  · intro w hw; go_simp; try with_reducible rfl
  refine wpC_take (i := 4) (v := ?_) rfl (by kernel_rfl) (by kernel_rfl) (by kernel_rfl) (fun _ _ _ h => h) (by kernel_rfl) ?_ ?_
  rotate_left 1
  · intro w hw; go_simp; try with_reducible rfl
  have p4 := H2.out.r.cell (i := 4) rfl
  have pl := H2.out.r.lt
  have pf := H2.out.r.free (i := 4)
  have h3 := H2.out.rot.set (i := 4) (v := .int .i64 2)
  have H3 := Lib.hid h3
  clear h3
  refine wpC_one (i := 5) rfl (by kernel_rfl) (HC2.out _ _ H2.out) (fun K hK => ?_)
  go_simp
  refine hK _ _ ?_
  clear hK K p4 pl pf H2
  refine wpC_take (i := 6) (v := ?_) rfl (by kernel_rfl) (by kernel_rfl) (by kernel_rfl) (fun _ _ _ h => h) (by kernel_rfl) ?_ ?_
  rotate_left 1
  · intro w hw; go_simp; try with_reducible rfl
  refine wpC_take (i := 7) (v := ?_) rfl (by kernel_rfl) (by kernel_rfl) (by kernel_rfl) (fun _ _ _ h => h) (by kernel_rfl) ?_ ?_
  rotate_left 1
  · intro w hw; go_simp; try with_reducible rfl
  have h4 := H3.out
  have c11 := h4.cell (i := 11) rfl
  have c12 := h4.cell (i := 12) rfl
  have c13 := h4.cell (i := 13) rfl
  have c14 := h4.cell (i := 14) rfl
  have f11 := h4.free (i := 11)
  have f12 := h4.free (i := 12)
  have f13 := h4.free (i := 13)
  have f14 := h4.free (i := 14)
  have bl := h4.lt
  have h5 := (((h4.set (i := 11) (v := .int .i64 (o.code : Int))).set (i := 12) (v := .int .i64 (o.at_ : Int))).set (i := 13) (v := .slice a o.args.length cap)).set (i := 14) (v := .string ⟨o.text.toArray⟩)
  have H5 := Lib.hid h5
  have HCW := Lib.hid (HC2.out _ _ h4.rot)
  clear h4 h5 H3
  refine wpC_one (i := 8) rfl (by kernel_rfl) (HCW.out) (fun K hK => ?_)
  go_simp
  refine hK _ _ ?_
  clear hK K c11 c12 c13 c14 f11 f12 f13 f14 bl
  have H6 := Lib.hid (show Sat W (pts b (fileO ov fb av tb { F with part := 2, post := o } (.slice a o.args.length cap)) * (pts b3 (.cells #[.int .i64 o.code, .int .i64 o.at_, .slice a o.args.length cap, .string ⟨o.text.toArray⟩] 33) * _)) _ from H5.out)
  refine wpC_done (by kernel_rfl) (HC2.out _ _ H6.out.rot) ?_
  have H7 := Lib.hid H6.out.rot.r
  clear H5 H6 HC HC2 HCW
  (try go_wp2)
  exact ⟨rfl, .tuple #[], by unfold results; go_simp, rfl, m, fb, tb, nt, ov, av, .slice a o.args.length cap, V, ⟨HVV.out.1, HVV.out.2, .inl HRM.out⟩, H7.out⟩

end Go.Proofs.Ytjeinldhbajknaa
