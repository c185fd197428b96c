
/-
  A command within a page. Conditions: those that each theorem names.
-/
import Derived.Test.YtjeinldhbajknaaDvJ
namespace Go.Proofs.Ytjeinldhbajknaa
open Go.RowKit Go.Sp Go.Conc
variable {W w w' : World} {A : HProp}

set_option maxRecDepth 100000 in
set_option maxHeartbeats 4000000 in
theorem in_set {b : Nat} {F : FileM} (o : Cmd) (va : Value) (c : Nat) (hc : o.code = c) (hb : c ≤ 131) (hr : Rd w va o.args.length 1 (intsL o.args)) (h : FileAt W A b F w) :
    Calls Try.prog 31 #[.pointer (some ⟨b, 0, none⟩), o.val va] w fun e w' => e = .returned (.tuple #[]) ∧ FileAt W A b (F.fail (!F.some_)) w' := by
  obtain ⟨hr1, hr2, a, cap, hva, hat⟩ := hr
  subst hva
  have hx := h.allocX (.cells #[.int .i64 o.code, .int .i64 o.at_, .slice a o.args.length cap, .string ⟨o.text.toArray⟩] 33)
  obtain ⟨b3, hb3⟩ : ∃ b3, w.heap.size = b3 := ⟨_, rfl⟩
  rw [hb3] at hx
  have HX := Lib.hid hx
  have HAT := Lib.hid (show ∀ k x, o.args[k]? = some x → ∃ g off, a = some ⟨g, off, none⟩ ∧ w.cell? ⟨g, off + k, none⟩ = some (.int .i64 x) from fun k x hk => hat k (.int .i64 x) (by simp [hk]))
  have HRD := Lib.hid (show Rd w (.slice a o.args.length cap) o.args.length 1 (intsL o.args) from ⟨hr1, hr2, a, cap, rfl, hat⟩)
  have q0 := hx.sat.cell (i := 0) rfl
  have q2 := hx.sat.cell (i := 2) rfl
  have ql := hx.sat.lt
  have HEX := Lib.hid (show Ext w _ from (Ext.refl w).alloc (o := .cells #[.int .i64 o.code, .int .i64 o.at_, .slice a o.args.length cap, .string ⟨o.text.toArray⟩] 33))
  unfold Cmd.val
  clear hr1 hr2 hat hx h
  have HCC := Lib.hid hc
  clear hc
  have g133 : ¬ (133 : Int) ≤ (c : Int) := by omega
  have g171 : ¬ (171 : Int) ≤ (c : Int) := by omega
  have g235 : ¬ (235 : Int) ≤ (c : Int) := by omega
  have g243 : ¬ (243 : Int) ≤ (c : Int) := by omega
  have g247 : ¬ (247 : Int) ≤ (c : Int) := by omega
  have l131 : (c : Int) ≤ (131 : Int) := by omega
  have l136 : (c : Int) ≤ (136 : Int) := by omega
  have l234 : (c : Int) ≤ (234 : Int) := by omega
  have l238 : (c : Int) ≤ (238 : Int) := by omega
  have l246 : (c : Int) ≤ (246 : Int) := by omega
  have e140 : ((c : Int) == 140) = false := by rw [beq_eq_false_iff_ne]; omega
  have e141 : ((c : Int) == 141) = false := by rw [beq_eq_false_iff_ne]; omega
  have e142 : ((c : Int) == 142) = false := by rw [beq_eq_false_iff_ne]; omega
  have e139 : ((c : Int) == 139) = false := by rw [beq_eq_false_iff_ne]; omega
  go_enter Try.func31, Try.ntmps31
  go_upto_region 1 with fail
  generalize w.alloc (.cells #[.int .i64 o.code, .int .i64 o.at_, .slice a o.args.length cap, .string ⟨o.text.toArray⟩] 33) = W1 at *
  clear hb3
  rw [HCC.out] at q0
  have hp10 : W1.cell? ⟨b, 10, none⟩ = some (.bool F.some_) ∧ b < W1.heap.size := by
    obtain ⟨m', fb', tb', nt', ov', av', pv', V', _, h2⟩ := HX.out
    exact ⟨h2.cell rfl, h2.lt⟩
  obtain ⟨p10, pl⟩ := hp10
  have HF := Lib.hid (fail_any (!F.some_) HX.out)
  go_wp2_with fail
  refine Calls.mono HF.out ?_
  rintro e w3 ⟨rfl, h3⟩
  have H3 := Lib.hid h3
  clear h3 HF
  (try go_wp2)
  exact ⟨rfl, .tuple #[], by unfold results; go_simp, rfl, (H3.out).less⟩

set_option maxRecDepth 100000 in
set_option maxHeartbeats 4000000 in
theorem in_put {b : Nat} {F : FileM} (o : Cmd) (va : Value) (c : Nat) (hc : o.code = c) (hb : 133 ≤ c ∧ c ≤ 136) (hr : Rd w va o.args.length 1 (intsL o.args)) (h : FileAt W A b F w) :
    Calls Try.prog 31 #[.pointer (some ⟨b, 0, none⟩), o.val va] w fun e w' => e = .returned (.tuple #[]) ∧ FileAt W A b (F.fail (!F.some_)) w' := by
  obtain ⟨hr1, hr2, a, cap, hva, hat⟩ := hr
  subst hva
  have hx := h.allocX (.cells #[.int .i64 o.code, .int .i64 o.at_, .slice a o.args.length cap, .string ⟨o.text.toArray⟩] 33)
  obtain ⟨b3, hb3⟩ : ∃ b3, w.heap.size = b3 := ⟨_, rfl⟩
  rw [hb3] at hx
  have HX := Lib.hid hx
  have HAT := Lib.hid (show ∀ k x, o.args[k]? = some x → ∃ g off, a = some ⟨g, off, none⟩ ∧ w.cell? ⟨g, off + k, none⟩ = some (.int .i64 x) from fun k x hk => hat k (.int .i64 x) (by simp [hk]))
  have HRD := Lib.hid (show Rd w (.slice a o.args.length cap) o.args.length 1 (intsL o.args) from ⟨hr1, hr2, a, cap, rfl, hat⟩)
  have q0 := hx.sat.cell (i := 0) rfl
  have q2 := hx.sat.cell (i := 2) rfl
  have ql := hx.sat.lt
  have HEX := Lib.hid (show Ext w _ from (Ext.refl w).alloc (o := .cells #[.int .i64 o.code, .int .i64 o.at_, .slice a o.args.length cap, .string ⟨o.text.toArray⟩] 33))
  unfold Cmd.val
  clear hr1 hr2 hat hx h
  have HCC := Lib.hid hc
  clear hc
  have g133 : (133 : Int) ≤ (c : Int) := by omega
  have g171 : ¬ (171 : Int) ≤ (c : Int) := by omega
  have g235 : ¬ (235 : Int) ≤ (c : Int) := by omega
  have g243 : ¬ (243 : Int) ≤ (c : Int) := by omega
  have g247 : ¬ (247 : Int) ≤ (c : Int) := by omega
  have l131 : ¬ (c : Int) ≤ (131 : Int) := by omega
  have l136 : (c : Int) ≤ (136 : Int) := by omega
  have l234 : (c : Int) ≤ (234 : Int) := by omega
  have l238 : (c : Int) ≤ (238 : Int) := by omega
  have l246 : (c : Int) ≤ (246 : Int) := by omega
  have e140 : ((c : Int) == 140) = false := by rw [beq_eq_false_iff_ne]; omega
  have e141 : ((c : Int) == 141) = false := by rw [beq_eq_false_iff_ne]; omega
  have e142 : ((c : Int) == 142) = false := by rw [beq_eq_false_iff_ne]; omega
  have e139 : ((c : Int) == 139) = false := by rw [beq_eq_false_iff_ne]; omega
  go_enter Try.func31, Try.ntmps31
  go_upto_region 1 with fail
  generalize w.alloc (.cells #[.int .i64 o.code, .int .i64 o.at_, .slice a o.args.length cap, .string ⟨o.text.toArray⟩] 33) = W1 at *
  clear hb3
  rw [HCC.out] at q0
  have hp10 : W1.cell? ⟨b, 10, none⟩ = some (.bool F.some_) ∧ b < W1.heap.size := by
    obtain ⟨m', fb', tb', nt', ov', av', pv', V', _, h2⟩ := HX.out
    exact ⟨h2.cell rfl, h2.lt⟩
  obtain ⟨p10, pl⟩ := hp10
  have HF := Lib.hid (fail_any (!F.some_) HX.out)
  go_wp2_with fail
  refine Calls.mono HF.out ?_
  rintro e w3 ⟨rfl, h3⟩
  have H3 := Lib.hid h3
  clear h3 HF
  (try go_wp2)
  exact ⟨rfl, .tuple #[], by unfold results; go_simp, rfl, (H3.out).less⟩

set_option maxRecDepth 100000 in
set_option maxHeartbeats 4000000 in
theorem in_none132 {b : Nat} {F : FileM} (o : Cmd) (va : Value) (c : Nat) (hc : o.code = c) (hb : c = 132) (hr : Rd w va o.args.length 1 (intsL o.args)) (h : FileAt W A b F w) :
    Calls Try.prog 31 #[.pointer (some ⟨b, 0, none⟩), o.val va] w fun e w' => e = .returned (.tuple #[]) ∧ FileAt W A b (F) w' := by
  obtain ⟨hr1, hr2, a, cap, hva, hat⟩ := hr
  subst hva
  have hx := h.allocX (.cells #[.int .i64 o.code, .int .i64 o.at_, .slice a o.args.length cap, .string ⟨o.text.toArray⟩] 33)
  obtain ⟨b3, hb3⟩ : ∃ b3, w.heap.size = b3 := ⟨_, rfl⟩
  rw [hb3] at hx
  have HX := Lib.hid hx
  have HAT := Lib.hid (show ∀ k x, o.args[k]? = some x → ∃ g off, a = some ⟨g, off, none⟩ ∧ w.cell? ⟨g, off + k, none⟩ = some (.int .i64 x) from fun k x hk => hat k (.int .i64 x) (by simp [hk]))
  have HRD := Lib.hid (show Rd w (.slice a o.args.length cap) o.args.length 1 (intsL o.args) from ⟨hr1, hr2, a, cap, rfl, hat⟩)
  have q0 := hx.sat.cell (i := 0) rfl
  have q2 := hx.sat.cell (i := 2) rfl
  have ql := hx.sat.lt
  have HEX := Lib.hid (show Ext w _ from (Ext.refl w).alloc (o := .cells #[.int .i64 o.code, .int .i64 o.at_, .slice a o.args.length cap, .string ⟨o.text.toArray⟩] 33))
  unfold Cmd.val
  clear hr1 hr2 hat hx h
  have HCC := Lib.hid hc
  clear hc
  subst hb
  go_enter Try.func31, Try.ntmps31
  go_upto_region 1 with fail
  generalize w.alloc (.cells #[.int .i64 o.code, .int .i64 o.at_, .slice a o.args.length cap, .string ⟨o.text.toArray⟩] 33) = W1 at *
  clear hb3
  rw [HCC.out] at q0
  (try go_wp2)
  exact ⟨rfl, .tuple #[], by unfold results; go_simp, rfl, (HX.out).less⟩

set_option maxRecDepth 100000 in
set_option maxHeartbeats 4000000 in
theorem in_none137 {b : Nat} {F : FileM} (o : Cmd) (va : Value) (c : Nat) (hc : o.code = c) (hb : 137 ≤ c ∧ c ≤ 138) (hr : Rd w va o.args.length 1 (intsL o.args)) (h : FileAt W A b F w) :
    Calls Try.prog 31 #[.pointer (some ⟨b, 0, none⟩), o.val va] w fun e w' => e = .returned (.tuple #[]) ∧ FileAt W A b (F) w' := by
  obtain ⟨hr1, hr2, a, cap, hva, hat⟩ := hr
  subst hva
  have hx := h.allocX (.cells #[.int .i64 o.code, .int .i64 o.at_, .slice a o.args.length cap, .string ⟨o.text.toArray⟩] 33)
  obtain ⟨b3, hb3⟩ : ∃ b3, w.heap.size = b3 := ⟨_, rfl⟩
  rw [hb3] at hx
  have HX := Lib.hid hx
  have HAT := Lib.hid (show ∀ k x, o.args[k]? = some x → ∃ g off, a = some ⟨g, off, none⟩ ∧ w.cell? ⟨g, off + k, none⟩ = some (.int .i64 x) from fun k x hk => hat k (.int .i64 x) (by simp [hk]))
  have HRD := Lib.hid (show Rd w (.slice a o.args.length cap) o.args.length 1 (intsL o.args) from ⟨hr1, hr2, a, cap, rfl, hat⟩)
  have q0 := hx.sat.cell (i := 0) rfl
  have q2 := hx.sat.cell (i := 2) rfl
  have ql := hx.sat.lt
  have HEX := Lib.hid (show Ext w _ from (Ext.refl w).alloc (o := .cells #[.int .i64 o.code, .int .i64 o.at_, .slice a o.args.length cap, .string ⟨o.text.toArray⟩] 33))
  unfold Cmd.val
  clear hr1 hr2 hat hx h
  have HCC := Lib.hid hc
  clear hc
  have g133 : (133 : Int) ≤ (c : Int) := by omega
  have g171 : ¬ (171 : Int) ≤ (c : Int) := by omega
  have g235 : ¬ (235 : Int) ≤ (c : Int) := by omega
  have g243 : ¬ (243 : Int) ≤ (c : Int) := by omega
  have g247 : ¬ (247 : Int) ≤ (c : Int) := by omega
  have l131 : ¬ (c : Int) ≤ (131 : Int) := by omega
  have l136 : ¬ (c : Int) ≤ (136 : Int) := by omega
  have l234 : (c : Int) ≤ (234 : Int) := by omega
  have l238 : (c : Int) ≤ (238 : Int) := by omega
  have l246 : (c : Int) ≤ (246 : Int) := by omega
  have e140 : ((c : Int) == 140) = false := by rw [beq_eq_false_iff_ne]; omega
  have e141 : ((c : Int) == 141) = false := by rw [beq_eq_false_iff_ne]; omega
  have e142 : ((c : Int) == 142) = false := by rw [beq_eq_false_iff_ne]; omega
  have e139 : ((c : Int) == 139) = false := by rw [beq_eq_false_iff_ne]; omega
  go_enter Try.func31, Try.ntmps31
  go_upto_region 1 with fail
  generalize w.alloc (.cells #[.int .i64 o.code, .int .i64 o.at_, .slice a o.args.length cap, .string ⟨o.text.toArray⟩] 33) = W1 at *
  clear hb3
  rw [HCC.out] at q0
  (try go_wp2)
  exact ⟨rfl, .tuple #[], by unfold results; go_simp, rfl, (HX.out).less⟩

set_option maxRecDepth 100000 in
set_option maxHeartbeats 4000000 in
theorem in_none143 {b : Nat} {F : FileM} (o : Cmd) (va : Value) (c : Nat) (hc : o.code = c) (hb : 143 ≤ c ∧ c ≤ 170) (hr : Rd w va o.args.length 1 (intsL o.args)) (h : FileAt W A b F w) :
    Calls Try.prog 31 #[.pointer (some ⟨b, 0, none⟩), o.val va] w fun e w' => e = .returned (.tuple #[]) ∧ FileAt W A b (F) w' := by
  obtain ⟨hr1, hr2, a, cap, hva, hat⟩ := hr
  subst hva
  have hx := h.allocX (.cells #[.int .i64 o.code, .int .i64 o.at_, .slice a o.args.length cap, .string ⟨o.text.toArray⟩] 33)
  obtain ⟨b3, hb3⟩ : ∃ b3, w.heap.size = b3 := ⟨_, rfl⟩
  rw [hb3] at hx
  have HX := Lib.hid hx
  have HAT := Lib.hid (show ∀ k x, o.args[k]? = some x → ∃ g off, a = some ⟨g, off, none⟩ ∧ w.cell? ⟨g, off + k, none⟩ = some (.int .i64 x) from fun k x hk => hat k (.int .i64 x) (by simp [hk]))
  have HRD := Lib.hid (show Rd w (.slice a o.args.length cap) o.args.length 1 (intsL o.args) from ⟨hr1, hr2, a, cap, rfl, hat⟩)
  have q0 := hx.sat.cell (i := 0) rfl
  have q2 := hx.sat.cell (i := 2) rfl
  have ql := hx.sat.lt
  have HEX := Lib.hid (show Ext w _ from (Ext.refl w).alloc (o := .cells #[.int .i64 o.code, .int .i64 o.at_, .slice a o.args.length cap, .string ⟨o.text.toArray⟩] 33))
  unfold Cmd.val
  clear hr1 hr2 hat hx h
  have HCC := Lib.hid hc
  clear hc
  have g133 : (133 : Int) ≤ (c : Int) := by omega
  have g171 : ¬ (171 : Int) ≤ (c : Int) := by omega
  have g235 : ¬ (235 : Int) ≤ (c : Int) := by omega
  have g243 : ¬ (243 : Int) ≤ (c : Int) := by omega
  have g247 : ¬ (247 : Int) ≤ (c : Int) := by omega
  have l131 : ¬ (c : Int) ≤ (131 : Int) := by omega
  have l136 : ¬ (c : Int) ≤ (136 : Int) := by omega
  have l234 : (c : Int) ≤ (234 : Int) := by omega
  have l238 : (c : Int) ≤ (238 : Int) := by omega
  have l246 : (c : Int) ≤ (246 : Int) := by omega
  have e140 : ((c : Int) == 140) = false := by rw [beq_eq_false_iff_ne]; omega
  have e141 : ((c : Int) == 141) = false := by rw [beq_eq_false_iff_ne]; omega
  have e142 : ((c : Int) == 142) = false := by rw [beq_eq_false_iff_ne]; omega
  have e139 : ((c : Int) == 139) = false := by rw [beq_eq_false_iff_ne]; omega
  go_enter Try.func31, Try.ntmps31
  go_upto_region 1 with fail
  generalize w.alloc (.cells #[.int .i64 o.code, .int .i64 o.at_, .slice a o.args.length cap, .string ⟨o.text.toArray⟩] 33) = W1 at *
  clear hb3
  rw [HCC.out] at q0
  (try go_wp2)
  exact ⟨rfl, .tuple #[], by unfold results; go_simp, rfl, (HX.out).less⟩

set_option maxRecDepth 100000 in
set_option maxHeartbeats 4000000 in
theorem in_none239 {b : Nat} {F : FileM} (o : Cmd) (va : Value) (c : Nat) (hc : o.code = c) (hb : 239 ≤ c ∧ c ≤ 242) (hr : Rd w va o.args.length 1 (intsL o.args)) (h : FileAt W A b F w) :
    Calls Try.prog 31 #[.pointer (some ⟨b, 0, none⟩), o.val va] w fun e w' => e = .returned (.tuple #[]) ∧ FileAt W A b (F) w' := by
  obtain ⟨hr1, hr2, a, cap, hva, hat⟩ := hr
  subst hva
  have hx := h.allocX (.cells #[.int .i64 o.code, .int .i64 o.at_, .slice a o.args.length cap, .string ⟨o.text.toArray⟩] 33)
  obtain ⟨b3, hb3⟩ : ∃ b3, w.heap.size = b3 := ⟨_, rfl⟩
  rw [hb3] at hx
  have HX := Lib.hid hx
  have HAT := Lib.hid (show ∀ k x, o.args[k]? = some x → ∃ g off, a = some ⟨g, off, none⟩ ∧ w.cell? ⟨g, off + k, none⟩ = some (.int .i64 x) from fun k x hk => hat k (.int .i64 x) (by simp [hk]))
  have HRD := Lib.hid (show Rd w (.slice a o.args.length cap) o.args.length 1 (intsL o.args) from ⟨hr1, hr2, a, cap, rfl, hat⟩)
  have q0 := hx.sat.cell (i := 0) rfl
  have q2 := hx.sat.cell (i := 2) rfl
  have ql := hx.sat.lt
  have HEX := Lib.hid (show Ext w _ from (Ext.refl w).alloc (o := .cells #[.int .i64 o.code, .int .i64 o.at_, .slice a o.args.length cap, .string ⟨o.text.toArray⟩] 33))
  unfold Cmd.val
  clear hr1 hr2 hat hx h
  have HCC := Lib.hid hc
  clear hc
  have g133 : (133 : Int) ≤ (c : Int) := by omega
  have g171 : (171 : Int) ≤ (c : Int) := by omega
  have g235 : (235 : Int) ≤ (c : Int) := by omega
  have g243 : ¬ (243 : Int) ≤ (c : Int) := by omega
  have g247 : ¬ (247 : Int) ≤ (c : Int) := by omega
  have l131 : ¬ (c : Int) ≤ (131 : Int) := by omega
  have l136 : ¬ (c : Int) ≤ (136 : Int) := by omega
  have l234 : ¬ (c : Int) ≤ (234 : Int) := by omega
  have l238 : ¬ (c : Int) ≤ (238 : Int) := by omega
  have l246 : (c : Int) ≤ (246 : Int) := by omega
  have e140 : ((c : Int) == 140) = false := by rw [beq_eq_false_iff_ne]; omega
  have e141 : ((c : Int) == 141) = false := by rw [beq_eq_false_iff_ne]; omega
  have e142 : ((c : Int) == 142) = false := by rw [beq_eq_false_iff_ne]; omega
  have e139 : ((c : Int) == 139) = false := by rw [beq_eq_false_iff_ne]; omega
  go_enter Try.func31, Try.ntmps31
  go_upto_region 1 with fail
  generalize w.alloc (.cells #[.int .i64 o.code, .int .i64 o.at_, .slice a o.args.length cap, .string ⟨o.text.toArray⟩] 33) = W1 at *
  clear hb3
  rw [HCC.out] at q0
  (try go_wp2)
  exact ⟨rfl, .tuple #[], by unfold results; go_simp, rfl, (HX.out).less⟩

set_option maxRecDepth 100000 in
set_option maxHeartbeats 4000000 in
theorem in_bad139 {b : Nat} {F : FileM} (o : Cmd) (va : Value) (c : Nat) (hc : o.code = c) (hb : c = 139) (hr : Rd w va o.args.length 1 (intsL o.args)) (h : FileAt W A b F w) :
    Calls Try.prog 31 #[.pointer (some ⟨b, 0, none⟩), o.val va] w fun e w' => e = .returned (.tuple #[]) ∧ FileAt W A b ({ F with bad := true }) w' := by
  obtain ⟨hr1, hr2, a, cap, hva, hat⟩ := hr
  subst hva
  have hx := h.allocX (.cells #[.int .i64 o.code, .int .i64 o.at_, .slice a o.args.length cap, .string ⟨o.text.toArray⟩] 33)
  obtain ⟨b3, hb3⟩ : ∃ b3, w.heap.size = b3 := ⟨_, rfl⟩
  rw [hb3] at hx
  have HX := Lib.hid hx
  have HAT := Lib.hid (show ∀ k x, o.args[k]? = some x → ∃ g off, a = some ⟨g, off, none⟩ ∧ w.cell? ⟨g, off + k, none⟩ = some (.int .i64 x) from fun k x hk => hat k (.int .i64 x) (by simp [hk]))
  have HRD := Lib.hid (show Rd w (.slice a o.args.length cap) o.args.length 1 (intsL o.args) from ⟨hr1, hr2, a, cap, rfl, hat⟩)
  have q0 := hx.sat.cell (i := 0) rfl
  have q2 := hx.sat.cell (i := 2) rfl
  have ql := hx.sat.lt
  have HEX := Lib.hid (show Ext w _ from (Ext.refl w).alloc (o := .cells #[.int .i64 o.code, .int .i64 o.at_, .slice a o.args.length cap, .string ⟨o.text.toArray⟩] 33))
  unfold Cmd.val
  clear hr1 hr2 hat hx h
  have HCC := Lib.hid hc
  clear hc
  subst hb
  go_enter Try.func31, Try.ntmps31
  go_upto_region 1 with fail
  generalize w.alloc (.cells #[.int .i64 o.code, .int .i64 o.at_, .slice a o.args.length cap, .string ⟨o.text.toArray⟩] 33) = W1 at *
  clear hb3
  rw [HCC.out] at q0
  obtain ⟨m', fb', tb', nt', ov', av', pv', V', h1', h2⟩ := HX.out
  have k15 := h2.cell (i := 15) rfl
  have kl := h2.lt
  have kf := h2.free (i := 15)
  have h3 := h2.set (i := 15) (v := .bool true)
  have H3 := Lib.hid (show FileAt W (pts b3 (.cells #[.int .i64 o.code, .int .i64 o.at_, .slice a o.args.length cap, .string ⟨o.text.toArray⟩] 33) * A) b { F with bad := true } _ from ⟨m', fb', tb', nt', ov', av', pv', V', h1', h3⟩)
  clear h1' h2 h3 HX
  (try go_wp2)
  exact ⟨rfl, .tuple #[], by unfold results; go_simp, rfl, (H3.out).less⟩

set_option maxRecDepth 100000 in
set_option maxHeartbeats 4000000 in
theorem in_bad247 {b : Nat} {F : FileM} (o : Cmd) (va : Value) (c : Nat) (hc : o.code = c) (hb : 247 ≤ c ∧ c ≤ 255) (hr : Rd w va o.args.length 1 (intsL o.args)) (h : FileAt W A b F w) :
    Calls Try.prog 31 #[.pointer (some ⟨b, 0, none⟩), o.val va] w fun e w' => e = .returned (.tuple #[]) ∧ FileAt W A b ({ F with bad := true }) w' := by
  obtain ⟨hr1, hr2, a, cap, hva, hat⟩ := hr
  subst hva
  have hx := h.allocX (.cells #[.int .i64 o.code, .int .i64 o.at_, .slice a o.args.length cap, .string ⟨o.text.toArray⟩] 33)
  obtain ⟨b3, hb3⟩ : ∃ b3, w.heap.size = b3 := ⟨_, rfl⟩
  rw [hb3] at hx
  have HX := Lib.hid hx
  have HAT := Lib.hid (show ∀ k x, o.args[k]? = some x → ∃ g off, a = some ⟨g, off, none⟩ ∧ w.cell? ⟨g, off + k, none⟩ = some (.int .i64 x) from fun k x hk => hat k (.int .i64 x) (by simp [hk]))
  have HRD := Lib.hid (show Rd w (.slice a o.args.length cap) o.args.length 1 (intsL o.args) from ⟨hr1, hr2, a, cap, rfl, hat⟩)
  have q0 := hx.sat.cell (i := 0) rfl
  have q2 := hx.sat.cell (i := 2) rfl
  have ql := hx.sat.lt
  have HEX := Lib.hid (show Ext w _ from (Ext.refl w).alloc (o := .cells #[.int .i64 o.code, .int .i64 o.at_, .slice a o.args.length cap, .string ⟨o.text.toArray⟩] 33))
  unfold Cmd.val
  clear hr1 hr2 hat hx h
  have HCC := Lib.hid hc
  clear hc
  have g133 : (133 : Int) ≤ (c : Int) := by omega
  have g171 : (171 : Int) ≤ (c : Int) := by omega
  have g235 : (235 : Int) ≤ (c : Int) := by omega
  have g243 : (243 : Int) ≤ (c : Int) := by omega
  have g247 : (247 : Int) ≤ (c : Int) := by omega
  have l131 : ¬ (c : Int) ≤ (131 : Int) := by omega
  have l136 : ¬ (c : Int) ≤ (136 : Int) := by omega
  have l234 : ¬ (c : Int) ≤ (234 : Int) := by omega
  have l238 : ¬ (c : Int) ≤ (238 : Int) := by omega
  have l246 : ¬ (c : Int) ≤ (246 : Int) := by omega
  have e140 : ((c : Int) == 140) = false := by rw [beq_eq_false_iff_ne]; omega
  have e141 : ((c : Int) == 141) = false := by rw [beq_eq_false_iff_ne]; omega
  have e142 : ((c : Int) == 142) = false := by rw [beq_eq_false_iff_ne]; omega
  have e139 : ((c : Int) == 139) = false := by rw [beq_eq_false_iff_ne]; omega
  go_enter Try.func31, Try.ntmps31
  go_upto_region 1 with fail
  generalize w.alloc (.cells #[.int .i64 o.code, .int .i64 o.at_, .slice a o.args.length cap, .string ⟨o.text.toArray⟩] 33) = W1 at *
  clear hb3
  rw [HCC.out] at q0
  obtain ⟨m', fb', tb', nt', ov', av', pv', V', h1', h2⟩ := HX.out
  have k15 := h2.cell (i := 15) rfl
  have kl := h2.lt
  have kf := h2.free (i := 15)
  have h3 := h2.set (i := 15) (v := .bool true)
  have H3 := Lib.hid (show FileAt W (pts b3 (.cells #[.int .i64 o.code, .int .i64 o.at_, .slice a o.args.length cap, .string ⟨o.text.toArray⟩] 33) * A) b { F with bad := true } _ from ⟨m', fb', tb', nt', ov', av', pv', V', h1', h3⟩)
  clear h1' h2 h3 HX
  (try go_wp2)
  exact ⟨rfl, .tuple #[], by unfold results; go_simp, rfl, (H3.out).less⟩

set_option maxRecDepth 100000 in
set_option maxHeartbeats 4000000 in
theorem in_font {b : Nat} {F : FileM} (o : Cmd) (va : Value) (c : Nat) (hc : o.code = c) (hb : 171 ≤ c ∧ c ≤ 234) (hr : Rd w va o.args.length 1 (intsL o.args)) (h : FileAt W A b F w) :
    Calls Try.prog 31 #[.pointer (some ⟨b, 0, none⟩), o.val va] w fun e w' => e = .returned (.tuple #[]) ∧ FileAt W A b (F.choose ((c : Int) - 171)) w' := by
  obtain ⟨hr1, hr2, a, cap, hva, hat⟩ := hr
  subst hva
  have hx := h.allocX (.cells #[.int .i64 o.code, .int .i64 o.at_, .slice a o.args.length cap, .string ⟨o.text.toArray⟩] 33)
  obtain ⟨b3, hb3⟩ : ∃ b3, w.heap.size = b3 := ⟨_, rfl⟩
  rw [hb3] at hx
  have HX := Lib.hid hx
  have HAT := Lib.hid (show ∀ k x, o.args[k]? = some x → ∃ g off, a = some ⟨g, off, none⟩ ∧ w.cell? ⟨g, off + k, none⟩ = some (.int .i64 x) from fun k x hk => hat k (.int .i64 x) (by simp [hk]))
  have HRD := Lib.hid (show Rd w (.slice a o.args.length cap) o.args.length 1 (intsL o.args) from ⟨hr1, hr2, a, cap, rfl, hat⟩)
  have q0 := hx.sat.cell (i := 0) rfl
  have q2 := hx.sat.cell (i := 2) rfl
  have ql := hx.sat.lt
  have HEX := Lib.hid (show Ext w _ from (Ext.refl w).alloc (o := .cells #[.int .i64 o.code, .int .i64 o.at_, .slice a o.args.length cap, .string ⟨o.text.toArray⟩] 33))
  unfold Cmd.val
  clear hr1 hr2 hat hx h
  have HCC := Lib.hid hc
  clear hc
  have g133 : (133 : Int) ≤ (c : Int) := by omega
  have g171 : (171 : Int) ≤ (c : Int) := by omega
  have g235 : ¬ (235 : Int) ≤ (c : Int) := by omega
  have g243 : ¬ (243 : Int) ≤ (c : Int) := by omega
  have g247 : ¬ (247 : Int) ≤ (c : Int) := by omega
  have l131 : ¬ (c : Int) ≤ (131 : Int) := by omega
  have l136 : ¬ (c : Int) ≤ (136 : Int) := by omega
  have l234 : (c : Int) ≤ (234 : Int) := by omega
  have l238 : (c : Int) ≤ (238 : Int) := by omega
  have l246 : (c : Int) ≤ (246 : Int) := by omega
  have e140 : ((c : Int) == 140) = false := by rw [beq_eq_false_iff_ne]; omega
  have e141 : ((c : Int) == 141) = false := by rw [beq_eq_false_iff_ne]; omega
  have e142 : ((c : Int) == 142) = false := by rw [beq_eq_false_iff_ne]; omega
  have e139 : ((c : Int) == 139) = false := by rw [beq_eq_false_iff_ne]; omega
  go_enter Try.func31, Try.ntmps31
  go_upto_region 1 with fail
  generalize w.alloc (.cells #[.int .i64 o.code, .int .i64 o.at_, .slice a o.args.length cap, .string ⟨o.text.toArray⟩] 33) = W1 at *
  clear hb3
  rw [HCC.out] at q0
  have HCH := Lib.hid (choose_any ((c : Int) - 171) HX.out)
  go_wp2_with fail
  refine Calls.mono HCH.out ?_
  rintro e w3 ⟨rfl, h3⟩
  have H3 := Lib.hid h3
  clear h3 HCH
  (try go_wp2)
  exact ⟨rfl, .tuple #[], by unfold results; go_simp, rfl, (H3.out).less⟩

set_option maxRecDepth 100000 in
set_option maxHeartbeats 4000000 in
theorem in_fnt {b : Nat} {F : FileM} (o : Cmd) (va : Value) (c : Nat) (hc : o.code = c) (hb : 235 ≤ c ∧ c ≤ 238) (hl : 0 < o.args.length) (hr : Rd w va o.args.length 1 (intsL o.args)) (h : FileAt W A b F w) :
    Calls Try.prog 31 #[.pointer (some ⟨b, 0, none⟩), o.val va] w fun e w' => e = .returned (.tuple #[]) ∧ FileAt W A b (F.choose (o.args.getD 0 0)) w' := by
  obtain ⟨hr1, hr2, a, cap, hva, hat⟩ := hr
  subst hva
  have hx := h.allocX (.cells #[.int .i64 o.code, .int .i64 o.at_, .slice a o.args.length cap, .string ⟨o.text.toArray⟩] 33)
  obtain ⟨b3, hb3⟩ : ∃ b3, w.heap.size = b3 := ⟨_, rfl⟩
  rw [hb3] at hx
  have HX := Lib.hid hx
  have HAT := Lib.hid (show ∀ k x, o.args[k]? = some x → ∃ g off, a = some ⟨g, off, none⟩ ∧ w.cell? ⟨g, off + k, none⟩ = some (.int .i64 x) from fun k x hk => hat k (.int .i64 x) (by simp [hk]))
  have HRD := Lib.hid (show Rd w (.slice a o.args.length cap) o.args.length 1 (intsL o.args) from ⟨hr1, hr2, a, cap, rfl, hat⟩)
  have q0 := hx.sat.cell (i := 0) rfl
  have q2 := hx.sat.cell (i := 2) rfl
  have ql := hx.sat.lt
  have HEX := Lib.hid (show Ext w _ from (Ext.refl w).alloc (o := .cells #[.int .i64 o.code, .int .i64 o.at_, .slice a o.args.length cap, .string ⟨o.text.toArray⟩] 33))
  unfold Cmd.val
  clear hr1 hr2 hat hx h
  have HCC := Lib.hid hc
  clear hc
  have g133 : (133 : Int) ≤ (c : Int) := by omega
  have g171 : (171 : Int) ≤ (c : Int) := by omega
  have g235 : (235 : Int) ≤ (c : Int) := by omega
  have g243 : ¬ (243 : Int) ≤ (c : Int) := by omega
  have g247 : ¬ (247 : Int) ≤ (c : Int) := by omega
  have l131 : ¬ (c : Int) ≤ (131 : Int) := by omega
  have l136 : ¬ (c : Int) ≤ (136 : Int) := by omega
  have l234 : ¬ (c : Int) ≤ (234 : Int) := by omega
  have l238 : (c : Int) ≤ (238 : Int) := by omega
  have l246 : (c : Int) ≤ (246 : Int) := by omega
  have e140 : ((c : Int) == 140) = false := by rw [beq_eq_false_iff_ne]; omega
  have e141 : ((c : Int) == 141) = false := by rw [beq_eq_false_iff_ne]; omega
  have e142 : ((c : Int) == 142) = false := by rw [beq_eq_false_iff_ne]; omega
  have e139 : ((c : Int) == 139) = false := by rw [beq_eq_false_iff_ne]; omega
  go_enter Try.func31, Try.ntmps31
  go_upto_region 1 with fail
  generalize w.alloc (.cells #[.int .i64 o.code, .int .i64 o.at_, .slice a o.args.length cap, .string ⟨o.text.toArray⟩] 33) = W1 at *
  clear hb3
  rw [HCC.out] at q0
  obtain ⟨x0, hx0⟩ : ∃ x, o.args[0]? = some x := ⟨_, List.getElem?_eq_getElem hl⟩
  obtain ⟨g, off, ha, v0⟩ := HAT.out 0 x0 hx0
  subst ha
  have v1 := HEX.out.cell v0
  rw [Nat.add_zero] at v1
  have hgd : o.args.getD 0 0 = x0 := by simp [List.getD, hx0]
  have i0 : (0 : Int) < (o.args.length : Int) := by omega
  have HCH := Lib.hid (choose_any x0 HX.out)
  have HGD := Lib.hid hgd
  have gl := World.block_lt_of_cell? _ _ v1
  clear hx0 v0 hgd
  go_wp2_with fail
  refine Calls.mono HCH.out ?_
  rintro e w3 ⟨rfl, h3⟩
  rw [← HGD.out] at h3
  have H3 := Lib.hid h3
  clear h3 HCH
  (try go_wp2)
  exact ⟨rfl, .tuple #[], by unfold results; go_simp, rfl, (H3.out).less⟩


end Go.Proofs.Ytjeinldhbajknaa
