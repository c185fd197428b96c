import Derived.Test.YtjeinldhbajknaaMDvJ
/-
  A command within a page. Conditions: those that each theorem names.
-/
namespace Go.Proofs.Ytjeinldhbajknaa
open Go.RowKit Go.Sp Go.Conc
variable {W w w' : World} {A : HProp}

set_option maxRecDepth 100000 in
set_option maxHeartbeats 4000000 in
theorem in_set {b : Nat} {F : FileM} (o : Cmd) (va : Value) (c : Nat) (hc : o.code = c) (hb : c ≤ 131) (hr : Rd w va o.args.length 1 (intsL o.args)) (h : FileAt W A b F w) :
    Calls Try.prog 31 #[.pointer (some ⟨b, 0, none⟩), o.val va] w fun e w' => e = .returned (.tuple #[]) ∧ FileAt W A b (F.fail (!F.some_)) w' := by
  obtain ⟨hr1, hr2, a, cap, hva, hat⟩ := hr
  subst hva
  have hx := h.allocX (.cells #[.int .i64 o.code, .int .i64 o.at_, .slice a o.args.length cap, .string ⟨o.text.toArray⟩] 33)
  obtain ⟨b3, hb3⟩ : ∃ b3, w.heap.size = b3 := ⟨_, rfl⟩
  rw [hb3] at hx
  have HX := Lib.hid hx
  have HAT := Lib.hid (show ∀ k x, o.args[k]? = some x → ∃ g off, a = some ⟨g, off, none⟩ ∧ w.cell? ⟨g, off + k, none⟩ = some (.int .i64 x) from fun k x hk => hat k (.int .i64 x) (by simp [hk]))
  have HRD := Lib.hid (show Rd w (.slice a o.args.length cap) o.args.length 1 (intsL o.args) from ⟨hr1, hr2, a, cap, rfl, hat⟩)
  have q0 := hx.sat.cell (i := 0) rfl
  have q2 := hx.sat.cell (i := 2) rfl
  have ql := hx.sat.lt
  have HEX := Lib.hid (show Ext w _ from (Ext.refl w).alloc (o := .cells #[.int .i64 o.code, .int .i64 o.at_, .slice a o.args.length cap, .string ⟨o.text.toArray⟩] 33))
  unfold Cmd.val
  clear hr1 hr2 hat hx h
  have HCC := Lib.hid hc
  clear hc
  have g133 : ¬ (133 : Int) ≤ (c : Int) := by omega
  have g171 : ¬ (171 : Int) ≤ (c : Int) := by omega
  have g235 : ¬ (235 : Int) ≤ (c : Int) := by omega
  have g243 : ¬ (243 : Int) ≤ (c : Int) := by omega
  have g247 : ¬ (247 : Int) ≤ (c : Int) := by omega
  have l131 : (c : Int) ≤ (131 : Int) := by omega
  have l136 : (c : Int) ≤ (136 : Int) := by omega
  have l234 : (c : Int) ≤ (234 : Int) := by omega
  have l238 : (c : Int) ≤ (238 : Int) := by omega
  have l246 : (c : Int) ≤ (246 : Int) := by omega
  have e140 : ((c : Int) == 140) = false := by rw [beq_eq_false_iff_ne]; omega
  have e141 : ((c : Int) == 141) = false := by rw [beq_eq_false_iff_ne]; omega
  have e142 : ((c : Int) == 142) = false := by rw [beq_eq_false_iff_ne]; omega
  have e139 : ((c : Int) == 139) = false := by rw [beq_eq_false_iff_ne]; omega
  go_enter Try.func31, Try.ntmps31
  go_upto_region 1 with fail
  generalize w.alloc (.cells #[.int .i64 o.code, .int .i64 o.at_, .slice a o.args.length cap, .string ⟨o.text.toArray⟩] 33) = W1 at *
  clear hb3
  rw [HCC.out] at q0
  have hp10 : W1.cell? ⟨b, 10, none⟩ = some (.bool F.some_) ∧ b < W1.heap.size := by
    obtain ⟨m', fb', tb', nt', ov', av', pv', V', _, h2⟩ := HX.out
    exact ⟨h2.cell rfl, h2.lt⟩
  obtain ⟨p10, pl⟩ := hp10
  have HF := Lib.hid (fail_any (!F.some_) HX.out)
  go_wp2_with fail
  refine Calls.mono HF.out ?_
  rintro e w3 ⟨rfl, h3⟩
  have H3 := Lib.hid h3
  clear h3 HF
  (try go_wp2)
  exact ⟨rfl, .tuple #[], by unfold results; go_simp, rfl, (H3.out).less⟩

set_option maxRecDepth 100000 in
set_option maxHeartbeats 4000000 in
theorem in_put {b : Nat} {F : FileM} (o : Cmd) (va : Value) (c : Nat) (hc : o.code = c) (hb : 133 ≤ c ∧ c ≤ 136) (hr : Rd w va o.args.length 1 (intsL o.args)) (h : FileAt W A b F w) :
    Calls Try.prog 31 #[.pointer (some ⟨b, 0, none⟩), o.val va] w fun e w' => e = .returned (.tuple #[]) ∧ FileAt W A b (F.fail (!F.some_)) w' := by
  obtain ⟨hr1, hr2, a, cap, hva, hat⟩ := hr
  subst hva
  have hx := h.allocX (.cells #[.int .i64 o.code, .int .i64 o.at_, .slice a o.args.length cap, .string ⟨o.text.toArray⟩] 33)
  obtain ⟨b3, hb3⟩ : ∃ b3, w.heap.size = b3 := ⟨_, rfl⟩
  rw [hb3] at hx
  have HX := Lib.hid hx
  have HAT := Lib.hid (show ∀ k x, o.args[k]? = some x → ∃ g off, a = some ⟨g, off, none⟩ ∧ w.cell? ⟨g, off + k, none⟩ = some (.int .i64 x) from fun k x hk => hat k (.int .i64 x) (by simp [hk]))
  have HRD := Lib.hid (show Rd w (.slice a o.args.length cap) o.args.length 1 (intsL o.args) from ⟨hr1, hr2, a, cap, rfl, hat⟩)
  have q0 := hx.sat.cell (i := 0) rfl
  have q2 := hx.sat.cell (i := 2) rfl
  have ql := hx.sat.lt
  have HEX := Lib.hid (show Ext w _ from (Ext.refl w).alloc (o := .cells #[.int .i64 o.code, .int .i64 o.at_, .slice a o.args.length cap, .string ⟨o.text.toArray⟩] 33))
  unfold Cmd.val
  clear hr1 hr2 hat hx h
  have HCC := Lib.hid hc
  clear hc
  have g133 : (133 : Int) ≤ (c : Int) := by omega
  have g171 : ¬ (171 : Int) ≤ (c : Int) := by omega
  have g235 : ¬ (235 : Int) ≤ (c : Int) := by omega
  have g243 : ¬ (243 : Int) ≤ (c : Int) := by omega
  have g247 : ¬ (247 : Int) ≤ (c : Int) := by omega
  have l131 : ¬ (c : Int) ≤ (131 : Int) := by omega
  have l136 : (c : Int) ≤ (136 : Int) := by omega
  have l234 : (c : Int) ≤ (234 : Int) := by omega
  have l238 : (c : Int) ≤ (238 : Int) := by omega
  have l246 : (c : Int) ≤ (246 : Int) := by omega
  have e140 : ((c : Int) == 140) = false := by rw [beq_eq_false_iff_ne]; omega
  have e141 : ((c : Int) == 141) = false := by rw [beq_eq_false_iff_ne]; omega
  have e142 : ((c : Int) == 142) = false := by rw [beq_eq_false_iff_ne]; omega
  have e139 : ((c : Int) == 139) = false := by rw [beq_eq_false_iff_ne]; omega
  go_enter Try.func31, Try.ntmps31
  go_upto_region 1 with fail
  generalize w.alloc (.cells #[.int .i64 o.code, .int .i64 o.at_, .slice a o.args.length cap, .string ⟨o.text.toArray⟩] 33) = W1 at *
  clear hb3
  rw [HCC.out] at q0
  have hp10 : W1.cell? ⟨b, 10, none⟩ = some (.bool F.some_) ∧ b < W1.heap.size := by
    obtain ⟨m', fb', tb', nt', ov', av', pv', V', _, h2⟩ := HX.out
    exact ⟨h2.cell rfl, h2.lt⟩
  obtain ⟨p10, pl⟩ := hp10
  have HF := Lib.hid (fail_any (!F.some_) HX.out)
  go_wp2_with fail
  refine Calls.mono HF.out ?_
  rintro e w3 ⟨rfl, h3⟩
  have H3 := Lib.hid h3
  clear h3 HF
  (try go_wp2)
  exact ⟨rfl, .tuple #[], by unfold results; go_simp, rfl, (H3.out).less⟩

set_option maxRecDepth 100000 in
set_option maxHeartbeats 4000000 in
theorem in_none132 {b : Nat} {F : FileM} (o : Cmd) (va : Value) (c : Nat) (hc : o.code = c) (hb : c = 132) (hr : Rd w va o.args.length 1 (intsL o.args)) (h : FileAt W A b F w) :
    Calls Try.prog 31 #[.pointer (some ⟨b, 0, none⟩), o.val va] w fun e w' => e = .returned (.tuple #[]) ∧ FileAt W A b (F) w' := by
  obtain ⟨hr1, hr2, a, cap, hva, hat⟩ := hr
  subst hva
  have hx := h.allocX (.cells #[.int .i64 o.code, .int .i64 o.at_, .slice a o.args.length cap, .string ⟨o.text.toArray⟩] 33)
  obtain ⟨b3, hb3⟩ : ∃ b3, w.heap.size = b3 := ⟨_, rfl⟩
  rw [hb3] at hx
  have HX := Lib.hid hx
  have HAT := Lib.hid (show ∀ k x, o.args[k]? = some x → ∃ g off, a = some ⟨g, off, none⟩ ∧ w.cell? ⟨g, off + k, none⟩ = some (.int .i64 x) from fun k x hk => hat k (.int .i64 x) (by simp [hk]))
  have HRD := Lib.hid (show Rd w (.slice a o.args.length cap) o.args.length 1 (intsL o.args) from ⟨hr1, hr2, a, cap, rfl, hat⟩)
  have q0 := hx.sat.cell (i := 0) rfl
  have q2 := hx.sat.cell (i := 2) rfl
  have ql := hx.sat.lt
  have HEX := Lib.hid (show Ext w _ from (Ext.refl w).alloc (o := .cells #[.int .i64 o.code, .int .i64 o.at_, .slice a o.args.length cap, .string ⟨o.text.toArray⟩] 33))
  unfold Cmd.val
  clear hr1 hr2 hat hx h
  have HCC := Lib.hid hc
  clear hc
  subst hb
  go_enter Try.func31, Try.ntmps31
  go_upto_region 1 with fail
  generalize w.alloc (.cells #[.int .i64 o.code, .int .i64 o.at_, .slice a o.args.length cap, .string ⟨o.text.toArray⟩] 33) = W1 at *
  clear hb3
  rw [HCC.out] at q0
  (try go_wp2)
  exact ⟨rfl, .tuple #[], by unfold results; go_simp, rfl, (HX.out).less⟩

set_option maxRecDepth 100000 in
set_option maxHeartbeats 4000000 in
theorem in_none137 {b : Nat} {F : FileM} (o : Cmd) (va : Value) (c : Nat) (hc : o.code = c) (hb : 137 ≤ c ∧ c ≤ 138) (hr : Rd w va o.args.length 1 (intsL o.args)) (h : FileAt W A b F w) :
    Calls Try.prog 31 #[.pointer (some ⟨b, 0, none⟩), o.val va] w fun e w' => e = .returned (.tuple #[]) ∧ FileAt W A b (F) w' := by
  obtain ⟨hr1, hr2, a, cap, hva, hat⟩ := hr
  subst hva
  have hx := h.allocX (.cells #[.int .i64 o.code, .int .i64 o.at_, .slice a o.args.length cap, .string ⟨o.text.toArray⟩] 33)
  obtain ⟨b3, hb3⟩ : ∃ b3, w.heap.size = b3 := ⟨_, rfl⟩
  rw [hb3] at hx
  have HX := Lib.hid hx
  have HAT := Lib.hid (show ∀ k x, o.args[k]? = some x → ∃ g off, a = some ⟨g, off, none⟩ ∧ w.cell? ⟨g, off + k, none⟩ = some (.int .i64 x) from fun k x hk => hat k (.int .i64 x) (by simp [hk]))
  have HRD := Lib.hid (show Rd w (.slice a o.args.length cap) o.args.length 1 (intsL o.args) from ⟨hr1, hr2, a, cap, rfl, hat⟩)
  have q0 := hx.sat.cell (i := 0) rfl
  have q2 := hx.sat.cell (i := 2) rfl
  have ql := hx.sat.lt
  have HEX := Lib.hid (show Ext w _ from (Ext.refl w).alloc (o := .cells #[.int .i64 o.code, .int .i64 o.at_, .slice a o.args.length cap, .string ⟨o.text.toArray⟩] 33))
  unfold Cmd.val
  clear hr1 hr2 hat hx h
  have HCC := Lib.hid hc
  clear hc
  have g133 : (133 : Int) ≤ (c : Int) := by omega
  have g171 : ¬ (171 : Int) ≤ (c : Int) := by omega
  have g235 : ¬ (235 : Int) ≤ (c : Int) := by omega
  have g243 : ¬ (243 : Int) ≤ (c : Int) := by omega
  have g247 : ¬ (247 : Int) ≤ (c : Int) := by omega
  have l131 : ¬ (c : Int) ≤ (131 : Int) := by omega
  have l136 : ¬ (c : Int) ≤ (136 : Int) := by omega
  have l234 : (c : Int) ≤ (234 : Int) := by omega
  have l238 : (c : Int) ≤ (238 : Int) := by omega
  have l246 : (c : Int) ≤ (246 : Int) := by omega
  have e140 : ((c : Int) == 140) = false := by rw [beq_eq_false_iff_ne]; omega
  have e141 : ((c : Int) == 141) = false := by rw [beq_eq_false_iff_ne]; omega
  have e142 : ((c : Int) == 142) = false := by rw [beq_eq_false_iff_ne]; omega
  have e139 : ((c : Int) == 139) = false := by rw [beq_eq_false_iff_ne]; omega
  go_enter Try.func31, Try.ntmps31
  go_upto_region 1 with fail
  generalize w.alloc (.cells #[.int .i64 o.code, .int .i64 o.at_, .slice a o.args.length cap, .string ⟨o.text.toArray⟩] 33) = W1 at *
  clear hb3
  rw [HCC.out] at q0
  (try go_wp2)
  exact ⟨rfl, .tuple #[], by unfold results; go_simp, rfl, (HX.out).less⟩

set_option maxRecDepth 100000 in
set_option maxHeartbeats 4000000 in
theorem in_none143 {b : Nat} {F : FileM} (o : Cmd) (va : Value) (c : Nat) (hc : o.code = c) (hb : 143 ≤ c ∧ c ≤ 170) (hr : Rd w va o.args.length 1 (intsL o.args)) (h : FileAt W A b F w) :
    Calls Try.prog 31 #[.pointer (some ⟨b, 0, none⟩), o.val va] w fun e w' => e = .returned (.tuple #[]) ∧ FileAt W A b (F) w' := by
  obtain ⟨hr1, hr2, a, cap, hva, hat⟩ := hr
  subst hva
  have hx := h.allocX (.cells #[.int .i64 o.code, .int .i64 o.at_, .slice a o.args.length cap, .string ⟨o.text.toArray⟩] 33)
  obtain ⟨b3, hb3⟩ : ∃ b3, w.heap.size = b3 := ⟨_, rfl⟩
  rw [hb3] at hx
  have HX := Lib.hid hx
  have HAT := Lib.hid (show ∀ k x, o.args[k]? = some x → ∃ g off, a = some ⟨g, off, none⟩ ∧ w.cell? ⟨g, off + k, none⟩ = some (.int .i64 x) from fun k x hk => hat k (.int .i64 x) (by simp [hk]))
  have HRD := Lib.hid (show Rd w (.slice a o.args.length cap) o.args.length 1 (intsL o.args) from ⟨hr1, hr2, a, cap, rfl, hat⟩)
  have q0 := hx.sat.cell (i := 0) rfl
  have q2 := hx.sat.cell (i := 2) rfl
  have ql := hx.sat.lt
  have HEX := Lib.hid (show Ext w _ from (Ext.refl w).alloc (o := .cells #[.int .i64 o.code, .int .i64 o.at_, .slice a o.args.length cap, .string ⟨o.text.toArray⟩] 33))
  unfold Cmd.val
  clear hr1 hr2 hat hx h
  have HCC := Lib.hid hc
  clear hc
  have g133 : (133 : Int) ≤ (c : Int) := by omega
  have g171 : ¬ (171 : Int) ≤ (c : Int) := by omega
  have g235 : ¬ (235 : Int) ≤ (c : Int) := by omega
  have g243 : ¬ (243 : Int) ≤ (c : Int) := by omega
  have g247 : ¬ (247 : Int) ≤ (c : Int) := by omega
  have l131 : ¬ (c : Int) ≤ (131 : Int) := by omega
  have l136 : ¬ (c : Int) ≤ (136 : Int) := by omega
  have l234 : (c : Int) ≤ (234 : Int) := by omega
  have l238 : (c : Int) ≤ (238 : Int) := by omega
  have l246 : (c : Int) ≤ (246 : Int) := by omega
  have e140 : ((c : Int) == 140) = false := by rw [beq_eq_false_iff_ne]; omega
  have e141 : ((c : Int) == 141) = false := by rw [beq_eq_false_iff_ne]; omega
  have e142 : ((c : Int) == 142) = false := by rw [beq_eq_false_iff_ne]; omega
  have e139 : ((c : Int) == 139) = false := by rw [beq_eq_false_iff_ne]; omega
  go_enter Try.func31, Try.ntmps31
  go_upto_region 1 with fail
  generalize w.alloc (.cells #[.int .i64 o.code, .int .i64 o.at_, .slice a o.args.length cap, .string ⟨o.text.toArray⟩] 33) = W1 at *
  clear hb3
  rw [HCC.out] at q0
  (try go_wp2)
  exact ⟨rfl, .tuple #[], by unfold results; go_simp, rfl, (HX.out).less⟩

set_option maxRecDepth 100000 in
set_option maxHeartbeats 4000000 in
theorem in_none239 {b : Nat} {F : FileM} (o : Cmd) (va : Value) (c : Nat) (hc : o.code = c) (hb : 239 ≤ c ∧ c ≤ 242) (hr : Rd w va o.args.length 1 (intsL o.args)) (h : FileAt W A b F w) :
    Calls Try.prog 31 #[.pointer (some ⟨b, 0, none⟩), o.val va] w fun e w' => e = .returned (.tuple #[]) ∧ FileAt W A b (F) w' := by
  obtain ⟨hr1, hr2, a, cap, hva, hat⟩ := hr
  subst hva
  have hx := h.allocX (.cells #[.int .i64 o.code, .int .i64 o.at_, .slice a o.args.length cap, .string ⟨o.text.toArray⟩] 33)
  obtain ⟨b3, hb3⟩ : ∃ b3, w.heap.size = b3 := ⟨_, rfl⟩
  rw [hb3] at hx
  have HX := Lib.hid hx
  have HAT := Lib.hid (show ∀ k x, o.args[k]? = some x → ∃ g off, a = some ⟨g, off, none⟩ ∧ w.cell? ⟨g, off + k, none⟩ = some (.int .i64 x) from fun k x hk => hat k (.int .i64 x) (by simp [hk]))
  have HRD := Lib.hid (show Rd w (.slice a o.args.length cap) o.args.length 1 (intsL o.args) from ⟨hr1, hr2, a, cap, rfl, hat⟩)
  have q0 := hx.sat.cell (i := 0) rfl
  have q2 := hx.sat.cell (i := 2) rfl
  have ql := hx.sat.lt
  have HEX := Lib.hid (show Ext w _ from (Ext.refl w).alloc (o := .cells #[.int .i64 o.code, .int .i64 o.at_, .slice a o.args.length cap, .string ⟨o.text.toArray⟩] 33))
  unfold Cmd.val
  clear hr1 hr2 hat hx h
  have HCC := Lib.hid hc
  clear hc
  have g133 : (133 : Int) ≤ (c : Int) := by omega
  have g171 : (171 : Int) ≤ (c : Int) := by omega
  have g235 : (235 : Int) ≤ (c : Int) := by omega
  have g243 : ¬ (243 : Int) ≤ (c : Int) := by omega
  have g247 : ¬ (247 : Int) ≤ (c : Int) := by omega
  have l131 : ¬ (c : Int) ≤ (131 : Int) := by omega
  have l136 : ¬ (c : Int) ≤ (136 : Int) := by omega
  have l234 : ¬ (c : Int) ≤ (234 : Int) := by omega
  have l238 : ¬ (c : Int) ≤ (238 : Int) := by omega
  have l246 : (c : Int) ≤ (246 : Int) := by omega
  have e140 : ((c : Int) == 140) = false := by rw [beq_eq_false_iff_ne]; omega
  have e141 : ((c : Int) == 141) = false := by rw [beq_eq_false_iff_ne]; omega
  have e142 : ((c : Int) == 142) = false := by rw [beq_eq_false_iff_ne]; omega
  have e139 : ((c : Int) == 139) = false := by rw [beq_eq_false_iff_ne]; omega
  go_enter Try.func31, Try.ntmps31
  go_upto_region 1 with fail
  generalize w.alloc (.cells #[.int .i64 o.code, .int .i64 o.at_, .slice a o.args.length cap, .string ⟨o.text.toArray⟩] 33) = W1 at *
  clear hb3
  rw [HCC.out] at q0
  (try go_wp2)
  exact ⟨rfl, .tuple #[], by unfold results; go_simp, rfl, (HX.out).less⟩

set_option maxRecDepth 100000 in
set_option maxHeartbeats 4000000 in
theorem in_bad139 {b : Nat} {F : FileM} (o : Cmd) (va : Value) (c : Nat) (hc : o.code = c) (hb : c = 139) (hr : Rd w va o.args.length 1 (intsL o.args)) (h : FileAt W A b F w) :
    Calls Try.prog 31 #[.pointer (some ⟨b, 0, none⟩), o.val va] w fun e w' => e = .returned (.tuple #[]) ∧ FileAt W A b ({ F with bad := true }) w' := by
  obtain ⟨hr1, hr2, a, cap, hva, hat⟩ := hr
  subst hva
  have hx := h.allocX (.cells #[.int .i64 o.code, .int .i64 o.at_, .slice a o.args.length cap, .string ⟨o.text.toArray⟩] 33)
  obtain ⟨b3, hb3⟩ : ∃ b3, w.heap.size = b3 := ⟨_, rfl⟩
  rw [hb3] at hx
  have HX := Lib.hid hx
  have HAT := Lib.hid (show ∀ k x, o.args[k]? = some x → ∃ g off, a = some ⟨g, off, none⟩ ∧ w.cell? ⟨g, off + k, none⟩ = some (.int .i64 x) from fun k x hk => hat k (.int .i64 x) (by simp [hk]))
  have HRD := Lib.hid (show Rd w (.slice a o.args.length cap) o.args.length 1 (intsL o.args) from ⟨hr1, hr2, a, cap, rfl, hat⟩)
  have q0 := hx.sat.cell (i := 0) rfl
  have q2 := hx.sat.cell (i := 2) rfl
  have ql := hx.sat.lt
  have HEX := Lib.hid (show Ext w _ from (Ext.refl w).alloc (o := .cells #[.int .i64 o.code, .int .i64 o.at_, .slice a o.args.length cap, .string ⟨o.text.toArray⟩] 33))
  unfold Cmd.val
  clear hr1 hr2 hat hx h
  have HCC := Lib.hid hc
  clear hc
  subst hb
  go_enter Try.func31, Try.ntmps31
  go_upto_region 1 with fail
  generalize w.alloc (.cells #[.int .i64 o.code, .int .i64 o.at_, .slice a o.args.length cap, .string ⟨o.text.toArray⟩] 33) = W1 at *
  clear hb3
  rw [HCC.out] at q0
  obtain ⟨m', fb', tb', nt', ov', av', pv', V', h1', h2⟩ := HX.out
  have k15 := h2.cell (i := 15) rfl
  have kl := h2.lt
  have kf := h2.free (i := 15)
  have h3 := h2.set (i := 15) (v := .bool true)
  have H3 := Lib.hid (show FileAt W (pts b3 (.cells #[.int .i64 o.code, .int .i64 o.at_, .slice a o.args.length cap, .string ⟨o.text.toArray⟩] 33) * A) b { F with bad := true } _ from ⟨m', fb', tb', nt', ov', av', pv', V', h1', h3⟩)
  clear h1' h2 h3 HX
  (try go_wp2)
  exact ⟨rfl, .tuple #[], by unfold results; go_simp, rfl, (H3.out).less⟩

set_option maxRecDepth 100000 in
set_option maxHeartbeats 4000000 in
theorem in_bad247 {b : Nat} {F : FileM} (o : Cmd) (va : Value) (c : Nat) (hc : o.code = c) (hb : 247 ≤ c ∧ c ≤ 255) (hr : Rd w va o.args.length 1 (intsL o.args)) (h : FileAt W A b F w) :
    Calls Try.prog 31 #[.pointer (some ⟨b, 0, none⟩), o.val va] w fun e w' => e = .returned (.tuple #[]) ∧ FileAt W A b ({ F with bad := true }) w' := by
  obtain ⟨hr1, hr2, a, cap, hva, hat⟩ := hr
  subst hva
  have hx := h.allocX (.cells #[.int .i64 o.code, .int .i64 o.at_, .slice a o.args.length cap, .string ⟨o.text.toArray⟩] 33)
  obtain ⟨b3, hb3⟩ : ∃ b3, w.heap.size = b3 := ⟨_, rfl⟩
  rw [hb3] at hx
  have HX := Lib.hid hx
  have HAT := Lib.hid (show ∀ k x, o.args[k]? = some x → ∃ g off, a = some ⟨g, off, none⟩ ∧ w.cell? ⟨g, off + k, none⟩ = some (.int .i64 x) from fun k x hk => hat k (.int .i64 x) (by simp [hk]))
  have HRD := Lib.hid (show Rd w (.slice a o.args.length cap) o.args.length 1 (intsL o.args) from ⟨hr1, hr2, a, cap, rfl, hat⟩)
  have q0 := hx.sat.cell (i := 0) rfl
  have q2 := hx.sat.cell (i := 2) rfl
  have ql := hx.sat.lt
  have HEX := Lib.hid (show Ext w _ from (Ext.refl w).alloc (o := .cells #[.int .i64 o.code, .int .i64 o.at_, .slice a o.args.length cap, .string ⟨o.text.toArray⟩] 33))
  unfold Cmd.val
  clear hr1 hr2 hat hx h
  have HCC := Lib.hid hc
  clear hc
  have g133 : (133 : Int) ≤ (c : Int) := by omega
  have g171 : (171 : Int) ≤ (c : Int) := by omega
  have g235 : (235 : Int) ≤ (c : Int) := by omega
  have g243 : (243 : Int) ≤ (c : Int) := by omega
  have g247 : (247 : Int) ≤ (c : Int) := by omega
  have l131 : ¬ (c : Int) ≤ (131 : Int) := by omega
  have l136 : ¬ (c : Int) ≤ (136 : Int) := by omega
  have l234 : ¬ (c : Int) ≤ (234 : Int) := by omega
  have l238 : ¬ (c : Int) ≤ (238 : Int) := by omega
  have l246 : ¬ (c : Int) ≤ (246 : Int) := by omega
  have e140 : ((c : Int) == 140) = false := by rw [beq_eq_false_iff_ne]; omega
  have e141 : ((c : Int) == 141) = false := by rw [beq_eq_false_iff_ne]; omega
  have e142 : ((c : Int) == 142) = false := by rw [beq_eq_false_iff_ne]; omega
  have e139 : ((c : Int) == 139) = false := by rw [beq_eq_false_iff_ne]; omega
  go_enter Try.func31, Try.ntmps31
  go_upto_region 1 with fail
  generalize w.alloc (.cells #[.int .i64 o.code, .int .i64 o.at_, .slice a o.args.length cap, .string ⟨o.text.toArray⟩] 33) = W1 at *
  clear hb3
  rw [HCC.out] at q0
  obtain ⟨m', fb', tb', nt', ov', av', pv', V', h1', h2⟩ := HX.out
  have k15 := h2.cell (i := 15) rfl
  have kl := h2.lt
  have kf := h2.free (i := 15)
  have h3 := h2.set (i := 15) (v := .bool true)
  have H3 := Lib.hid (show FileAt W (pts b3 (.cells #[.int .i64 o.code, .int .i64 o.at_, .slice a o.args.length cap, .string ⟨o.text.toArray⟩] 33) * A) b { F with bad := true } _ from ⟨m', fb', tb', nt', ov', av', pv', V', h1', h3⟩)
  clear h1' h2 h3 HX
  (try go_wp2)
  exact ⟨rfl, .tuple #[], by unfold results; go_simp, rfl, (H3.out).less⟩

set_option maxRecDepth 100000 in
set_option maxHeartbeats 4000000 in
theorem in_font {b : Nat} {F : FileM} (o : Cmd) (va : Value) (c : Nat) (hc : o.code = c) (hb : 171 ≤ c ∧ c ≤ 234) (hr : Rd w va o.args.length 1 (intsL o.args)) (h : FileAt W A b F w) :
    Calls Try.prog 31 #[.pointer (some ⟨b, 0, none⟩), o.val va] w fun e w' => e = .returned (.tuple #[]) ∧ FileAt W A b (F.choose ((c : Int) - 171)) w' := by
  obtain ⟨hr1, hr2, a, cap, hva, hat⟩ := hr
  subst hva
  have hx := h.allocX (.cells #[.int .i64 o.code, .int .i64 o.at_, .slice a o.args.length cap, .string ⟨o.text.toArray⟩] 33)
  obtain ⟨b3, hb3⟩ : ∃ b3, w.heap.size = b3 := ⟨_, rfl⟩
  rw [hb3] at hx
  have HX := Lib.hid hx
  have HAT := Lib.hid (show ∀ k x, o.args[k]? = some x → ∃ g off, a = some ⟨g, off, none⟩ ∧ w.cell? ⟨g, off + k, none⟩ = some (.int .i64 x) from fun k x hk => hat k (.int .i64 x) (by simp [hk]))
  have HRD := Lib.hid (show Rd w (.slice a o.args.length cap) o.args.length 1 (intsL o.args) from ⟨hr1, hr2, a, cap, rfl, hat⟩)
  have q0 := hx.sat.cell (i := 0) rfl
  have q2 := hx.sat.cell (i := 2) rfl
  have ql := hx.sat.lt
  have HEX := Lib.hid (show Ext w _ from (Ext.refl w).alloc (o := .cells #[.int .i64 o.code, .int .i64 o.at_, .slice a o.args.length cap, .string ⟨o.text.toArray⟩] 33))
  unfold Cmd.val
  clear hr1 hr2 hat hx h
  have HCC := Lib.hid hc
  clear hc
  have g133 : (133 : Int) ≤ (c : Int) := by omega
  have g171 : (171 : Int) ≤ (c : Int) := by omega
  have g235 : ¬ (235 : Int) ≤ (c : Int) := by omega
  have g243 : ¬ (243 : Int) ≤ (c : Int) := by omega
  have g247 : ¬ (247 : Int) ≤ (c : Int) := by omega
  have l131 : ¬ (c : Int) ≤ (131 : Int) := by omega
  have l136 : ¬ (c : Int) ≤ (136 : Int) := by omega
  have l234 : (c : Int) ≤ (234 : Int) := by omega
  have l238 : (c : Int) ≤ (238 : Int) := by omega
  have l246 : (c : Int) ≤ (246 : Int) := by omega
  have e140 : ((c : Int) == 140) = false := by rw [beq_eq_false_iff_ne]; omega
  have e141 : ((c : Int) == 141) = false := by rw [beq_eq_false_iff_ne]; omega
  have e142 : ((c : Int) == 142) = false := by rw [beq_eq_false_iff_ne]; omega
  have e139 : ((c : Int) == 139) = false := by rw [beq_eq_false_iff_ne]; omega
  go_enter Try.func31, Try.ntmps31
  go_upto_region 1 with fail
  generalize w.alloc (.cells #[.int .i64 o.code, .int .i64 o.at_, .slice a o.args.length cap, .string ⟨o.text.toArray⟩] 33) = W1 at *
  clear hb3
  rw [HCC.out] at q0
  have HCH := Lib.hid (choose_any ((c : Int) - 171) HX.out)
  go_wp2_with fail
  refine Calls.mono HCH.out ?_
  rintro e w3 ⟨rfl, h3⟩
  have H3 := Lib.hid h3
  clear h3 HCH
  (try go_wp2)
  exact ⟨rfl, .tuple #[], by unfold results; go_simp, rfl, (H3.out).less⟩

set_option maxRecDepth 100000 in
set_option maxHeartbeats 4000000 in
theorem in_fnt {b : Nat} {F : FileM} (o : Cmd) (va : Value) (c : Nat) (hc : o.code = c) (hb : 235 ≤ c ∧ c ≤ 238) (hl : 0 < o.args.length) (hr : Rd w va o.args.length 1 (intsL o.args)) (h : FileAt W A b F w) :
    Calls Try.prog 31 #[.pointer (some ⟨b, 0, none⟩), o.val va] w fun e w' => e = .returned (.tuple #[]) ∧ FileAt W A b (F.choose (o.args.getD 0 0)) w' := by
  obtain ⟨hr1, hr2, a, cap, hva, hat⟩ := hr
  subst hva
  have hx := h.allocX (.cells #[.int .i64 o.code, .int .i64 o.at_, .slice a o.args.length cap, .string ⟨o.text.toArray⟩] 33)
  obtain ⟨b3, hb3⟩ : ∃ b3, w.heap.size = b3 := ⟨_, rfl⟩
  rw [hb3] at hx
  have HX := Lib.hid hx
  have HAT := Lib.hid (show ∀ k x, o.args[k]? = some x → ∃ g off, a = some ⟨g, off, none⟩ ∧ w.cell? ⟨g, off + k, none⟩ = some (.int .i64 x) from fun k x hk => hat k (.int .i64 x) (by simp [hk]))
  have HRD := Lib.hid (show Rd w (.slice a o.args.length cap) o.args.length 1 (intsL o.args) from ⟨hr1, hr2, a, cap, rfl, hat⟩)
  have q0 := hx.sat.cell (i := 0) rfl
  have q2 := hx.sat.cell (i := 2) rfl
  have ql := hx.sat.lt
  have HEX := Lib.hid (show Ext w _ from (Ext.refl w).alloc (o := .cells #[.int .i64 o.code, .int .i64 o.at_, .slice a o.args.length cap, .string ⟨o.text.toArray⟩] 33))
  unfold Cmd.val
  clear hr1 hr2 hat hx h
  have HCC := Lib.hid hc
  clear hc
  have g133 : (133 : Int) ≤ (c : Int) := by omega
  have g171 : (171 : Int) ≤ (c : Int) := by omega
  have g235 : (235 : Int) ≤ (c : Int) := by omega
  have g243 : ¬ (243 : Int) ≤ (c : Int) := by omega
  have g247 : ¬ (247 : Int) ≤ (c : Int) := by omega
  have l131 : ¬ (c : Int) ≤ (131 : Int) := by omega
  have l136 : ¬ (c : Int) ≤ (136 : Int) := by omega
  have l234 : ¬ (c : Int) ≤ (234 : Int) := by omega
  have l238 : (c : Int) ≤ (238 : Int) := by omega
  have l246 : (c : Int) ≤ (246 : Int) := by omega
  have e140 : ((c : Int) == 140) = false := by rw [beq_eq_false_iff_ne]; omega
  have e141 : ((c : Int) == 141) = false := by rw [beq_eq_false_iff_ne]; omega
  have e142 : ((c : Int) == 142) = false := by rw [beq_eq_false_iff_ne]; omega
  have e139 : ((c : Int) == 139) = false := by rw [beq_eq_false_iff_ne]; omega
  go_enter Try.func31, Try.ntmps31
  go_upto_region 1 with fail
  generalize w.alloc (.cells #[.int .i64 o.code, .int .i64 o.at_, .slice a o.args.length cap, .string ⟨o.text.toArray⟩] 33) = W1 at *
  clear hb3
  rw [HCC.out] at q0
  obtain ⟨x0, hx0⟩ : ∃ x, o.args[0]? = some x := ⟨_, List.getElem?_eq_getElem hl⟩
  obtain ⟨g, off, ha, v0⟩ := HAT.out 0 x0 hx0
  subst ha
  have v1 := HEX.out.cell v0
  rw [Nat.add_zero] at v1
  have hgd : o.args.getD 0 0 = x0 := by simp [List.getD, hx0]
  have i0 : (0 : Int) < (o.args.length : Int) := by omega
  have HCH := Lib.hid (choose_any x0 HX.out)
  have HGD := Lib.hid hgd
  have gl := World.block_lt_of_cell? _ _ v1
  clear hx0 v0 hgd
  go_wp2_with fail
  refine Calls.mono HCH.out ?_
  rintro e w3 ⟨rfl, h3⟩
  rw [← HGD.out] at h3
  have H3 := Lib.hid h3
  clear h3 HCH
  (try go_wp2)
  exact ⟨rfl, .tuple #[], by unfold results; go_simp, rfl, (H3.out).less⟩


end Go.Proofs.Ytjeinldhbajknaa

/-
  A command within a page. Conditions: those that each theorem names.
-/
namespace Go.Proofs.Ytjeinldhbajknaa
open Go.RowKit Go.Sp Go.Conc
variable {W w w' : World} {A : HProp}

set_option maxRecDepth 100000 in
set_option maxHeartbeats 4000000 in
theorem in_eop {b : Nat} {F : FileM} (o : Cmd) (va : Value) (c : Nat) (hc : o.code = c) (hb : c = 140) (hr : Rd w va o.args.length 1 (intsL o.args)) (h : FileAt W A b F w) :
    Calls Try.prog 31 #[.pointer (some ⟨b, 0, none⟩), o.val va] w fun e w' => e = .returned (.tuple #[]) ∧ FileAt W A b ({ F.fail (!(F.stack == 0)) with part := 0 }) w' := by
  obtain ⟨hr1, hr2, a, cap, hva, hat⟩ := hr
  subst hva
  have hx := h.allocX (.cells #[.int .i64 o.code, .int .i64 o.at_, .slice a o.args.length cap, .string ⟨o.text.toArray⟩] 33)
  obtain ⟨b3, hb3⟩ : ∃ b3, w.heap.size = b3 := ⟨_, rfl⟩
  rw [hb3] at hx
  have HX := Lib.hid hx
  have HAT := Lib.hid (show ∀ k x, o.args[k]? = some x → ∃ g off, a = some ⟨g, off, none⟩ ∧ w.cell? ⟨g, off + k, none⟩ = some (.int .i64 x) from fun k x hk => hat k (.int .i64 x) (by simp [hk]))
  have HRD := Lib.hid (show Rd w (.slice a o.args.length cap) o.args.length 1 (intsL o.args) from ⟨hr1, hr2, a, cap, rfl, hat⟩)
  have q0 := hx.sat.cell (i := 0) rfl
  have q2 := hx.sat.cell (i := 2) rfl
  have ql := hx.sat.lt
  have HEX := Lib.hid (show Ext w _ from (Ext.refl w).alloc (o := .cells #[.int .i64 o.code, .int .i64 o.at_, .slice a o.args.length cap, .string ⟨o.text.toArray⟩] 33))
  unfold Cmd.val
  clear hr1 hr2 hat hx h
  have HCC := Lib.hid hc
  clear hc
  subst hb
  go_enter Try.func31, Try.ntmps31
  go_upto_region 1 with fail
  generalize w.alloc (.cells #[.int .i64 o.code, .int .i64 o.at_, .slice a o.args.length cap, .string ⟨o.text.toArray⟩] 33) = W1 at *
  clear hb3
  rw [HCC.out] at q0
  obtain ⟨m', fb', tb', nt', ov', av', pv', V', h1', h2⟩ := HX.out
  have k7 := h2.cell (i := 7) rfl
  have kl := h2.lt
  clear h1' h2
  have HF := Lib.hid (fail_any (!(F.stack == 0)) HX.out)
  obtain ⟨F2, hF2⟩ : ∃ F2, F.fail (!(F.stack == 0)) = F2 := ⟨_, rfl⟩
  rw [hF2] at HF
  have HFE := Lib.hid hF2
  clear hF2
  go_wp2_with fail
  refine Calls.mono HF.out ?_
  rintro e w3 ⟨rfl, m2, fb2, tb2, nt2, ov2, av2, pv2, V2, h1, h2⟩
  have p4 := h2.cell (i := 4) rfl
  have pl := h2.lt
  have pf := h2.free (i := 4)
  have h3 := h2.set (i := 4) (v := .int .i64 0)
  have H3 := Lib.hid (show FileAt W (pts b3 (.cells #[.int .i64 o.code, .int .i64 o.at_, .slice a o.args.length cap, .string ⟨o.text.toArray⟩] 33) * A) b { F2 with part := 0 } _ from ⟨m2, fb2, tb2, nt2, ov2, av2, pv2, V2, h1, h3⟩)
  clear h1 h2 h3 HF HX k7 kl
  go_wp2
  exact ⟨rfl, .tuple #[], by unfold results; go_simp, rfl, by rw [HFE.out]; exact H3.out.less⟩

set_option maxRecDepth 100000 in
set_option maxHeartbeats 4000000 in
theorem in_pop {b : Nat} {F : FileM} (o : Cmd) (va : Value) (c : Nat) (hc : o.code = c) (hb : c = 142) (hs : -4000000000 ≤ F.stack ∧ F.stack ≤ 4000000000) (hr : Rd w va o.args.length 1 (intsL o.args)) (h : FileAt W A b F w) :
    Calls Try.prog 31 #[.pointer (some ⟨b, 0, none⟩), o.val va] w fun e w' => e = .returned (.tuple #[]) ∧ FileAt W A b (({ F with stack := F.stack - 1 } : FileM).fail (decide (F.stack - 1 < 0))) w' := by
  obtain ⟨hr1, hr2, a, cap, hva, hat⟩ := hr
  subst hva
  have hx := h.allocX (.cells #[.int .i64 o.code, .int .i64 o.at_, .slice a o.args.length cap, .string ⟨o.text.toArray⟩] 33)
  obtain ⟨b3, hb3⟩ : ∃ b3, w.heap.size = b3 := ⟨_, rfl⟩
  rw [hb3] at hx
  have HX := Lib.hid hx
  have HAT := Lib.hid (show ∀ k x, o.args[k]? = some x → ∃ g off, a = some ⟨g, off, none⟩ ∧ w.cell? ⟨g, off + k, none⟩ = some (.int .i64 x) from fun k x hk => hat k (.int .i64 x) (by simp [hk]))
  have HRD := Lib.hid (show Rd w (.slice a o.args.length cap) o.args.length 1 (intsL o.args) from ⟨hr1, hr2, a, cap, rfl, hat⟩)
  have q0 := hx.sat.cell (i := 0) rfl
  have q2 := hx.sat.cell (i := 2) rfl
  have ql := hx.sat.lt
  have HEX := Lib.hid (show Ext w _ from (Ext.refl w).alloc (o := .cells #[.int .i64 o.code, .int .i64 o.at_, .slice a o.args.length cap, .string ⟨o.text.toArray⟩] 33))
  unfold Cmd.val
  clear hr1 hr2 hat hx h
  have HCC := Lib.hid hc
  clear hc
  subst hb
  go_enter Try.func31, Try.ntmps31
  go_upto_region 1 with fail
  generalize w.alloc (.cells #[.int .i64 o.code, .int .i64 o.at_, .slice a o.args.length cap, .string ⟨o.text.toArray⟩] 33) = W1 at *
  clear hb3
  rw [HCC.out] at q0
  obtain ⟨m', fb', tb', nt', ov', av', pv', V', h1', h2⟩ := HX.out
  have k7 := h2.cell (i := 7) rfl
  have kl := h2.lt
  have kf := h2.free (i := 7)
  have h3 := h2.set (i := 7) (v := .int .i64 (F.stack - 1))
  have H3 := Lib.hid (show FileAt W (pts b3 (.cells #[.int .i64 o.code, .int .i64 o.at_, .slice a o.args.length cap, .string ⟨o.text.toArray⟩] 33) * A) b { F with stack := F.stack - 1 } _ from ⟨m', fb', tb', nt', ov', av', pv', V', h1', h3⟩)
  have hwk : IntKind.i64.wrap (F.stack - 1) = F.stack - 1 := IntWalk.i64_in _ (by omega)
  clear h1' h2 h3 HX
  go_upto_region 12 with fail
  generalize W1.setCell _ _ = W2 at *
  clear k7 kl kf
  obtain ⟨m2, fb2, tb2, nt2, ov2, av2, pv2, V2, h1, h2⟩ := H3.out
  have k7 : W2.cell? ⟨b, 7, none⟩ = some (.int .i64 (F.stack - 1)) := h2.cell rfl
  have kl := h2.lt
  clear h1 h2
  have HF := Lib.hid (fail_any (decide (F.stack - 1 < 0)) H3.out)
  obtain ⟨st, hst⟩ : ∃ st, F.stack - 1 = st := ⟨_, rfl⟩
  have HST := Lib.hid hst
  rw [hst] at k7 HF
  clear hst hwk
  go_wp2_with fail
  refine Calls.mono HF.out ?_
  rintro e w3 ⟨rfl, h3⟩
  have H4 := Lib.hid h3
  clear h3 HF H3
  (try go_wp2)
  exact ⟨rfl, .tuple #[], by unfold results; go_simp, rfl, by rw [HST.out]; exact H4.out.less⟩

set_option maxRecDepth 100000 in
set_option maxHeartbeats 4000000 in
theorem in_def {b : Nat} {F : FileM} (o : Cmd) (va : Value) (c : Nat) (hc : o.code = c) (hb : 243 ≤ c ∧ c ≤ 246) (hl : 4 ≤ o.args.length) (d : DefM) (hd : o.def_ = d) (hk : 0 ≤ F.known d ∧ F.known d ≤ 1048576) (hag : F.again.length ≤ 1048576) (hr : Rd w va o.args.length 1 (intsL o.args)) (h : FileAt W A b F w) :
    Calls Try.prog 31 #[.pointer (some ⟨b, 0, none⟩), o.val va] w fun e w' => e = .returned (.tuple #[]) ∧ FileAt W A b (F.define d) w' := by
  obtain ⟨hr1, hr2, a, cap, hva, hat⟩ := hr
  subst hva
  have hx := h.allocX (.cells #[.int .i64 o.code, .int .i64 o.at_, .slice a o.args.length cap, .string ⟨o.text.toArray⟩] 33)
  obtain ⟨b3, hb3⟩ : ∃ b3, w.heap.size = b3 := ⟨_, rfl⟩
  rw [hb3] at hx
  have HX := Lib.hid hx
  have HAT := Lib.hid (show ∀ k x, o.args[k]? = some x → ∃ g off, a = some ⟨g, off, none⟩ ∧ w.cell? ⟨g, off + k, none⟩ = some (.int .i64 x) from fun k x hk => hat k (.int .i64 x) (by simp [hk]))
  have HRD := Lib.hid (show Rd w (.slice a o.args.length cap) o.args.length 1 (intsL o.args) from ⟨hr1, hr2, a, cap, rfl, hat⟩)
  have q0 := hx.sat.cell (i := 0) rfl
  have q2 := hx.sat.cell (i := 2) rfl
  have ql := hx.sat.lt
  have HEX := Lib.hid (show Ext w _ from (Ext.refl w).alloc (o := .cells #[.int .i64 o.code, .int .i64 o.at_, .slice a o.args.length cap, .string ⟨o.text.toArray⟩] 33))
  unfold Cmd.val
  clear hr1 hr2 hat hx h
  have HCC := Lib.hid hc
  clear hc
  have g133 : (133 : Int) ≤ (c : Int) := by omega
  have g171 : (171 : Int) ≤ (c : Int) := by omega
  have g235 : (235 : Int) ≤ (c : Int) := by omega
  have g243 : (243 : Int) ≤ (c : Int) := by omega
  have g247 : ¬ (247 : Int) ≤ (c : Int) := by omega
  have l131 : ¬ (c : Int) ≤ (131 : Int) := by omega
  have l136 : ¬ (c : Int) ≤ (136 : Int) := by omega
  have l234 : ¬ (c : Int) ≤ (234 : Int) := by omega
  have l238 : ¬ (c : Int) ≤ (238 : Int) := by omega
  have l246 : (c : Int) ≤ (246 : Int) := by omega
  have e140 : ((c : Int) == 140) = false := by rw [beq_eq_false_iff_ne]; omega
  have e141 : ((c : Int) == 141) = false := by rw [beq_eq_false_iff_ne]; omega
  have e142 : ((c : Int) == 142) = false := by rw [beq_eq_false_iff_ne]; omega
  have e139 : ((c : Int) == 139) = false := by rw [beq_eq_false_iff_ne]; omega
  have HK := Lib.hid hk
  have HD := Lib.hid hd
  clear hd
  have HAG := Lib.hid hag
  clear hk hag
  go_enter Try.func31, Try.ntmps31
  go_upto_region 1 with fail
  generalize w.alloc (.cells #[.int .i64 o.code, .int .i64 o.at_, .slice a o.args.length cap, .string ⟨o.text.toArray⟩] 33) = W1 at *
  clear hb3
  rw [HCC.out] at q0
  have q1 := HX.out.sat.cell (i := 1) rfl
  have q3 := HX.out.sat.cell (i := 3) rfl
  have hdf := def_any o (.slice a o.args.length cap) hl (HRD.out.ext HEX.out)
  unfold Cmd.val at hdf
  rw [HD.out, HCC.out] at hdf
  have HDF := Lib.hid hdf
  clear hdf
  go_wp2_with fail
  refine Calls.mono HDF.out ?_
  rintro e w3 ⟨rfl, hx3⟩
  have HDE := Lib.hid (define_any d HK.out HAG.out (HX.out.ext hx3))
  clear hx3 HDF q0 q1 q2 q3 ql
  go_wp2_with fail
  refine Calls.mono HDE.out ?_
  rintro e w4 ⟨rfl, h4⟩
  have H4 := Lib.hid h4
  clear h4 HDE
  (try go_wp2)
  exact ⟨rfl, .tuple #[], by unfold results; go_simp, rfl, (H4.out).less⟩

set_option maxRecDepth 100000 in
set_option maxHeartbeats 4000000 in
theorem in_push {b : Nat} {F : FileM} (o : Cmd) (va : Value) (c : Nat) (hc : o.code = c) (hb : c = 141) (hs : -4000000000 ≤ F.stack ∧ F.stack ≤ 4000000000) (hr : Rd w va o.args.length 1 (intsL o.args)) (h : FileAt W A b F w) :
    Calls Try.prog 31 #[.pointer (some ⟨b, 0, none⟩), o.val va] w fun e w' => e = .returned (.tuple #[]) ∧ FileAt W A b ({ F with stack := F.stack + 1, top := if F.top < F.stack + 1 then F.stack + 1 else F.top }) w' := by
  obtain ⟨hr1, hr2, a, cap, hva, hat⟩ := hr
  subst hva
  have hx := h.allocX (.cells #[.int .i64 o.code, .int .i64 o.at_, .slice a o.args.length cap, .string ⟨o.text.toArray⟩] 33)
  obtain ⟨b3, hb3⟩ : ∃ b3, w.heap.size = b3 := ⟨_, rfl⟩
  rw [hb3] at hx
  have HX := Lib.hid hx
  have HAT := Lib.hid (show ∀ k x, o.args[k]? = some x → ∃ g off, a = some ⟨g, off, none⟩ ∧ w.cell? ⟨g, off + k, none⟩ = some (.int .i64 x) from fun k x hk => hat k (.int .i64 x) (by simp [hk]))
  have HRD := Lib.hid (show Rd w (.slice a o.args.length cap) o.args.length 1 (intsL o.args) from ⟨hr1, hr2, a, cap, rfl, hat⟩)
  have q0 := hx.sat.cell (i := 0) rfl
  have q2 := hx.sat.cell (i := 2) rfl
  have ql := hx.sat.lt
  have HEX := Lib.hid (show Ext w _ from (Ext.refl w).alloc (o := .cells #[.int .i64 o.code, .int .i64 o.at_, .slice a o.args.length cap, .string ⟨o.text.toArray⟩] 33))
  unfold Cmd.val
  clear hr1 hr2 hat hx h
  have HCC := Lib.hid hc
  clear hc
  subst hb
  obtain ⟨FR, hFR⟩ : ∃ FR, ({ F with stack := F.stack + 1, top := if F.top < F.stack + 1 then F.stack + 1 else F.top } : FileM) = FR := ⟨_, rfl⟩
  rw [hFR]
  have HFR := Lib.hid hFR
  clear hFR
  go_enter Try.func31, Try.ntmps31
  go_upto_region 1 with fail
  generalize w.alloc (.cells #[.int .i64 o.code, .int .i64 o.at_, .slice a o.args.length cap, .string ⟨o.text.toArray⟩] 33) = W1 at *
  clear hb3
  rw [HCC.out] at q0
  obtain ⟨m', fb', tb', nt', ov', av', pv', V', h1', h2⟩ := HX.out
  have k7 := h2.cell (i := 7) rfl
  have kl := h2.lt
  have kf := h2.free (i := 7)
  have h3 := h2.set (i := 7) (v := .int .i64 (F.stack + 1))
  have H3 := Lib.hid (show FileAt W (pts b3 (.cells #[.int .i64 o.code, .int .i64 o.at_, .slice a o.args.length cap, .string ⟨o.text.toArray⟩] 33) * A) b { F with stack := F.stack + 1 } _ from ⟨m', fb', tb', nt', ov', av', pv', V', h1', h3⟩)
  have hwk : IntKind.i64.wrap (F.stack + 1) = F.stack + 1 := IntWalk.i64_in _ (by omega)
  clear h1' h2 h3 HX
  go_upto_region 9 with fail
  generalize W1.setCell _ _ = W2 at *
  clear k7 kl kf
  obtain ⟨st, hst⟩ : ∃ st, F.stack + 1 = st := ⟨_, rfl⟩
  have HST := Lib.hid hst
  rw [hst] at H3
  clear hst hwk
  obtain ⟨m2, fb2, tb2, nt2, ov2, av2, pv2, V2, h1, h2⟩ := H3.out.drewD
  obtain ⟨C, hC⟩ : ∃ C : World → Prop, C = fun w' => ∃ X, Sat W (pts b (fileO ov2 fb2 av2 tb2 { F with stack := st } pv2) * X) w' := ⟨_, rfl⟩
  have HC := Lib.hid (show ∀ w', C w' → w'.cell? ⟨b, 7, none⟩ = some (.int .i64 st) ∧ w'.cell? ⟨b, 8, none⟩ = some (.int .i64 F.top) ∧ True from fun w' h => by
    rw [hC] at h
    obtain ⟨X, h⟩ := h
    exact ⟨h.cell rfl, h.cell rfl, trivial⟩)
  have hcw : C W2.drew := by rw [hC]; exact ⟨_, h2⟩
  have HCW := Lib.hid hcw
  by_cases hlt : F.top < st
  · have HLT := Lib.hid hlt
    have y8 := h2.cell (i := 8) rfl
    have yl := h2.lt
    have yf := h2.free (i := 8)
    have h5 := h2.set (i := 8) (v := .int .i64 st)
    have H5 := Lib.hid (show FileAt W (pts b3 (.cells #[.int .i64 o.code, .int .i64 o.at_, .slice a o.args.length cap, .string ⟨o.text.toArray⟩] 33) * A) b { F with stack := st, top := st } _ from ⟨m2, fb2, tb2, nt2, ov2, av2, pv2, V2, h1, h5⟩)
    clear hC hcw h1 h2 h5 H3
    refine wp_region_E C (by kernel_rfl) ?_
    generalize W2.drew = W3 at *
    refine wpE_take (i := 0) (q := 10) (v := ?_) rfl (by kernel_rfl) (by kernel_rfl) (by kernel_rfl) (by kernel_rfl) (by kernel_rfl) (fun _ _ _ h => h) (by kernel_rfl) ?_ ?_
    rotate_left 1
    · intro w hw; obtain ⟨q5, q6, q7⟩ := HC.out _ hw; go_simp; try with_reducible rfl
    refine wpE_take (i := 1) (q := 2) (v := ?_) rfl (by kernel_rfl) (by kernel_rfl) (by kernel_rfl) (by kernel_rfl) (by kernel_rfl) (fun _ _ _ h => h) (by kernel_rfl) ?_ ?_
    rotate_left 1
    · intro w hw; obtain ⟨q5, q6, q7⟩ := HC.out _ hw; go_simp; try with_reducible rfl
    refine wpE_take (i := 2) (q := 3) (v := ?_) rfl (by kernel_rfl) (by kernel_rfl) (by kernel_rfl) (by kernel_rfl) (by kernel_rfl) (fun _ _ _ h => h) (by kernel_rfl) ?_ ?_
    rotate_left 1
    · intro w hw; obtain ⟨q5, q6, q7⟩ := HC.out _ hw; go_simp; try with_reducible rfl
    refine wpE_take (i := 3) (q := 4) (v := ?_) rfl (by kernel_rfl) (by kernel_rfl) (by kernel_rfl) (by kernel_rfl) (by kernel_rfl) (fun _ _ _ h => h) (by kernel_rfl) ?_ ?_
    rotate_left 1
    · intro w hw; obtain ⟨q5, q6, q7⟩ := HC.out _ hw; go_simp; try with_reducible rfl
    refine wpE_take (i := 4) (q := 9) (v := ?_) rfl (by kernel_rfl) (by kernel_rfl) (by kernel_rfl) (by kernel_rfl) (by kernel_rfl) (fun _ _ _ h => h) (by kernel_rfl) ?_ ?_
    rotate_left 1
    · intro w hw; obtain ⟨q5, q6, q7⟩ := HC.out _ hw; go_simp; try with_reducible rfl
    refine wpE_take (i := 5) (q := 6) (v := ?_) rfl (by kernel_rfl) (by kernel_rfl) (by kernel_rfl) (by kernel_rfl) (by kernel_rfl) (fun _ _ _ h => h) (by kernel_rfl) ?_ ?_
    rotate_left 1
    · intro w hw; obtain ⟨q5, q6, q7⟩ := HC.out _ hw; go_simp; try with_reducible rfl
    refine wpE_take (i := 6) (q := 7) (v := ?_) rfl (by kernel_rfl) (by kernel_rfl) (by kernel_rfl) (by kernel_rfl) (by kernel_rfl) (fun _ _ _ h => h) (by kernel_rfl) ?_ ?_
    rotate_left 1
    · intro w hw; obtain ⟨q5, q6, q7⟩ := HC.out _ hw; go_simp; try with_reducible rfl
    refine wpE_take (i := 7) (q := 8) (v := ?_) rfl (by kernel_rfl) (by kernel_rfl) (by kernel_rfl) (by kernel_rfl) (by kernel_rfl) (fun _ _ _ h => h) (by kernel_rfl) ?_ ?_
    rotate_left 1
    · intro w hw; obtain ⟨q5, q6, q7⟩ := HC.out _ hw; go_simp; try with_reducible rfl
    refine wpE_take (i := 8) (q := 9) (v := ?_) rfl (by kernel_rfl) (by kernel_rfl) (by kernel_rfl) (by kernel_rfl) (by kernel_rfl) (fun _ _ _ h => h) (by kernel_rfl) ?_ ?_
    rotate_left 1
    · intro w hw; obtain ⟨q5, q6, q7⟩ := HC.out _ hw; go_simp; try with_reducible rfl
    refine wpE_take (i := 9) (q := 12) (v := ?_) rfl (by kernel_rfl) (by kernel_rfl) (by kernel_rfl) (by kernel_rfl) (by kernel_rfl) (fun _ _ _ h => h) (by kernel_rfl) ?_ ?_
    rotate_left 1
    · intro w hw; obtain ⟨q5, q6, q7⟩ := HC.out _ hw; go_simp; try with_reducible rfl
    refine wpE_take (i := 10) (q := 11) (v := ?_) rfl (by kernel_rfl) (by kernel_rfl) (by kernel_rfl) (by kernel_rfl) (by kernel_rfl) (fun _ _ _ h => h) (by kernel_rfl) ?_ ?_
    rotate_left 1
    · intro w hw; obtain ⟨q5, q6, q7⟩ := HC.out _ hw; go_simp; try with_reducible rfl
    refine wpE_take (i := 11) (q := 12) (v := ?_) rfl (by kernel_rfl) (by kernel_rfl) (by kernel_rfl) (by kernel_rfl) (by kernel_rfl) (fun _ _ _ h => h) (by kernel_rfl) ?_ ?_
    rotate_left 1
    · intro w hw; obtain ⟨q5, q6, q7⟩ := HC.out _ hw; go_simp; try with_reducible rfl
    refine wpE_one (i := 12) rfl (by kernel_rfl) (HCW.out) (fun K hK => ?_)
    go_simp
    refine hK _ _ ?_
    clear hK K
    refine wpE_done (by kernel_rfl) (by kernel_rfl) ?_
    (try go_wp2)
    exact ⟨rfl, .tuple #[], by unfold results; go_simp, rfl, by rw [← HFR.out, HST.out, if_pos HLT.out]; exact H5.out.less⟩
  · have HLT := Lib.hid hlt
    have y8 := h2.cell (i := 8) rfl
    have yl := h2.lt
    have yf := h2.free (i := 8)
    have h5 := h2.set (i := 8) (v := .int .i64 F.top)
    have H5 := Lib.hid (show FileAt W (pts b3 (.cells #[.int .i64 o.code, .int .i64 o.at_, .slice a o.args.length cap, .string ⟨o.text.toArray⟩] 33) * A) b { F with stack := st, top := F.top } _ from ⟨m2, fb2, tb2, nt2, ov2, av2, pv2, V2, h1, h5⟩)
    clear hC hcw h1 h2 h5 H3
    refine wp_region_E C (by kernel_rfl) ?_
    generalize W2.drew = W3 at *
    refine wpE_take (i := 0) (q := 10) (v := ?_) rfl (by kernel_rfl) (by kernel_rfl) (by kernel_rfl) (by kernel_rfl) (by kernel_rfl) (fun _ _ _ h => h) (by kernel_rfl) ?_ ?_
    rotate_left 1
    · intro w hw; obtain ⟨q5, q6, q7⟩ := HC.out _ hw; go_simp; try with_reducible rfl
    refine wpE_take (i := 1) (q := 2) (v := ?_) rfl (by kernel_rfl) (by kernel_rfl) (by kernel_rfl) (by kernel_rfl) (by kernel_rfl) (fun _ _ _ h => h) (by kernel_rfl) ?_ ?_
    rotate_left 1
    · intro w hw; obtain ⟨q5, q6, q7⟩ := HC.out _ hw; go_simp; try with_reducible rfl
    refine wpE_take (i := 2) (q := 3) (v := ?_) rfl (by kernel_rfl) (by kernel_rfl) (by kernel_rfl) (by kernel_rfl) (by kernel_rfl) (fun _ _ _ h => h) (by kernel_rfl) ?_ ?_
    rotate_left 1
    · intro w hw; obtain ⟨q5, q6, q7⟩ := HC.out _ hw; go_simp; try with_reducible rfl
    refine wpE_take (i := 3) (q := 4) (v := ?_) rfl (by kernel_rfl) (by kernel_rfl) (by kernel_rfl) (by kernel_rfl) (by kernel_rfl) (fun _ _ _ h => h) (by kernel_rfl) ?_ ?_
    rotate_left 1
    · intro w hw; obtain ⟨q5, q6, q7⟩ := HC.out _ hw; go_simp; try with_reducible rfl
    refine wpE_take (i := 4) (q := 9) (v := ?_) rfl (by kernel_rfl) (by kernel_rfl) (by kernel_rfl) (by kernel_rfl) (by kernel_rfl) (fun _ _ _ h => h) (by kernel_rfl) ?_ ?_
    rotate_left 1
    · intro w hw; obtain ⟨q5, q6, q7⟩ := HC.out _ hw; go_simp; try with_reducible rfl
    refine wpE_take (i := 5) (q := 6) (v := ?_) rfl (by kernel_rfl) (by kernel_rfl) (by kernel_rfl) (by kernel_rfl) (by kernel_rfl) (fun _ _ _ h => h) (by kernel_rfl) ?_ ?_
    rotate_left 1
    · intro w hw; obtain ⟨q5, q6, q7⟩ := HC.out _ hw; go_simp; try with_reducible rfl
    refine wpE_take (i := 6) (q := 7) (v := ?_) rfl (by kernel_rfl) (by kernel_rfl) (by kernel_rfl) (by kernel_rfl) (by kernel_rfl) (fun _ _ _ h => h) (by kernel_rfl) ?_ ?_
    rotate_left 1
    · intro w hw; obtain ⟨q5, q6, q7⟩ := HC.out _ hw; go_simp; try with_reducible rfl
    refine wpE_take (i := 7) (q := 8) (v := ?_) rfl (by kernel_rfl) (by kernel_rfl) (by kernel_rfl) (by kernel_rfl) (by kernel_rfl) (fun _ _ _ h => h) (by kernel_rfl) ?_ ?_
    rotate_left 1
    · intro w hw; obtain ⟨q5, q6, q7⟩ := HC.out _ hw; go_simp; try with_reducible rfl
    refine wpE_take (i := 8) (q := 9) (v := ?_) rfl (by kernel_rfl) (by kernel_rfl) (by kernel_rfl) (by kernel_rfl) (by kernel_rfl) (fun _ _ _ h => h) (by kernel_rfl) ?_ ?_
    rotate_left 1
    · intro w hw; obtain ⟨q5, q6, q7⟩ := HC.out _ hw; go_simp; try with_reducible rfl
    refine wpE_take (i := 9) (q := 12) (v := ?_) rfl (by kernel_rfl) (by kernel_rfl) (by kernel_rfl) (by kernel_rfl) (by kernel_rfl) (fun _ _ _ h => h) (by kernel_rfl) ?_ ?_
    rotate_left 1
    · intro w hw; obtain ⟨q5, q6, q7⟩ := HC.out _ hw; go_simp; try with_reducible rfl
    refine wpE_take (i := 10) (q := 11) (v := ?_) rfl (by kernel_rfl) (by kernel_rfl) (by kernel_rfl) (by kernel_rfl) (by kernel_rfl) (fun _ _ _ h => h) (by kernel_rfl) ?_ ?_
    rotate_left 1
    · intro w hw; obtain ⟨q5, q6, q7⟩ := HC.out _ hw; go_simp; try with_reducible rfl
    refine wpE_take (i := 11) (q := 12) (v := ?_) rfl (by kernel_rfl) (by kernel_rfl) (by kernel_rfl) (by kernel_rfl) (by kernel_rfl) (fun _ _ _ h => h) (by kernel_rfl) ?_ ?_
    rotate_left 1
    · intro w hw; obtain ⟨q5, q6, q7⟩ := HC.out _ hw; go_simp; try with_reducible rfl
    refine wpE_one (i := 12) rfl (by kernel_rfl) (HCW.out) (fun K hK => ?_)
    go_simp
    refine hK _ _ ?_
    clear hK K
    refine wpE_done (by kernel_rfl) (by kernel_rfl) ?_
    (try go_wp2)
    exact ⟨rfl, .tuple #[], by unfold results; go_simp, rfl, by rw [← HFR.out, HST.out, if_neg (by have := HLT.out; omega)]; exact H5.out.less⟩


end Go.Proofs.Ytjeinldhbajknaa
