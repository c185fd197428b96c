import Derived.Test.YtjeinldhbajknaaMRH
/-
  The document's page: the plain branches. Conditions: those that each theorem names.
-/
namespace Go.Proofs.Ytjeinldhbajknaa
open Go.RowKit Go.Sp Go.Conc
variable {W w w' : World} {A : HProp}


set_option maxRecDepth 100000 in
set_option maxHeartbeats 4000000 in
theorem pg_set {V : List (Cmd × Value)} {b : Nat} {s : StM} {a : Option Addr} {ca : Nat} (o : Cmd) (hb : o.code ≤ 131) (h : StAt W A V b s w) :
    Calls Try.prog 56 #[.pointer (some ⟨b, 0, none⟩), o.val (.slice a o.args.length ca)] w fun e w' => e = .returned (.bool s.font) ∧ StAt W A V b s w' := by
  have s132 : (o.code : Int) < (132 : Int) := by omega
  have l136 : (o.code : Int) ≤ (136 : Int) := by omega
  have l238 : (o.code : Int) ≤ (238 : Int) := by omega
  have g133 : ¬ (133 : Int) ≤ (o.code : Int) := by omega
  have g171 : ¬ (171 : Int) ≤ (o.code : Int) := by omega
  have e140 : ((o.code : Int) == 140) = false := by rw [beq_eq_false_iff_ne]; omega
  have n140 : ¬ ((o.code : Int) = 140) := by omega
  have e141 : ((o.code : Int) == 141) = false := by rw [beq_eq_false_iff_ne]; omega
  have n141 : ¬ ((o.code : Int) = 141) := by omega
  have e142 : ((o.code : Int) == 142) = false := by rw [beq_eq_false_iff_ne]; omega
  have n142 : ¬ ((o.code : Int) = 142) := by omega
  have hx := h.allocX (ropO o.code o.at_ (.slice a o.args.length ca) ⟨o.text.toArray⟩)
  obtain ⟨b3, hb3⟩ : ∃ b3, w.heap.size = b3 := ⟨_, rfl⟩
  rw [hb3] at hx
  obtain ⟨dv, av, pv, tv, h1, h2⟩ := hx
  have q0 := h2.r.r.r.cell (i := 0) rfl
  have k5 := h2.cell (i := 5) rfl
  have k7 := h2.cell (i := 7) rfl
  have k0 := h2.cell (i := 0) rfl
  have kl := h2.lt
  have f0 := h2.free (i := 0)
  have f5 := h2.free (i := 5)
  have H1 := Lib.hid h1
  have H2 := Lib.hid h2
  unfold Cmd.val
  clear h h1 h2
  go_enter Try.func56, Try.ntmps56
  go_upto_region 1 with fail
  generalize w.alloc (.cells #[.int .i64 o.code, .int .i64 o.at_, .slice a o.args.length ca, .string ⟨o.text.toArray⟩] 34) = W1 at *
  clear hb3
  go_wp2
  go_ret
  exact ⟨rfl, (Lib.hid (show StAt W (pts b3 (ropO o.code o.at_ (.slice a o.args.length ca) ⟨o.text.toArray⟩) * A) V b s _ from ⟨dv, av, pv, tv, H1.out, H2.out⟩)).out.less⟩
set_option maxRecDepth 100000 in
set_option maxHeartbeats 4000000 in
theorem pg_put {V : List (Cmd × Value)} {b : Nat} {s : StM} {a : Option Addr} {ca : Nat} (o : Cmd) (hb : 133 ≤ o.code ∧ o.code ≤ 136) (h : StAt W A V b s w) :
    Calls Try.prog 56 #[.pointer (some ⟨b, 0, none⟩), o.val (.slice a o.args.length ca)] w fun e w' => e = .returned (.bool s.font) ∧ StAt W A V b s w' := by
  have s132 : ¬ (o.code : Int) < (132 : Int) := by omega
  have l136 : (o.code : Int) ≤ (136 : Int) := by omega
  have l238 : (o.code : Int) ≤ (238 : Int) := by omega
  have g133 : (133 : Int) ≤ (o.code : Int) := by omega
  have g171 : ¬ (171 : Int) ≤ (o.code : Int) := by omega
  have e140 : ((o.code : Int) == 140) = false := by rw [beq_eq_false_iff_ne]; omega
  have n140 : ¬ ((o.code : Int) = 140) := by omega
  have e141 : ((o.code : Int) == 141) = false := by rw [beq_eq_false_iff_ne]; omega
  have n141 : ¬ ((o.code : Int) = 141) := by omega
  have e142 : ((o.code : Int) == 142) = false := by rw [beq_eq_false_iff_ne]; omega
  have n142 : ¬ ((o.code : Int) = 142) := by omega
  have hx := h.allocX (ropO o.code o.at_ (.slice a o.args.length ca) ⟨o.text.toArray⟩)
  obtain ⟨b3, hb3⟩ : ∃ b3, w.heap.size = b3 := ⟨_, rfl⟩
  rw [hb3] at hx
  obtain ⟨dv, av, pv, tv, h1, h2⟩ := hx
  have q0 := h2.r.r.r.cell (i := 0) rfl
  have k5 := h2.cell (i := 5) rfl
  have k7 := h2.cell (i := 7) rfl
  have k0 := h2.cell (i := 0) rfl
  have kl := h2.lt
  have f0 := h2.free (i := 0)
  have f5 := h2.free (i := 5)
  have H1 := Lib.hid h1
  have H2 := Lib.hid h2
  unfold Cmd.val
  clear h h1 h2
  go_enter Try.func56, Try.ntmps56
  go_upto_region 1 with fail
  generalize w.alloc (.cells #[.int .i64 o.code, .int .i64 o.at_, .slice a o.args.length ca, .string ⟨o.text.toArray⟩] 34) = W1 at *
  clear hb3
  go_wp2
  go_ret
  exact ⟨rfl, (Lib.hid (show StAt W (pts b3 (ropO o.code o.at_ (.slice a o.args.length ca) ⟨o.text.toArray⟩) * A) V b s _ from ⟨dv, av, pv, tv, H1.out, H2.out⟩)).out.less⟩
set_option maxRecDepth 100000 in
set_option maxHeartbeats 4000000 in
theorem pg_eop {V : List (Cmd × Value)} {b : Nat} {s : StM} {a : Option Addr} {ca : Nat} (o : Cmd) (hb : o.code = 140) (h : StAt W A V b s w) :
    Calls Try.prog 56 #[.pointer (some ⟨b, 0, none⟩), o.val (.slice a o.args.length ca)] w fun e w' => e = .returned (.bool (s.deep == 0)) ∧ StAt W A V b ({ s with part := 1 } : StM) w' := by
  have hx := h.allocX (ropO o.code o.at_ (.slice a o.args.length ca) ⟨o.text.toArray⟩)
  obtain ⟨b3, hb3⟩ : ∃ b3, w.heap.size = b3 := ⟨_, rfl⟩
  rw [hb3] at hx
  obtain ⟨dv, av, pv, tv, h1, h2⟩ := hx
  have q0 := h2.r.r.r.cell (i := 0) rfl
  have k5 := h2.cell (i := 5) rfl
  have k7 := h2.cell (i := 7) rfl
  have k0 := h2.cell (i := 0) rfl
  have kl := h2.lt
  have f0 := h2.free (i := 0)
  have f5 := h2.free (i := 5)
  have H1 := Lib.hid h1
  have H2 := Lib.hid h2
  unfold Cmd.val
  clear h h1 h2
  have HB := Lib.hid hb
  clear hb
  go_enter Try.func56, Try.ntmps56
  go_upto_region 1 with fail
  generalize w.alloc (.cells #[.int .i64 o.code, .int .i64 o.at_, .slice a o.args.length ca, .string ⟨o.text.toArray⟩] 34) = W1 at *
  clear hb3
  rw [HB.out] at q0
  have i9 : ((140 : Nat) : Int) = 140 := rfl
  go_wp2
  go_ret
  exact ⟨rfl, (Lib.hid (show StAt W (pts b3 (ropO o.code o.at_ (.slice a o.args.length ca) ⟨o.text.toArray⟩) * A) V b ({ s with part := 1 } : StM) _ from ⟨dv, av, pv, tv, H1.out, H2.out.set (i := 0) (v := .int .i64 1)⟩)).out.less⟩
set_option maxRecDepth 100000 in
set_option maxHeartbeats 4000000 in
theorem pg_pop {V : List (Cmd × Value)} {b : Nat} {s : StM} {a : Option Addr} {ca : Nat} (o : Cmd) (hb : o.code = 142) (hs : -2000000000 ≤ s.deep ∧ s.deep ≤ 2000000000) (h : StAt W A V b s w) :
    Calls Try.prog 56 #[.pointer (some ⟨b, 0, none⟩), o.val (.slice a o.args.length ca)] w fun e w' => e = .returned (.bool (decide (1 ≤ s.deep))) ∧ StAt W A V b ({ s with deep := s.deep - 1 } : StM) w' := by
  obtain ⟨hs1, hs2⟩ := hs
  have hw : wrap64 (s.deep - 1) = s.deep - 1 := wrap64_mid (x := s.deep - 1) (by omega) (by omega)
  clear hs1 hs2
  have hx := h.allocX (ropO o.code o.at_ (.slice a o.args.length ca) ⟨o.text.toArray⟩)
  obtain ⟨b3, hb3⟩ : ∃ b3, w.heap.size = b3 := ⟨_, rfl⟩
  rw [hb3] at hx
  obtain ⟨dv, av, pv, tv, h1, h2⟩ := hx
  have q0 := h2.r.r.r.cell (i := 0) rfl
  have k5 := h2.cell (i := 5) rfl
  have k7 := h2.cell (i := 7) rfl
  have k0 := h2.cell (i := 0) rfl
  have kl := h2.lt
  have f0 := h2.free (i := 0)
  have f5 := h2.free (i := 5)
  have H1 := Lib.hid h1
  have H2 := Lib.hid h2
  unfold Cmd.val
  clear h h1 h2
  have HB := Lib.hid hb
  clear hb
  go_enter Try.func56, Try.ntmps56
  go_upto_region 1 with fail
  generalize w.alloc (.cells #[.int .i64 o.code, .int .i64 o.at_, .slice a o.args.length ca, .string ⟨o.text.toArray⟩] 34) = W1 at *
  clear hb3
  rw [HB.out] at q0
  have i9 : ((142 : Nat) : Int) = 142 := rfl
  go_wp2
  go_ret
  exact ⟨rfl, (Lib.hid (show StAt W (pts b3 (ropO o.code o.at_ (.slice a o.args.length ca) ⟨o.text.toArray⟩) * A) V b ({ s with deep := s.deep - 1 } : StM) _ from ⟨dv, av, pv, tv, H1.out, H2.out.set (i := 5) (v := .int .i64 (s.deep - 1))⟩)).out.less⟩
set_option maxRecDepth 100000 in
set_option maxHeartbeats 4000000 in
theorem pg_132 {V : List (Cmd × Value)} {b : Nat} {s : StM} {a : Option Addr} {ca : Nat} (o : Cmd) (hb : o.code = 132) (h : StAt W A V b s w) :
    Calls Try.prog 56 #[.pointer (some ⟨b, 0, none⟩), o.val (.slice a o.args.length ca)] w fun e w' => e = .returned (.bool true) ∧ StAt W A V b s w' := by
  have hx := h.allocX (ropO o.code o.at_ (.slice a o.args.length ca) ⟨o.text.toArray⟩)
  obtain ⟨b3, hb3⟩ : ∃ b3, w.heap.size = b3 := ⟨_, rfl⟩
  rw [hb3] at hx
  obtain ⟨dv, av, pv, tv, h1, h2⟩ := hx
  have q0 := h2.r.r.r.cell (i := 0) rfl
  have k5 := h2.cell (i := 5) rfl
  have k7 := h2.cell (i := 7) rfl
  have k0 := h2.cell (i := 0) rfl
  have kl := h2.lt
  have f0 := h2.free (i := 0)
  have f5 := h2.free (i := 5)
  have H1 := Lib.hid h1
  have H2 := Lib.hid h2
  unfold Cmd.val
  clear h h1 h2
  have HB := Lib.hid hb
  clear hb
  go_enter Try.func56, Try.ntmps56
  go_upto_region 1 with fail
  generalize w.alloc (.cells #[.int .i64 o.code, .int .i64 o.at_, .slice a o.args.length ca, .string ⟨o.text.toArray⟩] 34) = W1 at *
  clear hb3
  rw [HB.out] at q0
  have i9 : ((132 : Nat) : Int) = 132 := rfl
  go_wp2
  go_ret
  exact ⟨rfl, (Lib.hid (show StAt W (pts b3 (ropO o.code o.at_ (.slice a o.args.length ca) ⟨o.text.toArray⟩) * A) V b s _ from ⟨dv, av, pv, tv, H1.out, H2.out⟩)).out.less⟩
set_option maxRecDepth 100000 in
set_option maxHeartbeats 4000000 in
theorem pg_137 {V : List (Cmd × Value)} {b : Nat} {s : StM} {a : Option Addr} {ca : Nat} (o : Cmd) (hb : 137 ≤ o.code ∧ o.code ≤ 139) (h : StAt W A V b s w) :
    Calls Try.prog 56 #[.pointer (some ⟨b, 0, none⟩), o.val (.slice a o.args.length ca)] w fun e w' => e = .returned (.bool true) ∧ StAt W A V b s w' := by
  have s132 : ¬ (o.code : Int) < (132 : Int) := by omega
  have l136 : ¬ (o.code : Int) ≤ (136 : Int) := by omega
  have l238 : (o.code : Int) ≤ (238 : Int) := by omega
  have g133 : (133 : Int) ≤ (o.code : Int) := by omega
  have g171 : ¬ (171 : Int) ≤ (o.code : Int) := by omega
  have e140 : ((o.code : Int) == 140) = false := by rw [beq_eq_false_iff_ne]; omega
  have n140 : ¬ ((o.code : Int) = 140) := by omega
  have e141 : ((o.code : Int) == 141) = false := by rw [beq_eq_false_iff_ne]; omega
  have n141 : ¬ ((o.code : Int) = 141) := by omega
  have e142 : ((o.code : Int) == 142) = false := by rw [beq_eq_false_iff_ne]; omega
  have n142 : ¬ ((o.code : Int) = 142) := by omega
  have hx := h.allocX (ropO o.code o.at_ (.slice a o.args.length ca) ⟨o.text.toArray⟩)
  obtain ⟨b3, hb3⟩ : ∃ b3, w.heap.size = b3 := ⟨_, rfl⟩
  rw [hb3] at hx
  obtain ⟨dv, av, pv, tv, h1, h2⟩ := hx
  have q0 := h2.r.r.r.cell (i := 0) rfl
  have k5 := h2.cell (i := 5) rfl
  have k7 := h2.cell (i := 7) rfl
  have k0 := h2.cell (i := 0) rfl
  have kl := h2.lt
  have f0 := h2.free (i := 0)
  have f5 := h2.free (i := 5)
  have H1 := Lib.hid h1
  have H2 := Lib.hid h2
  unfold Cmd.val
  clear h h1 h2
  go_enter Try.func56, Try.ntmps56
  go_upto_region 1 with fail
  generalize w.alloc (.cells #[.int .i64 o.code, .int .i64 o.at_, .slice a o.args.length ca, .string ⟨o.text.toArray⟩] 34) = W1 at *
  clear hb3
  go_wp2
  go_ret
  exact ⟨rfl, (Lib.hid (show StAt W (pts b3 (ropO o.code o.at_ (.slice a o.args.length ca) ⟨o.text.toArray⟩) * A) V b s _ from ⟨dv, av, pv, tv, H1.out, H2.out⟩)).out.less⟩
set_option maxRecDepth 100000 in
set_option maxHeartbeats 4000000 in
theorem pg_143 {V : List (Cmd × Value)} {b : Nat} {s : StM} {a : Option Addr} {ca : Nat} (o : Cmd) (hb : 143 ≤ o.code ∧ o.code ≤ 170) (h : StAt W A V b s w) :
    Calls Try.prog 56 #[.pointer (some ⟨b, 0, none⟩), o.val (.slice a o.args.length ca)] w fun e w' => e = .returned (.bool true) ∧ StAt W A V b s w' := by
  have s132 : ¬ (o.code : Int) < (132 : Int) := by omega
  have l136 : ¬ (o.code : Int) ≤ (136 : Int) := by omega
  have l238 : (o.code : Int) ≤ (238 : Int) := by omega
  have g133 : (133 : Int) ≤ (o.code : Int) := by omega
  have g171 : ¬ (171 : Int) ≤ (o.code : Int) := by omega
  have e140 : ((o.code : Int) == 140) = false := by rw [beq_eq_false_iff_ne]; omega
  have n140 : ¬ ((o.code : Int) = 140) := by omega
  have e141 : ((o.code : Int) == 141) = false := by rw [beq_eq_false_iff_ne]; omega
  have n141 : ¬ ((o.code : Int) = 141) := by omega
  have e142 : ((o.code : Int) == 142) = false := by rw [beq_eq_false_iff_ne]; omega
  have n142 : ¬ ((o.code : Int) = 142) := by omega
  have hx := h.allocX (ropO o.code o.at_ (.slice a o.args.length ca) ⟨o.text.toArray⟩)
  obtain ⟨b3, hb3⟩ : ∃ b3, w.heap.size = b3 := ⟨_, rfl⟩
  rw [hb3] at hx
  obtain ⟨dv, av, pv, tv, h1, h2⟩ := hx
  have q0 := h2.r.r.r.cell (i := 0) rfl
  have k5 := h2.cell (i := 5) rfl
  have k7 := h2.cell (i := 7) rfl
  have k0 := h2.cell (i := 0) rfl
  have kl := h2.lt
  have f0 := h2.free (i := 0)
  have f5 := h2.free (i := 5)
  have H1 := Lib.hid h1
  have H2 := Lib.hid h2
  unfold Cmd.val
  clear h h1 h2
  go_enter Try.func56, Try.ntmps56
  go_upto_region 1 with fail
  generalize w.alloc (.cells #[.int .i64 o.code, .int .i64 o.at_, .slice a o.args.length ca, .string ⟨o.text.toArray⟩] 34) = W1 at *
  clear hb3
  go_wp2
  go_ret
  exact ⟨rfl, (Lib.hid (show StAt W (pts b3 (ropO o.code o.at_ (.slice a o.args.length ca) ⟨o.text.toArray⟩) * A) V b s _ from ⟨dv, av, pv, tv, H1.out, H2.out⟩)).out.less⟩
set_option maxRecDepth 100000 in
set_option maxHeartbeats 4000000 in
theorem pg_239 {V : List (Cmd × Value)} {b : Nat} {s : StM} {a : Option Addr} {ca : Nat} (o : Cmd) (hb : 239 ≤ o.code ∧ o.code ≤ 255) (h : StAt W A V b s w) :
    Calls Try.prog 56 #[.pointer (some ⟨b, 0, none⟩), o.val (.slice a o.args.length ca)] w fun e w' => e = .returned (.bool true) ∧ StAt W A V b s w' := by
  have s132 : ¬ (o.code : Int) < (132 : Int) := by omega
  have l136 : ¬ (o.code : Int) ≤ (136 : Int) := by omega
  have l238 : ¬ (o.code : Int) ≤ (238 : Int) := by omega
  have g133 : (133 : Int) ≤ (o.code : Int) := by omega
  have g171 : (171 : Int) ≤ (o.code : Int) := by omega
  have e140 : ((o.code : Int) == 140) = false := by rw [beq_eq_false_iff_ne]; omega
  have n140 : ¬ ((o.code : Int) = 140) := by omega
  have e141 : ((o.code : Int) == 141) = false := by rw [beq_eq_false_iff_ne]; omega
  have n141 : ¬ ((o.code : Int) = 141) := by omega
  have e142 : ((o.code : Int) == 142) = false := by rw [beq_eq_false_iff_ne]; omega
  have n142 : ¬ ((o.code : Int) = 142) := by omega
  have hx := h.allocX (ropO o.code o.at_ (.slice a o.args.length ca) ⟨o.text.toArray⟩)
  obtain ⟨b3, hb3⟩ : ∃ b3, w.heap.size = b3 := ⟨_, rfl⟩
  rw [hb3] at hx
  obtain ⟨dv, av, pv, tv, h1, h2⟩ := hx
  have q0 := h2.r.r.r.cell (i := 0) rfl
  have k5 := h2.cell (i := 5) rfl
  have k7 := h2.cell (i := 7) rfl
  have k0 := h2.cell (i := 0) rfl
  have kl := h2.lt
  have f0 := h2.free (i := 0)
  have f5 := h2.free (i := 5)
  have H1 := Lib.hid h1
  have H2 := Lib.hid h2
  unfold Cmd.val
  clear h h1 h2
  go_enter Try.func56, Try.ntmps56
  go_upto_region 1 with fail
  generalize w.alloc (.cells #[.int .i64 o.code, .int .i64 o.at_, .slice a o.args.length ca, .string ⟨o.text.toArray⟩] 34) = W1 at *
  clear hb3
  go_wp2
  go_ret
  exact ⟨rfl, (Lib.hid (show StAt W (pts b3 (ropO o.code o.at_ (.slice a o.args.length ca) ⟨o.text.toArray⟩) * A) V b s _ from ⟨dv, av, pv, tv, H1.out, H2.out⟩)).out.less⟩

end Go.Proofs.Ytjeinldhbajknaa
