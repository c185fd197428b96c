import Derived.Test.YtjeinldhbajknaaMQ
import Derived.Test.YtjeinldhbajknaaMFA
/-
  A command, inside of a page or outside, all branches together; feed and file side by side. Conditions: those that each theorem names.
-/
namespace Go.Proofs.Ytjeinldhbajknaa
open Go.RowKit Go.Sp Go.Conc
variable {W w w' : World} {A R : HProp}

theorem FileHas.at {b : Nat} {F : FileM} {o : Cmd} {va : Value} (h : FileHas W A b F o va w) : FileAt W A b F w := by
  obtain ⟨m, fb, tb, nt, ov, av, pv, V, h1, _, h2⟩ := h
  exact ⟨m, fb, tb, nt, ov, av, pv, V, h1, h2⟩
theorem FileHas.rd {b : Nat} {F : FileM} {o : Cmd} {va : Value} (h : FileHas W A b F o va w) : Rd w va o.args.length 1 (intsL o.args) := by
  obtain ⟨m, fb, tb, nt, ov, av, pv, V, h1, hm, h2⟩ := h
  exact h2.r.args_rd h1.2.1.1 hm
theorem len_fnt {o : Cmd} (hw : o.Wf) (hb : 235 ≤ o.code ∧ o.code ≤ 238) : 0 < o.args.length := by
  rw [hw.1]
  obtain h | h | h | h : o.code = 235 ∨ o.code = 236 ∨ o.code = 237 ∨ o.code = 238 := by omega
  all_goals (rw [h]; decide)
theorem len_def {o : Cmd} (hw : o.Wf) (hb : 243 ≤ o.code ∧ o.code ≤ 246) : 4 ≤ o.args.length := by
  rw [hw.1]
  obtain h | h | h | h : o.code = 243 ∨ o.code = 244 ∨ o.code = 245 ∨ o.code = 246 := by omega
  all_goals (rw [h]; decide)
theorem len_page {o : Cmd} (hw : o.Wf) (hb : o.code = 139) : 10 < o.args.length := by
  rw [hw.1, hb]
  decide

theorem inside_any {b : Nat} {F : FileM} {n : Nat} (o : Cmd) (va : Value) (hw : o.Wf) (hf : F.Fits n) (hn : n ≤ 1048576) (h : FileHas W A b F o va w) :
    Calls Try.prog 31 #[.pointer (some ⟨b, 0, none⟩), o.val va] w fun e w' => e = .returned (.tuple #[]) ∧ FileAt W A b (F.inside o) w' := by
  have hr := h.rd
  have ha := h.at
  have hst : -4000000000 ≤ F.stack ∧ F.stack ≤ 4000000000 := by have := hf.stack; omega
  have hkn : ∀ d, 0 ≤ F.known d ∧ F.known d ≤ 1048576 := fun d => by have := hf.told d.num; unfold FileM.known; omega
  have hag : F.again.length ≤ 1048576 := by have := hf.again; omega
  have h255 := hw.2
  have hcs : (o.code ≤ 131) ∨ (o.code = 132) ∨ (133 ≤ o.code ∧ o.code ≤ 136) ∨ (137 ≤ o.code ∧ o.code ≤ 138) ∨ (o.code = 139) ∨ (o.code = 140) ∨ (o.code = 141) ∨ (o.code = 142) ∨ (143 ≤ o.code ∧ o.code ≤ 170) ∨ (171 ≤ o.code ∧ o.code ≤ 234) ∨ (235 ≤ o.code ∧ o.code ≤ 238) ∨ (239 ≤ o.code ∧ o.code ≤ 242) ∨ (243 ≤ o.code ∧ o.code ≤ 246) ∨ (247 ≤ o.code ∧ o.code ≤ 255) := by omega
  rcases hcs with hb | hb | hb | hb | hb | hb | hb | hb | hb | hb | hb | hb | hb | hb
  · rw [show F.inside o = F.fail (!F.some_) by unfold FileM.inside; repeat (first | rw [if_pos (by omega)] | rw [if_neg (by omega)])]
    exact in_set o va o.code rfl hb  hr ha
  · rw [show F.inside o = F by unfold FileM.inside; repeat (first | rw [if_pos (by omega)] | rw [if_neg (by omega)])]
    exact in_none132 o va o.code rfl hb  hr ha
  · rw [show F.inside o = F.fail (!F.some_) by unfold FileM.inside; repeat (first | rw [if_pos (by omega)] | rw [if_neg (by omega)])]
    exact in_put o va o.code rfl hb  hr ha
  · rw [show F.inside o = F by unfold FileM.inside; repeat (first | rw [if_pos (by omega)] | rw [if_neg (by omega)])]
    exact in_none137 o va o.code rfl hb  hr ha
  · rw [show F.inside o = { F with bad := true } by unfold FileM.inside; repeat (first | rw [if_pos (by omega)] | rw [if_neg (by omega)])]
    exact in_bad139 o va o.code rfl hb  hr ha
  · rw [show F.inside o = { F.fail (!(F.stack == 0)) with part := 0 } by unfold FileM.inside; repeat (first | rw [if_pos (by omega)] | rw [if_neg (by omega)])]
    exact in_eop o va o.code rfl hb  hr ha
  · rw [show F.inside o = { F with stack := F.stack + 1, top := if F.top < F.stack + 1 then F.stack + 1 else F.top } by unfold FileM.inside; repeat (first | rw [if_pos (by omega)] | rw [if_neg (by omega)])]
    exact in_push o va o.code rfl hb hst hr ha
  · rw [show F.inside o = ({ F with stack := F.stack - 1 } : FileM).fail (decide (F.stack - 1 < 0)) by unfold FileM.inside; repeat (first | rw [if_pos (by omega)] | rw [if_neg (by omega)])]
    exact in_pop o va o.code rfl hb hst hr ha
  · rw [show F.inside o = F by unfold FileM.inside; repeat (first | rw [if_pos (by omega)] | rw [if_neg (by omega)])]
    exact in_none143 o va o.code rfl hb  hr ha
  · rw [show F.inside o = F.choose ((o.code : Int) - 171) by unfold FileM.inside; repeat (first | rw [if_pos (by omega)] | rw [if_neg (by omega)])]
    exact in_font o va o.code rfl hb  hr ha
  · rw [show F.inside o = F.choose (o.args.getD 0 0) by unfold FileM.inside; repeat (first | rw [if_pos (by omega)] | rw [if_neg (by omega)])]
    exact in_fnt o va o.code rfl hb (len_fnt hw hb) hr ha
  · rw [show F.inside o = F by unfold FileM.inside; repeat (first | rw [if_pos (by omega)] | rw [if_neg (by omega)])]
    exact in_none239 o va o.code rfl hb  hr ha
  · rw [show F.inside o = F.define o.def_ by unfold FileM.inside; repeat (first | rw [if_pos (by omega)] | rw [if_neg (by omega)])]
    exact in_def o va o.code rfl hb (len_def hw hb) o.def_ rfl (hkn _) hag hr ha
  · rw [show F.inside o = { F with bad := true } by unfold FileM.inside; repeat (first | rw [if_pos (by omega)] | rw [if_neg (by omega)])]
    exact in_bad247 o va o.code rfl hb  hr ha
theorem outside_any {b : Nat} {F : FileM} {n : Nat} (o : Cmd) (va : Value) (hw : o.Wf) (hf : F.Fits n) (hn : n ≤ 1048576) (h : FileHas W A b F o va w) :
    Calls Try.prog 33 #[.pointer (some ⟨b, 0, none⟩), o.val va] w fun e w' => e = .returned (.tuple #[]) ∧ FileAt W A b (F.outside o) w' := by
  have hr := h.rd
  have ha := h.at
  have hpb : 0 ≤ F.pages ∧ F.pages ≤ 4000000000 := by have := hf.pages; omega
  have hkn : ∀ d, 0 ≤ F.known d ∧ F.known d ≤ 1048576 := fun d => by have := hf.told d.num; unfold FileM.known; omega
  have hag : F.again.length ≤ 1048576 := by have := hf.again; omega
  have h255 := hw.2
  by_cases hb : o.code = 138
  · rw [show F.outside o = F by unfold FileM.outside; repeat (first | rw [if_pos (by omega)] | rw [if_neg (by omega)])]
    exact out_nop o va o.code rfl hb  hr ha
  by_cases hb : 243 ≤ o.code ∧ o.code ≤ 246
  · rw [show F.outside o = F.define o.def_ by unfold FileM.outside; repeat (first | rw [if_pos (by omega)] | rw [if_neg (by omega)])]
    exact out_def o va o.code rfl hb (len_def hw hb) o.def_ rfl (hkn _) hag hr ha
  by_cases hp0 : F.part = 0
  · have hp : (F.part == 0) = true := by rw [beq_iff_eq]; exact hp0
    by_cases hb : o.code = 248
    · rw [show F.outside o = { F with part := 2, post := o } by unfold FileM.outside; repeat (first | rw [if_pos (by omega)] | rw [if_neg (by omega)])]
      exact out_post o va hb hp h
    have hcs : (o.code ≤ 137) ∨ (o.code = 139) ∨ (140 ≤ o.code ∧ o.code ≤ 242) ∨ (o.code = 247) ∨ (249 ≤ o.code ∧ o.code ≤ 255) := by omega
    rcases hcs with hb | hb | hb | hb | hb
    · rw [show F.outside o = { F with bad := true } by unfold FileM.outside; repeat (first | rw [if_pos (by omega)] | rw [if_neg (by omega)])]
      exact out_badz_low o va o.code rfl hb hp hr ha
    · rw [show F.outside o = { F.fail (!(o.args.getD 10 0 == F.last)) with last := o.at_, part := 1, stack := 0, some_ := false, pages := F.pages + 1 } by unfold FileM.outside; repeat (first | rw [if_pos (by omega)] | rw [if_neg (by omega)])]
      exact out_page o va o.code rfl hb hp (len_page hw hb) hpb hr ha
    · rw [show F.outside o = { F with bad := true } by unfold FileM.outside; repeat (first | rw [if_pos (by omega)] | rw [if_neg (by omega)])]
      exact out_badz_mid o va o.code rfl hb hp hr ha
    · rw [show F.outside o = { F with bad := true } by unfold FileM.outside; repeat (first | rw [if_pos (by omega)] | rw [if_neg (by omega)])]
      exact out_badz_p247 o va o.code rfl hb hp hr ha
    · rw [show F.outside o = { F with bad := true } by unfold FileM.outside; repeat (first | rw [if_pos (by omega)] | rw [if_neg (by omega)])]
      exact out_badz_high o va o.code rfl hb hp hr ha
  · have hp : (F.part == 0) = false := by rw [beq_eq_false_iff_ne]; exact hp0
    have hcs : (o.code ≤ 137) ∨ (o.code = 139) ∨ (140 ≤ o.code ∧ o.code ≤ 242) ∨ (o.code = 247) ∨ (o.code = 248) ∨ (249 ≤ o.code ∧ o.code ≤ 255) := by omega
    rcases hcs with hb | hb | hb | hb | hb | hb
    · rw [show F.outside o = { F with bad := true } by unfold FileM.outside; repeat (first | rw [if_pos (by omega)] | rw [if_neg (by omega)])]
      exact out_bad_low o va o.code rfl hb hp hr ha
    · rw [show F.outside o = { F with bad := true } by unfold FileM.outside; repeat (first | rw [if_pos (by omega)] | rw [if_neg (by omega)])]
      exact out_bad_p139 o va o.code rfl hb hp hr ha
    · rw [show F.outside o = { F with bad := true } by unfold FileM.outside; repeat (first | rw [if_pos (by omega)] | rw [if_neg (by omega)])]
      exact out_bad_mid o va o.code rfl hb hp hr ha
    · rw [show F.outside o = { F with bad := true } by unfold FileM.outside; repeat (first | rw [if_pos (by omega)] | rw [if_neg (by omega)])]
      exact out_bad_p247 o va o.code rfl hb hp hr ha
    · rw [show F.outside o = { F with bad := true } by unfold FileM.outside; repeat (first | rw [if_pos (by omega)] | rw [if_neg (by omega)])]
      exact out_bad_p248 o va o.code rfl hb hp hr ha
    · rw [show F.outside o = { F with bad := true } by unfold FileM.outside; repeat (first | rw [if_pos (by omega)] | rw [if_neg (by omega)])]
      exact out_bad_high o va o.code rfl hb hp hr ha

abbrev feedH (b c cap : Nat) (f : Fd) (s r : Nat) : HProp := pts b (.cells #[.chan (some c), .int .i64 f.at_, .bool f.lost] 110) * pts c (chanO cap f.l true s r)
theorem FdAt.toH {b c cap : Nat} {f : Fd} (h : FdAt W A b c cap f w) : f.at_ + f.l.length ≤ 1048576 ∧ ∃ s r, Sat W (feedH b c cap f s r * A) w := by
  obtain ⟨h1, s, r, h2⟩ := h
  exact ⟨h1, s, r, h2.asc'⟩
theorem FdAt.ofH {b c cap : Nat} {f : Fd} {s r : Nat} (h1 : f.at_ + f.l.length ≤ 1048576) (h : Sat W (feedH b c cap f s r * A) w) : FdAt W A b c cap f w := ⟨h1, s, r, h.asc⟩

/-- a feed and a file -/
def JAt (W : World) (R : HProp) (bf cf cap : Nat) (f : Fd) (b : Nat) (F : FileM) (w : World) : Prop := f.at_ + f.l.length ≤ 1048576 ∧ ∃ s r, FileAt W (feedH bf cf cap f s r * R) b F w
/-- .., one of whose commands is o, with its numbers in va -/
def JHas (W : World) (R : HProp) (bf cf cap : Nat) (f : Fd) (b : Nat) (F : FileM) (o : Cmd) (va : Value) (w : World) : Prop := f.at_ + f.l.length ≤ 1048576 ∧ ∃ s r, FileHas W (feedH bf cf cap f s r * R) b F o va w
theorem JAt.feed {bf cf cap b : Nat} {f : Fd} {F : FileM} (h : JAt W R bf cf cap f b F w) : ∃ Y, FdAt W (R * Y) bf cf cap f w ∧ ∀ (R' : HProp) (f' : Fd) (w' : World), FdAt W (R' * Y) bf cf cap f' w' → JAt W R' bf cf cap f' b F w' := by
  obtain ⟨h1, s, r, h2⟩ := h
  obtain ⟨Y, h3, back⟩ := h2.focus
  refine ⟨Y, FdAt.ofH h1 h3.asc, fun R' f' w' h => ?_⟩
  obtain ⟨h4, s', r', h5⟩ := h.toH
  exact ⟨h4, s', r', back _ _ h5.asc'⟩
theorem JAt.op {bf cf cap b : Nat} {f : Fd} {F : FileM} (h : JAt W R bf cf cap f b F w) :
    Calls Try.prog 30 #[.pointer (some ⟨bf, 0, none⟩)] w fun e w' => ∃ va, e = .returned (f.cmd.1.val va) ∧ JAt W (rowI va f.cmd.1.args * R) bf cf cap f.cmd.2 b F w' := by
  obtain ⟨Y, h1, back⟩ := h.feed
  exact (op_any h1).mono fun _ _ ⟨va, he, hs⟩ => ⟨va, he, back _ _ _ (hs.of_eq (by ac_rfl))⟩
theorem JAt.next {bf cf cap b : Nat} {f : Fd} {F : FileM} (h : JAt W R bf cf cap f b F w) :
    Calls Try.prog 34 #[.pointer (some ⟨bf, 0, none⟩)] w fun e w' => e = .returned (.int .i64 (f.next.1 : Nat)) ∧ JAt W R bf cf cap f.next.2 b F w' := by
  obtain ⟨Y, h1, back⟩ := h.feed
  exact (next_any h1).mono fun _ _ ⟨he, hs⟩ => ⟨he, back _ _ _ hs⟩
theorem JAt.fail {bf cf cap b : Nat} {f : Fd} {F : FileM} (x : Bool) (h : JAt W R bf cf cap f b F w) :
    Calls Try.prog 32 #[.pointer (some ⟨b, 0, none⟩), .bool x] w fun e w' => e = .returned (.tuple #[]) ∧ JAt W R bf cf cap f b (F.fail x) w' := by
  obtain ⟨h1, s, r, h2⟩ := h
  exact (fail_any x h2).mono fun _ _ ⟨he, hs⟩ => ⟨he, h1, s, r, hs⟩
theorem JHas.inside {bf cf cap b : Nat} {f : Fd} {F : FileM} {n : Nat} (o : Cmd) (va : Value) (hw : o.Wf) (hf : F.Fits n) (hn : n ≤ 1048576) (h : JHas W R bf cf cap f b F o va w) :
    Calls Try.prog 31 #[.pointer (some ⟨b, 0, none⟩), o.val va] w fun e w' => e = .returned (.tuple #[]) ∧ JAt W R bf cf cap f b (F.inside o) w' := by
  obtain ⟨h1, s, r, h2⟩ := h
  exact (inside_any o va hw hf hn h2).mono fun _ _ ⟨he, hs⟩ => ⟨he, h1, s, r, hs⟩
theorem JHas.outside {bf cf cap b : Nat} {f : Fd} {F : FileM} {n : Nat} (o : Cmd) (va : Value) (hw : o.Wf) (hf : F.Fits n) (hn : n ≤ 1048576) (h : JHas W R bf cf cap f b F o va w) :
    Calls Try.prog 33 #[.pointer (some ⟨b, 0, none⟩), o.val va] w fun e w' => e = .returned (.tuple #[]) ∧ JAt W R bf cf cap f b (F.outside o) w' := by
  obtain ⟨h1, s, r, h2⟩ := h
  exact (outside_any o va hw hf hn h2).mono fun _ _ ⟨he, hs⟩ => ⟨he, h1, s, r, hs⟩
theorem JHas.at {bf cf cap b : Nat} {f : Fd} {F : FileM} {o : Cmd} {va : Value} (h : JHas W R bf cf cap f b F o va w) : JAt W R bf cf cap f b F w := by
  obtain ⟨h1, s, r, h2⟩ := h
  exact ⟨h1, s, r, h2.at⟩
theorem JAt.less {B : HProp} {bf cf cap b : Nat} {f : Fd} {F : FileM} (h : JAt W (B * R) bf cf cap f b F w) : JAt W R bf cf cap f b F w := by
  obtain ⟨h1, s, r, h2⟩ := h
  obtain ⟨Y, h3, back⟩ := h2.focus
  exact ⟨h1, s, r, back _ _ ((h3.of_eq (show _ = B * ((feedH bf cf cap f s r * R) * Y) by ac_rfl)).r)⟩
theorem JAt.sat {bf cf cap b : Nat} {f : Fd} {F : FileM} (h : JAt W R bf cf cap f b F w) : Sat W R w := by
  obtain ⟨h1, s, r, h2⟩ := h
  exact h2.sat.r
theorem JAt.focus {bf cf cap b : Nat} {f : Fd} {F : FileM} (h : JAt W R bf cf cap f b F w) : ∃ Y : HProp, Sat W (R * Y) w ∧ ∀ (R' : HProp) (w' : World), Sat W (R' * Y) w' → JAt W R' bf cf cap f b F w' := by
  obtain ⟨h1, s, r, h2⟩ := h
  obtain ⟨Y, h3, back⟩ := h2.focus
  exact ⟨feedH bf cf cap f s r * Y, h3.of_eq (by ac_rfl), fun R' w' h => ⟨h1, s, r, back _ _ (h.of_eq (by ac_rfl))⟩⟩
theorem JAt.drewD {bf cf cap b : Nat} {f : Fd} {F : FileM} (h : JAt W R bf cf cap f b F w) : JAt W R bf cf cap f b F w.drew := by
  obtain ⟨h1, s, r, h2⟩ := h
  exact ⟨h1, s, r, h2.drewD⟩

end Go.Proofs.Ytjeinldhbajknaa
