
/-
  The reader in memory; its next line. Conditions: those that each theorem names.
-/
import Derived.Test.YtpcdbeicpmjooaaDoorCodC
import Derived.Test.YtpcdbeicpmjooaaDoorRowM
namespace Go.Proofs.YtpcdbeicpmjooaaDoor
open Go.RowKit Go.Sp
variable {W w w' : World} {F : HProp}

theorem cutAt_len (c : UInt8) (l : List UInt8) : (cutAt c l).1.length + (cutAt c l).2.1.length ≤ l.length := by
  induction l with
  | nil => simp [cutAt]
  | cons b l ih => rw [cutAt]; split <;> simp <;> omega

theorem trim_len (l : List UInt8) (c : UInt8) : (Lib.trimRightB l c).length ≤ l.length := by
  unfold Lib.trimRightB
  rw [List.length_reverse]
  have : (l.reverse.dropWhile (· == c)).length ≤ l.reverse.length := (List.dropWhile_sublist _).length_le
  simpa using this

abbrev rdC (R : Rs) (v : Value) (at_ : Nat) : Array Value := #[.bool true, .bool R.stopped, .bool R.ended, (.string ⟨(R.text).toArray⟩), v, .int .i64 at_, .int .i64 R.state, .int .i64 R.number]
abbrev rdO (R : Rs) (v : Value) (at_ : Nat) : Obj := .cells (rdC R v at_) 62

/-- the reader b is R -/
def RdAt (W : World) (F : HProp) (b : Nat) (R : Rs) (w : World) : Prop :=
  ∃ v xs at_, xs.drop at_ = R.left ∧ at_ ≤ xs.length ∧ xs.length ≤ 100000 ∧ Sat W (pts b (rdO R v at_) * (rowM v xs * F)) w

theorem beginM_no {endl : Int} {R : Rs} (h : R.stopped = true ∨ R.ended = true ∨ R.text = []) : beginM endl R = (false, { R with ended := true }) := by rw [beginM, if_pos h]
theorem beginM_yes {endl : Int} {R : Rs} (h1 : R.stopped = false) (h2 : R.ended = false) (h3 : R.text ≠ []) :
    beginM endl R = (true, { R with text := (cutAt 10 R.text).2.1, left := lineM endl (cutAt 10 R.text).1, state := 0, number := R.number + 1 }) := by
  rw [beginM, if_neg (by simp [h1, h2, h3])]

theorem Sat.drop3 {A B C : HProp} (h : Sat W (A * (B * (C * F))) w) : Sat W (A * (B * F)) w := (h.of_eq (show _ = C * (A * (B * F)) by ac_rfl)).r

/-- '[]byte(s)' -/
theorem Sat.conv {A : HProp} (l : List UInt8) (h : Sat W A w) (hl : l.length ≤ 4000000000) : ∃ a c w2, (convert 9 38 (.string ⟨l.toArray⟩)).run Tryd.prog w = .ok (.slice a l.length c) w2 ∧ Sat W (rowM (.slice a l.length c) l * A) w2 := by
  have hs : (⟨l.toArray⟩ : ByteArray).size = l.length := str_size l
  have hr := run_bytes_of_string (P := Tryd.prog) w 9 38 5 ⟨l.toArray⟩ Tryd.underlying9 Tryd.underlying38 Tryd.underlying5
  rw [hs] at hr
  exact ⟨_, _, _, hr, h.rowM_new (grownCap_ge w l.length 0 _) (grownCap_le_maxLen w l.length 0 _ (by simp [maxLen]; omega))⟩


set_option maxRecDepth 100000 in
theorem begin_any (R : Rs) (endl : Int) (b : Nat) (h : RdAt W F b R w) (ht : R.text.length ≤ 65536) (hn : R.number ≤ 1000000000) :
    Calls Tryd.prog 27 #[.pointer (some ⟨b, 0, none⟩), .int .i64 endl] w fun e w' => e = .returned (.bool (beginM endl R).1) ∧ RdAt W F b (beginM endl R).2 w' := by
  obtain ⟨i0, hi, hz0, hz1, hz2⟩ := info_parts3 info_u8
  have HI := Lib.hid hi
  have HZ0 := Lib.hid hz0
  have HZ1 := Lib.hid hz1
  have HZ2 := Lib.hid hz2
  clear hi hz0 hz1 hz2
  obtain ⟨v, xs, at_, h1, h2, h3, hs⟩ := h
  have HS := Lib.hid hs
  have c0 := hs.cell (i := 0) rfl
  have c1 := hs.cell (i := 1) rfl
  have c2 := hs.cell (i := 2) rfl
  have c3 := hs.cell (i := 3) rfl
  have c4 := hs.cell (i := 4) rfl
  have c5 := hs.cell (i := 5) rfl
  have c6 := hs.cell (i := 6) rfl
  have c7 := hs.cell (i := 7) rfl
  have f2 := hs.free (i := 2)
  have f3 := hs.free (i := 3)
  have f4 := hs.free (i := 4)
  have f5 := hs.free (i := 5)
  have f6 := hs.free (i := 6)
  have f7 := hs.free (i := 7)
  have lb := hs.lt
  have HC := Lib.hid (cutS_any R.text 10)
  have htl := toList_mk R.text
  have HL := Lib.hid (And.intro h1 (And.intro h2 h3))
  clear hs h1 h2 h3
  obtain ⟨text, left, state, number, stopped, ended⟩ := R
  simp only at *
  cases stopped
  · cases ended
    · by_cases he : text = []
      · have HB := Lib.hid (beginM_no (endl := endl) (R := ⟨text, left, state, number, false, false⟩) (.inr (.inr he)))
        have hb : (text == []) = true := by simp [he]
        clear he
        go_enter Tryd.func27, Tryd.ntmps27
        go_wp2
        go_ret
        exact ⟨by rw [HB.out]; rfl, by rw [HB.out]; exact ⟨v, xs, at_, HL.out.1, HL.out.2.1, HL.out.2.2, HS.out.set⟩⟩
      · have HB := Lib.hid (beginM_yes (endl := endl) (R := ⟨text, left, state, number, false, false⟩) rfl rfl he)
        have hb : (text == []) = false := by simp [he]
        obtain ⟨l1, hl1⟩ : ∃ l1, (cutAt 10 text).1 = l1 := ⟨_, rfl⟩
        obtain ⟨l2, hl2⟩ : ∃ l2, (cutAt 10 text).2.1 = l2 := ⟨_, rfl⟩
        obtain ⟨l3, hl3⟩ : ∃ l3, (cutAt 10 text).2.2 = l3 := ⟨_, rfl⟩
        have hcl := cutAt_len 10 text
        rw [hl1, hl2] at hcl
        rw [hl1, hl2] at HB
        rw [hl1, hl2, hl3] at HC
        have HT := Lib.hid (trim_any l1)
        obtain ⟨l4, hl4⟩ : ∃ l4, Lib.trimRightB l1 32 = l4 := ⟨_, rfl⟩
        rw [hl4] at HT
        have HL4 := Lib.hid hl4
        clear he hl1 hl2 hl3 hl4
        go_enter Tryd.func27, Tryd.ntmps27
        go_wp2_with fail
        refine Calls.mono (HC.out _ (by omega)) ?_
        rintro e w' ⟨rfl, q, rfl⟩
        go_wp2_with fail
        refine Calls.mono (HT.out _ (by omega)) ?_
        rintro e w' ⟨rfl, rfl⟩
        have h4l : l4.length ≤ l1.length := by rw [← HL4.out]; exact trim_len l1 32
        obtain ⟨a4, k4, w2, hcv, hs2⟩ := Sat.conv l4 (HS.out.drewN (n := q) |>.set (i := 3) (v := (.string ⟨l2.toArray⟩))) (by omega)
        have HS2 := Lib.hid hs2
        clear c0 c1 c2 c3 c4 c5 c6 c7 f2 f3 f4 f5 f6 f7 lb
        have c0 := hs2.r.cell (i := 0) rfl
        have c1 := hs2.r.cell (i := 1) rfl
        have c2 := hs2.r.cell (i := 2) rfl
        have c3 := hs2.r.cell (i := 3) rfl
        have c4 := hs2.r.cell (i := 4) rfl
        have c5 := hs2.r.cell (i := 5) rfl
        have c6 := hs2.r.cell (i := 6) rfl
        have c7 := hs2.r.cell (i := 7) rfl
        have f2 := hs2.r.free (i := 2)
        have f3 := hs2.r.free (i := 3)
        have f4 := hs2.r.free (i := 4)
        have f5 := hs2.r.free (i := 5)
        have f6 := hs2.r.free (i := 6)
        have f7 := hs2.r.free (i := 7)
        have lb := hs2.r.lt
        clear hs2
        by_cases hen : 0 ≤ endl ∧ endl ≤ 255
        · obtain ⟨e1, e2⟩ := hen
          have HLN := Lib.hid (show lineM endl l1 = l4 ++ [UInt8.ofNat endl.toNat] by rw [lineM, if_pos ⟨e1, e2⟩, HL4.out])
          have HEN := Lib.hid (show ((UInt8.ofNat endl.toNat).toNat : Int) = endl by simp [UInt8.toNat_ofNat']; omega)
          have hwr : IntKind.u8.wrap endl = endl := IntWalk.u8_in _ (by omega)
          have HA := Lib.hid (((Sat.drop3 (HS2.out.rot.set (i := 4) (v := .slice a4 l4.length k4))).allocD (o := .cells #[.int .u8 endl] 5)).rot)
          go_wp2_with (at_builtin; refine wpList_append_M rfl _ _ 38 rfl i0 Tryd.underlying38 HI.out HZ0.out HZ1.out HZ2.out rfl HA.out ⟨w2.heap.size, 0, none⟩ 1 (UInt8.ofNat endl.toNat) rfl ?_ ?_ ?_)
          · rw [HEN.out]; go_simp
          · omega
          intro v5 w4 h6
          have H6 := Lib.hid h6
          clear c0 c1 c2 c3 c4 c5 c6 c7 f2 f3 f4 f5 f6 f7 lb
          have c0 := h6.r.cell (i := 0) rfl
          have c1 := h6.r.cell (i := 1) rfl
          have c2 := h6.r.cell (i := 2) rfl
          have c3 := h6.r.cell (i := 3) rfl
          have c4 := h6.r.cell (i := 4) rfl
          have c5 := h6.r.cell (i := 5) rfl
          have c6 := h6.r.cell (i := 6) rfl
          have c7 := h6.r.cell (i := 7) rfl
          have f2 := h6.r.free (i := 2)
          have f3 := h6.r.free (i := 3)
          have f4 := h6.r.free (i := 4)
          have f5 := h6.r.free (i := 5)
          have f6 := h6.r.free (i := 6)
          have f7 := h6.r.free (i := 7)
          have lb := h6.r.lt
          obtain ⟨a5, k5, rfl, -⟩ := h6.rowM_val
          rw [List.length_append, List.length_singleton] at H6
          clear h6
          go_wp2
          go_ret
          refine ⟨by rw [HB.out]; rfl, ?_⟩
          rw [HB.out, HLN.out]
          exact ⟨_, _, 0, rfl, Nat.zero_le _, by simp; omega, (((H6.out.rot.set (i := 4)).set (i := 5)).set (i := 6)).set (i := 7)⟩
        · have HLN := Lib.hid (show lineM endl l1 = l4 by rw [lineM, if_neg hen, HL4.out])
          have HA := Lib.hid (Sat.drop3 (HS2.out.rot.set (i := 4) (v := .slice a4 l4.length k4)))
          have hcs : endl < 0 ∨ (0 ≤ endl ∧ 255 < endl) := by omega
          clear hen
          rcases hcs with hcs | ⟨hcs, hcs'⟩
          · have e1 : ¬ 0 ≤ endl := by omega
            go_wp2
            go_ret
            refine ⟨by rw [HB.out]; rfl, ?_⟩
            rw [HB.out, HLN.out]
            exact ⟨_, _, 0, rfl, Nat.zero_le _, by simp; omega, ((HA.out.set (i := 5)).set (i := 6)).set (i := 7)⟩
          · have e1 : ¬ endl ≤ 255 := by omega
            go_wp2
            go_ret
            refine ⟨by rw [HB.out]; rfl, ?_⟩
            rw [HB.out, HLN.out]
            exact ⟨_, _, 0, rfl, Nat.zero_le _, by simp; omega, ((HA.out.set (i := 5)).set (i := 6)).set (i := 7)⟩
    · have HB := Lib.hid (beginM_no (endl := endl) (R := ⟨text, left, state, number, false, true⟩) (.inr (.inl rfl)))
      go_enter Tryd.func27, Tryd.ntmps27
      go_wp2
      go_ret
      exact ⟨by rw [HB.out]; rfl, by rw [HB.out]; exact ⟨v, xs, at_, HL.out.1, HL.out.2.1, HL.out.2.2, HS.out.set⟩⟩
  · have HB := Lib.hid (beginM_no (endl := endl) (R := ⟨text, left, state, number, true, ended⟩) (.inl rfl))
    go_enter Tryd.func27, Tryd.ntmps27
    go_wp2
    go_ret
    exact ⟨by rw [HB.out]; rfl, by rw [HB.out]; exact ⟨v, xs, at_, HL.out.1, HL.out.2.1, HL.out.2.2, HS.out.set⟩⟩

end Go.Proofs.YtpcdbeicpmjooaaDoor
