/-
  The laws CodesBlanks, CodesLetters, CodesNil, walked. Conditions: those that each theorem names.
-/
import Derived.Test.YtkfobimigiaknaaDoorCodO
namespace Go.Proofs.YtkfobimigiaknaaDoor
open Go.RowKit Go.Sp
variable {W w w' : World} {F F' : HProp}

set_option maxRecDepth 1000000 in
set_option maxHeartbeats 4000000 in
theorem blanks_any (C : List Int) (hC : C.length = 256) (endl : Int) (text : List UInt8) (h : Sat W F w) :
    Calls Tryd.prog 4 #[(.string ⟨text.toArray⟩), codesV C, .int .i64 endl] w fun e w' => e = .returned (.bool true) ∧ Sat W F w' := by
  have h0 := h.alloc (codesO C 22)
  have HA := Lib.hid (all_any C hC endl text h0)
  have hblk := h0.blk
  have HBB := Lib.hid (allM_noBB C endl text)
  have HER := Lib.hid (allM_err C endl text)
  have HL := Lib.hid (fun w' (h : Sat W F w') => live_any h)
  have HC := Lib.hid hC
  obtain ⟨r, hr⟩ : ∃ r, allM C endl text = r := ⟨_, rfl⟩
  rw [hr] at HA HBB HER
  obtain ⟨l, k⟩ := r
  simp only at HBB HER
  obtain ⟨bc, hbc⟩ : ∃ bc, w.heap.size = bc := ⟨_, rfl⟩
  clear h h0 hC hr
  rw [hbc] at HA hblk
  go_enter Tryd.func4, Tryd.ntmps4
  go_wp2_with fail
  refine wp_load_row 22 (.tmp 4) (by rfl) bc (by rfl) _ _ _ _ hblk Tryd.underlying22 (by rfl) ?_ ?_
  · rw [size_codes]; simp [HC.out]
  clear hblk
  go_wp2_with fail
  refine Calls.mono HA.out ?_
  rintro e w1 ⟨v, rfl, h1⟩
  have H1 := Lib.hid h1
  have H2 := Lib.hid h1.r.r
  obtain ⟨va, vc, rfl, hvc⟩ := (rowT_rd h1).capd
  clear h1 hbc
  by_cases hk : k = 0
  · subst hk
    go_wp2_with (go_at_call 16; refine Calls.mono (num_any _ _) ?_; rintro e w' ⟨rfl, rfl⟩)
    have HRD := Lib.hid (rowT_rd H1.out)
    go_loopg [9] l.length (fun g s9 wx => ∃ i : Nat, i ≤ l.length ∧ g = l.length - i ∧ s9 = .int .i64 ((i : Int) + 1) ∧ wx = w1)
    case atStart => exact ⟨0, by omega, rfl, rfl, rfl⟩
    case round =>
      obtain ⟨i, hi, rfl, rfl, rfl⟩ := hrel
      have hlen := HRD.out.le
      by_cases hlt : i + 1 < l.length
      · obtain ⟨b, off, rfl, ⟨a0, a1, a2⟩, hb⟩ := HRD.out.at (i := i) (by omega)
        obtain ⟨b', off', hbb, ⟨b0, b1, b2⟩, hb'⟩ := HRD.out.at (i := i + 1) (by omega)
        cases hbb
        have HX := Lib.hid (HBB.out i hlt)
        obtain ⟨x, hx⟩ : ∃ x, l[i + 1].cat = x := ⟨_, rfl⟩
        obtain ⟨y, hy⟩ : ∃ y, (l[i]'(by omega)).cat = y := ⟨_, rfl⟩
        rw [hx] at b0
        rw [hy] at a0
        rw [hx, hy] at HX
        clear hx hy a1 a2 b1 b2
        have i1 : (i : Int) + 1 < (l.length : Int) := by omega
        have i2 : (i : Int) < (l.length : Int) := by omega
        have i3 : (0 : Int) ≤ (i : Int) + 1 := by omega
        have i4 : ((i : Int) + 1).toNat = i + 1 := by omega
        by_cases hx : x = 10
        · have q1 : (x == 10) = true := by simp [hx]
          have q2 : (y == 10) = false := by
            rw [beq_eq_false_iff_ne]
            exact fun h => HX.out ⟨hx, h⟩
          clear hx
          go_wp2
          go_roundg (l.length - (i + 1))
          case measure => omega
          case rel => exact ⟨i + 1, by omega, rfl, by go_num, rfl⟩
        · have q1 : (x == 10) = false := by simpa using hx
          clear hx
          go_wp2
          go_roundg (l.length - (i + 1))
          case measure => omega
          case rel => exact ⟨i + 1, by omega, rfl, by go_num, rfl⟩
      · have i1 : ¬ (i : Int) + 1 < (l.length : Int) := by omega
        go_wp2_with fail
        refine Calls.mono (HL.out _ H2.out) ?_
        rintro e w2 ⟨rfl, h2⟩
        go_wp2
        go_ret
        exact ⟨rfl, h2⟩
  · have q : (k != 0) = true := by simpa using hk
    have hl : l = [] := HER.out hk
    subst hl
    go_wp2_with (go_at_call 16; refine Calls.mono (num_any _ _) ?_; rintro e w' ⟨rfl, rfl⟩)
    refine Calls.mono (HL.out _ H2.out) ?_
    rintro e w2 ⟨rfl, h2⟩
    go_wp2
    go_ret
    exact ⟨rfl, h2⟩

end Go.Proofs.YtkfobimigiaknaaDoor
