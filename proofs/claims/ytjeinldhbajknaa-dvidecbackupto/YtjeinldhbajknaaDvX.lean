
/-
  The law's live answer. Conditions: those that each theorem names.
-/
import Derived.Test.YtjeinldhbajknaaDvU
import Derived.Test.YtjeinldhbajknaaDvW
namespace Go.Proofs.Ytjeinldhbajknaa
open Go.RowKit Go.Sp Go.Conc
variable {W w w' : World} {A G : HProp}

theorem _root_.Go.Sp.Sat.thru (hG : Sat W G w) (h : Sat w (own w) w') : Sat W G w' := by
  have h2 := Sat.frame hG (A := emp) (h.of_eq emp_star.symm)
  rwa [emp_star] at h2
theorem rowB_rd {v : Value} {l : List UInt8} (h : Sat W (rowB v l * A) w) : Rd w v l.length 1 (l.map byteV) := Sat.rd h
theorem num_any (n : Int) (w : World) : Calls Try.prog 10 #[.int .i64 n] w fun e w' => e = .returned (.int .i64 n) ∧ w = w' := by
  go_enter Try.func10, Try.ntmps10
  go_wp2
  go_ret
  exact ⟨rfl, rfl⟩
theorem least_err : errM leastL = 0 ∧ (opsM leastL).length = 3 ∧ (postM leastL).getD 3 0 = 1000 ∧ errM (leastL.take 55) = 240 := by
  have h1 := least_some
  have h2 := least_short
  cases hh : wholeM [] leastL with
  | none => rw [hh] at h1; cases h1
  | some F =>
    rw [hh] at h1
    simp only [Option.map_some, Option.some.injEq, Prod.mk.injEq] at h1
    have e1 : ¬ 1048576 < leastL.length := by decide
    have e2 : ¬ 1048576 < (leastL.take 55).length := by decide
    refine ⟨?_, ?_, ?_, ?_⟩
    · unfold errM; rw [if_neg e1, hh]; rfl
    · unfold opsM fileM; rw [if_neg e1, hh]; exact h1.1
    · unfold postM fileM; rw [if_neg e1, hh]; exact h1.2
    · unfold errM; rw [if_neg e2, if_neg (by rw [h2]; simp)]

set_option maxRecDepth 100000 in
set_option maxHeartbeats 4000000 in
theorem live_any (h : Sat W A w) : Calls Try.prog 12 #[] w fun e w' => e = .returned (.bool true) ∧ Sat W A w' := by
  have HL := Lib.hid (least_any h)
  obtain ⟨le1, le2, le3, le4⟩ := least_err
  have HE1 := Lib.hid le1
  have HE2 := Lib.hid le2
  have HE3 := Lib.hid le3
  have HE4 := Lib.hid le4
  clear h le1 le2 le3 le4
  go_enter Try.func12, Try.ntmps12
  go_wp2_with fail
  refine Calls.mono HL.out ?_
  rintro e w1 ⟨v, rfl, h1⟩
  obtain ⟨a, cap, hv, hcap, hat⟩ := rowB_val h1
  subst hv
  have HLA := Lib.hid (last_any (rowB_rd h1))
  have H1 := Lib.hid h1
  clear h1 HL hat
  go_wp2_with fail
  with_reducible refine Calls.mono HLA.out ?_
  rintro e w2 ⟨rfl, h2⟩
  have h3 := H1.out.thru h2
  rw [HE1.out]
  obtain ⟨p3, p4, p5, p6, hpt⟩ : ∃ p4 p5 p6 p7, tailV (postM leastL) = .agg #[.int .i64 1000, .int .i64 p4, .int .i64 p5, .int .i64 p6, .int .i64 p7] := ⟨_, _, _, _, by unfold tailV; rw [HE3.out]⟩
  rw [hpt]
  have h4 := h3.alloc (.cells #[.int .i64 1000, .int .i64 p3, .int .i64 p4, .int .i64 p5, .int .i64 p6] 39)
  obtain ⟨b2, hb2⟩ : ∃ b2, w2.heap.size = b2 := ⟨_, rfl⟩
  rw [hb2] at h4
  obtain ⟨W4, hW4⟩ : ∃ W4, w2.alloc (.cells #[.int .i64 1000, .int .i64 p3, .int .i64 p4, .int .i64 p5, .int .i64 p6] 39) = W4 := ⟨_, rfl⟩
  rw [hW4] at h4
  have HO := Lib.hid (ops_any (rowB_rd h4.rot))
  have H4 := Lib.hid h4
  have HW4 := Lib.hid hW4
  clear h2 h3 h4 HLA hpt hW4
  go_wp2_with fail
  rw [HW4.out]
  with_reducible refine Calls.mono HO.out ?_
  rintro e w5 ⟨V, ov, hV, rfl, h5⟩
  have h6 := Sat.frame H4.out (A := row ov V.length 33 4 (flatO V) * argsH V) (h5.of_eq (by ac_rfl))
  have hvl : V.length = 3 := by
    have := congrArg List.length hV
    rw [HE2.out, List.length_map] at this
    exact this
  obtain ⟨oa, oc, hov, -⟩ := h5.row_val
  rw [hvl] at hov
  subst hov
  rw [HE1.out]
  have h7 := h6.of_eq (show _ = pts b2 (.cells #[.int .i64 1000, .int .i64 p3, .int .i64 p4, .int .i64 p5, .int .i64 p6] 39) * (rowB (.slice a leastL.length cap) leastL * (A * (row (.slice oa 3 oc) V.length 33 4 (flatO V) * argsH V))) by ac_rfl)
  have c0 := h7.cell (i := 0) rfl
  have HCK := Lib.hid (check_any (v := .slice a 55 cap) (l := leastL.take 55) (w := w5) (by
    obtain ⟨r1, r2, a', cap', e, r3⟩ := rowB_rd h7.r
    cases e
    exact ⟨rfl, by decide, a, cap, rfl, fun j u hj => r3 j u (by
      rw [List.map_take, List.getElem?_take] at hj
      split at hj
      · exact hj
      · cases hj)⟩))
  have H7 := Lib.hid h7
  have hl5 : ((leastL.length : Nat) : Int) = 56 := rfl
  clear h5 h6 h7 HO H4 HW4 hV hvl
  go_wp2_with (first | (go_at_call 10; with_reducible refine Calls.mono (num_any _ _) ?_; rintro e _ ⟨rfl, rfl⟩) | fail)
  with_reducible refine Calls.mono HCK.out ?_
  rintro e w6 ⟨rfl, h8⟩
  have h9 := H7.out.thru h8
  rw [HE4.out]
  have H9 := Lib.hid (h9.r.r.l)
  clear h8 h9 HCK H7 c0
  go_wp2_with (first | (go_at_call 10; with_reducible refine Calls.mono (num_any _ _) ?_; rintro e _ ⟨rfl, rfl⟩) | fail)
  go_ret
  exact ⟨rfl, H9.out⟩

end Go.Proofs.Ytjeinldhbajknaa
