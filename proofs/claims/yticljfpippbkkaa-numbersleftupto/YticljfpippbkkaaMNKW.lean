import Derived.Test.YticljfpippbkkaaMNS
/-
  What must come (the law's knows). Conditions: those that each theorem names.
-/
namespace Go.Proofs.Yticljfpippbkkaa
open Go.RowKit Go.Sp
variable {W w w' : World} {A : HProp} {bx bs bt N : Nat} {L : List Tok} {S : TabS}

theorem num_any (n : Int) (w : World) : Calls Try.prog 18 #[.int .i64 n] w fun e w' => e = .returned (.int .i64 n) ∧ w = w' := by
  go_enter Try.func18, Try.ntmps18
  go_wp2
  go_ret
  exact ⟨rfl, rfl⟩
theorem tnew_any (h : LsAt W A bs L w) : Calls Try.prog 17 #[] w fun e w' => ∃ bt, e = .returned (.pointer (some ⟨bt, 0, none⟩)) ∧ LtAt W A bs bt L 0 newS w' := by
  obtain ⟨Y, h1, back⟩ := h.focus
  refine (new_any h1).mono fun e w' ⟨bt, he, ht⟩ => ⟨bt, he, ?_⟩
  obtain ⟨Z, h2, back2⟩ := ht.focus
  exact ⟨Z, back _ _ (h2.of_eq (by ac_rfl)), back2⟩
theorem LtAt.lst (h : LtAt W A bs bt L N S w) : ∃ B, LsAt W (A * B) bs L w ∧ ∀ (A' : HProp) (L' : List Tok) (w' : World), LsAt W (A' * B) bs L' w' → LtAt W A' bs bt L' N S w' := by
  obtain ⟨Y, h1, h2⟩ := h
  exact ⟨Y, h1, fun A' L' w' h => ⟨Y, h, h2⟩⟩
theorem LtAt.less {B : HProp} (h : LtAt W (B * A) bs bt L N S w) : LtAt W A bs bt L N S w := by
  obtain ⟨Y, h1, back⟩ := h.focus
  exact back _ _ (h1.of_eq (by ac_rfl) : Sat W (B * (A * Y)) w).r
theorem ltrest_any (hl : L.length ≤ 2000000) (h : LtAt W A bs bt L N S w) : Calls Try.prog 10 #[.pointer (some ⟨bs, 0, none⟩)] w fun e w' => ∃ u, e = .returned u ∧ LtAt W (rowT u L * A) bs bt L N S w' := by
  obtain ⟨B, h1, back⟩ := h.lst
  exact (lsrest_any hl h1).mono fun e w' ⟨u, he, hw⟩ => ⟨u, he, back _ _ _ (hw.of_eq (by ac_rfl))⟩
def txtI : List Tok := [32, 45, 45, 49, 50, 32, 120].map tokOf
def txtD : List Tok := [49, 105, 110].map tokOf
theorem know_int : integerM newS txtI = (12, 0, [tokOf 120]) := by kernel_rfl
theorem know_dim : dimenM newS txtD = (4736286, 0, []) := by kernel_rfl
theorem know_unit : UnitP newS (factorM newS (signsM txtD false).1 (signsM txtD false).2).1 (factorM newS (signsM txtD false).1 (signsM txtD false).2).2.2.2 := .inr (.inr (by kernel_rfl))
set_option maxRecDepth 100000 in
set_option maxHeartbeats 8000000 in
theorem nknows_any (h : Sat W A w) : Calls Try.prog 11 #[] w fun e w' => e = .returned (.bool true) ∧ Sat W A w' := by
  have HT := Lib.hid (text_any [32, 45, 45, 49, 50, 32, 120] (by decide) h)
  clear h
  go_enter Try.func11, Try.ntmps11
  go_wp2_with fail
  with_reducible refine Calls.mono HT.out ?_
  rintro e w1 ⟨v, rfl, h1⟩
  have HL := Lib.hid (glist_any (v := v) (L := txtI) (A := rowT v txtI * A) (fun w' h => rowT_rd h) (by decide) h1)
  clear h1 HT
  go_wp2_with fail
  with_reducible refine Calls.mono HL.out ?_
  rintro e w2 ⟨b1, rfl, h2⟩
  have HN := Lib.hid (tnew_any h2.less)
  clear h2 HL
  go_wp2_with fail
  with_reducible refine Calls.mono HN.out ?_
  rintro e w3 ⟨bt, rfl, h3⟩
  have HI := Lib.hid (int_any (by decide) h3)
  rw [know_int] at HI
  clear h3 HN
  go_wp2_with fail
  with_reducible refine Calls.mono HI.out ?_
  rintro e w4 ⟨rfl, h4⟩
  obtain ⟨Y1, h5, back1⟩ := h4.focus
  have BACK1 := Lib.hid back1
  have HT := Lib.hid (text_any [49, 105, 110] (by decide) h5)
  clear h4 h5 back1 HI
  go_wp2_with fail
  with_reducible refine Calls.mono HT.out ?_
  rintro e w5 ⟨v2, rfl, h1⟩
  have HL := Lib.hid (glist_any (v := v2) (L := txtD) (A := rowT v2 txtD * (A * Y1)) (fun w' h => rowT_rd h) (by decide) h1)
  clear h1 HT
  go_wp2_with fail
  with_reducible refine Calls.mono HL.out ?_
  rintro e w6 ⟨b2, rfl, h2⟩
  have HN := Lib.hid (tnew_any h2.less)
  clear h2 HL
  go_wp2_with fail
  with_reducible refine Calls.mono HN.out ?_
  rintro e w7 ⟨bt2, rfl, h3⟩
  have HD := Lib.hid (ndimen_any (P := UnitP newS) (fun bx => unitC_some) know_unit (by decide) h3)
  rw [know_dim] at HD
  clear h3 HN
  go_wp2_with fail
  with_reducible refine Calls.mono HD.out ?_
  rintro e w8 ⟨rfl, h4⟩
  obtain ⟨Y2, h5, -⟩ := h4.focus
  have H1 := Lib.hid (BACK1.out (A * Y2) _ (h5.of_eq (by ac_rfl)))
  have HR := Lib.hid (ltrest_any (by decide) H1.out)
  clear h4 h5 HD BACK1
  go_wp2_with fail
  with_reducible refine Calls.mono (num_any _ _) ?_
  rintro e w9 ⟨rfl, rfl⟩
  go_wp2_with fail
  with_reducible refine Calls.mono (num_any _ _) ?_
  rintro e w10 ⟨rfl, rfl⟩
  go_wp2_with fail
  with_reducible refine Calls.mono HR.out ?_
  rintro e w11 ⟨u, rfl, h6⟩
  obtain ⟨ua, uc, hu⟩ := (rowT_rd (h6.sat.of_eq rfl)).val
  subst hu
  have H6 := Lib.hid h6.less.sat.l
  clear h6 HR H1
  simp only [List.length_singleton]
  go_wp2
  go_ret
  exact ⟨rfl, H6.out⟩

end Go.Proofs.Yticljfpippbkkaa
