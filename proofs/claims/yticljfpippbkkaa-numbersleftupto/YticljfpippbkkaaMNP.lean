import Derived.Test.YticljfpippbkkaaMNN
import Derived.Test.YticljfpippbkkaaMNH
/-
  An integer that is not of digits to the base 10, behind a scanner. Conditions: those that each theorem names.
-/
namespace Go.Proofs.Yticljfpippbkkaa
open Go.RowKit Go.Sp
variable {W w w' : World} {A : HProp} {bx bs bt N : Nat} {L : List Tok} {S : TabS}

set_option maxRecDepth 100000 in
set_option maxHeartbeats 4000000 in
theorem plain_any (hl : L.length ≤ 2000000) (h : ScAt W A bx bs bt L N S w) :
    Calls Try.prog 48 #[.pointer (some ⟨bx, 0, none⟩)] w fun e w' => e = .returned (.tuple #[.int .i64 (plainM S L).1, .bool (plainM S L).2.1, .int .i64 (plainM S L).2.2.1]) ∧ ScAt W A bx bs bt (plainM S L).2.2.2 N S w' := by
  obtain ⟨c0, -, lb⟩ := h.cells
  have hm1 := fun n => m_next n bs w
  have HN1 := Lib.hid (scnext_any h)
  obtain ⟨r, hr⟩ : ∃ r, plainM S L = r := ⟨_, rfl⟩
  rw [hr]
  have HR := Lib.hid hr
  clear h hr
  go_enter Try.func48, Try.ntmps48
  go_wp2_with fail
  with_reducible refine Calls.mono HN1.out ?_
  rintro e w2 ⟨rfl, h2⟩
  clear c0 lb hm1 HN1
  cases L with
  | nil =>
    have H2 := Lib.hid (h2.ext ((Ext.refl _).alloc (o := tok0.box)))
    clear h2
    go_wp2
    have hr := HR.out
    subst hr
    exact bodyPost_ret (v := .tuple #[.int .i64 0, .bool false, .int .i64 0]) (by unfold results; go_simp) rfl ⟨rfl, H2.out⟩
  | cons x L =>
    simp only [List.headD_cons, List.isEmpty_cons, Bool.not_false, List.tail_cons, List.length_cons] at *
    have hr := HR.out
    rw [plainM] at hr
    have HR1 := Lib.hid hr
    clear HR hr
    go_upto_region 2 with fail
    obtain ⟨w3, hw3⟩ : ∃ w3, w2.alloc x.box = w3 := ⟨_, rfl⟩
    obtain ⟨bk, hbk⟩ : ∃ bk, w2.heap.size = bk := ⟨_, rfl⟩
    have hx3 := h2.alloc x.box
    rw [hw3, hbk] at hx3
    rw [show w2.alloc (.cells #[.int .i64 x.cat, .int .u8 x.chr.toNat, .string x.name] 28) = w3 from hw3, hbk]
    have d0 := hx3.sat.cell (i := 0) rfl
    have d1 := hx3.sat.cell (i := 1) rfl
    have d2 := hx3.sat.cell (i := 2) rfl
    have ld := hx3.sat.lt
    have HX3 := Lib.hid hx3
    clear hx3 hw3 hbk h2
    have HME := Lib.hid (meaning_any x HX3.out)
    go_wp2_with fail
    with_reducible refine Calls.mono HME.out ?_
    rintro e w4 ⟨rfl, h4⟩
    obtain ⟨⟨m1, m2, m3, m4, m5⟩, hmm⟩ : ∃ m, meansM S x = m := ⟨_, rfl⟩
    have HMM := Lib.hid hmm
    rw [hmm]
    clear hmm
    go_upto_region 5 with fail
    have hx5 := h4.alloc (.cells #[.int .i64 m1, .int .i64 m2, .int .i64 m3, .int .i64 m4, .string m5] 103)
    obtain ⟨w5, hw5⟩ : ∃ w5, w4.alloc (.cells #[.int .i64 m1, .int .i64 m2, .int .i64 m3, .int .i64 m4, .string m5] 103) = w5 := ⟨_, rfl⟩
    obtain ⟨bm, hbm⟩ : ∃ bm, w4.heap.size = bm := ⟨_, rfl⟩
    rw [hw5, hbm] at hx5
    rw [hw5, hbm]
    clear d0 d1 d2 ld HX3 hw5 hbm h4
    have g0 := hx5.sat.cell (i := 0) rfl
    have g1 := hx5.sat.cell (i := 1) rfl
    have g2 := hx5.sat.cell (i := 2) rfl
    have g4 := hx5.sat.cell (i := 4) rfl
    have lg := hx5.sat.lt
    have d0 := hx5.sat.r.cell (i := 0) rfl
    have d1 := hx5.sat.r.cell (i := 1) rfl
    have d2 := hx5.sat.r.cell (i := 2) rfl
    have ld := hx5.sat.r.lt
    have HX5 := Lib.hid hx5
    clear hx5
    clear HME
    by_cases h3 : m1 = 3
    · subst h3
      have hr := HR1.out
      rw [HMM.out, if_pos rfl] at hr
      subst hr
      go_wp2
      exact bodyPost_ret (v := .tuple #[.int .i64 m3, .bool true, .int .i64 0]) (by unfold results; go_simp) rfl ⟨rfl, HX5.out.less.less⟩
    · have hr := HR1.out
      rw [HMM.out, if_neg h3] at hr
      have HR2 := Lib.hid hr
      have n1 : (m1 == 3) = false := by rw [beq_eq_false_iff_ne]; exact h3
      clear hr HR1
      obtain ⟨T, hT⟩ : ∃ T, otherB x 96 = T := ⟨_, rfl⟩
      have HT96 := Lib.hid hT
      clear hT
      go_wp2_with fail
      with_reducible refine Calls.mono (other_at x 96 96 rfl) ?_
      rintro e w6 ⟨rfl, hex⟩
      rw [HT96.out]
      have HX6 := Lib.hid (HX5.out.ext hex)
      have d0 := hex.cell d0
      have d1 := hex.cell d1
      have d2 := hex.cell d2
      clear hex HX5
      cases T with
      | true =>
        have hr := HR2.out
        rw [if_pos HT96.out] at hr
        have hQ := Lib.hid (quoted_any (L := L) (by omega) HX6.out)
        obtain ⟨⟨q1, q2, q3⟩, hq⟩ : ∃ q, quotedM L = q := ⟨_, rfl⟩
        rw [hq] at hr hQ
        have HR2 := Lib.hid hr
        clear hr hq g0 g1 g2 g4 lg HX6
        clear d0 d1 d2 ld
        go_wp2_with fail
        with_reducible refine Calls.mono hQ.out ?_
        rintro e w8 ⟨rfl, h8⟩
        have H8 := Lib.hid h8
        clear h8 hQ
        go_wp2
        have hr := HR2.out
        subst hr
        exact bodyPost_ret (v := .tuple #[.int .i64 q1, .bool true, .int .i64 q2]) (by unfold results; go_simp) rfl ⟨rfl, H8.out.less.less⟩
      | false =>
        have hr := HR2.out
        rw [if_neg (by rw [HT96.out]; simp)] at hr
        have HR2 := Lib.hid hr
        clear hr
        obtain ⟨T, hT⟩ : ∃ T, otherB x 39 = T := ⟨_, rfl⟩
        have HT39 := Lib.hid hT
        clear hT
        go_wp2_with fail
        with_reducible refine Calls.mono (other_at x 39 39 rfl) ?_
        rintro e w7 ⟨rfl, hex⟩
        rw [HT39.out]
        have HX7 := Lib.hid (HX6.out.ext hex)
        have d0 := hex.cell d0
        have d1 := hex.cell d1
        have d2 := hex.cell d2
        clear hex HX6
        cases T with
        | true =>
          have hr := HR2.out
          rw [if_pos HT39.out] at hr
          have hQ := Lib.hid (based_any (L := L) 8 (.inl rfl) (by omega) HX7.out)
          obtain ⟨⟨q1, q2, q3⟩, hq⟩ : ∃ q, basedM 8 L = q := ⟨_, rfl⟩
          rw [hq] at hr hQ
          have HR2 := Lib.hid hr
          clear hr hq g0 g1 g2 g4 lg HX7
          clear d0 d1 d2 ld
          go_wp2_with fail
          with_reducible refine Calls.mono hQ.out ?_
          rintro e w8 ⟨rfl, h8⟩
          have H8 := Lib.hid h8
          clear h8 hQ
          go_wp2
          have hr := HR2.out
          subst hr
          exact bodyPost_ret (v := .tuple #[.int .i64 q1, .bool true, .int .i64 q2]) (by unfold results; go_simp) rfl ⟨rfl, H8.out.less.less⟩
        | false =>
          have hr := HR2.out
          rw [if_neg (by rw [HT39.out]; simp)] at hr
          have HR2 := Lib.hid hr
          clear hr
          obtain ⟨T, hT⟩ : ∃ T, otherB x 34 = T := ⟨_, rfl⟩
          have HT34 := Lib.hid hT
          clear hT
          go_wp2_with fail
          with_reducible refine Calls.mono (other_at x 34 34 rfl) ?_
          rintro e w8 ⟨rfl, hex⟩
          rw [HT34.out]
          have HX3 := Lib.hid (HX7.out.ext hex)
          have d0 := hex.cell d0
          have d1 := hex.cell d1
          have d2 := hex.cell d2
          clear hex HX7
          cases T with
          | true =>
            have hr := HR2.out
            rw [if_pos HT34.out] at hr
            have hQ := Lib.hid (based_any (L := L) 16 (.inr (.inr rfl)) (by omega) HX3.out)
            obtain ⟨⟨q1, q2, q3⟩, hq⟩ : ∃ q, basedM 16 L = q := ⟨_, rfl⟩
            rw [hq] at hr hQ
            have HR2 := Lib.hid hr
            clear hr hq g0 g1 g2 g4 lg HX3
            clear d0 d1 d2 ld
            go_wp2_with fail
            with_reducible refine Calls.mono hQ.out ?_
            rintro e w8 ⟨rfl, h8⟩
            have H8 := Lib.hid h8
            clear h8 hQ
            go_wp2
            have hr := HR2.out
            subst hr
            exact bodyPost_ret (v := .tuple #[.int .i64 q1, .bool true, .int .i64 q2]) (by unfold results; go_simp) rfl ⟨rfl, H8.out.less.less⟩
          | false =>
            have hr := HR2.out
            rw [if_neg (by rw [HT34.out]; simp)] at hr
            subst hr
            clear HR2 g0 g1 g2 g4 lg
            go_upto_region 16 with fail
            have HB := Lib.hid (scback_any x (by omega) HX3.out.drew)
            obtain ⟨W9, hW9⟩ : ∃ W9, w8.drew = W9 := ⟨_, rfl⟩
            rw [hW9] at HB
            obtain ⟨e0, -, -⟩ := HX3.out.drew.cells
            rw [hW9] at e0
            have e1 := (show w8.drew.cell? _ = _ from d0)
            have e2 := (show w8.drew.cell? _ = _ from d1)
            have e3 := (show w8.drew.cell? _ = _ from d2)
            rw [hW9] at e1 e2 e3
            have hm2 := fun n => m_back n bs W9
            clear d0 d1 d2 HX3
            refine wp_region_tail (fun w' => w' = W9) 5 (by kernel_rfl) (by kernel_rfl) hW9 ?_
            clear hW9
            simp only [List.take_succ_cons, List.take_zero, List.drop_succ_cons, List.drop_zero]
            iterate 5
              with_reducible refine wpQuiet_step ?_
              intro K hK
              go_simp
              first
                | (with_reducible refine hK _ ?_
                   clear hK K)
                | (refine Exists.intro _ ⟨fun w9 hw9 => ?_, ?_⟩
                   rotate_left 1
                   with_reducible refine hK _ ?_
                   clear hK K
                   rotate_left 1
                   · subst hw9; go_simp; try with_reducible rfl)
            refine wpQuiet_nil ?_
            rintro w17 rfl
            go_wp2_with fail
            with_reducible refine Calls.mono HB.out ?_
            rintro e w4 ⟨rfl, h4⟩
            have HX4 := Lib.hid h4
            clear h4 HB e0 e1 e2 e3 hm2
            go_wp2
            exact bodyPost_ret (v := .tuple #[.int .i64 0, .bool false, .int .i64 0]) (by unfold results; go_simp) rfl ⟨rfl, HX4.out.less.less⟩

end Go.Proofs.Yticljfpippbkkaa

/-
  An integer, behind a scanner, where registers are known. Conditions: those that each theorem names.
-/
namespace Go.Proofs.Yticljfpippbkkaa
open Go.RowKit Go.Sp
variable {W w w' : World} {A : HProp} {bx bs bt N : Nat} {L : List Tok} {S : TabS}

/-- what register does, for lists of at most n tokens -/
def RegC (W : World) (bx bs bt N : Nat) (S : TabS) (n : Nat) : Prop := ∀ (A : HProp) (L : List Tok) (w : World), L.length ≤ n → ScAt W A bx bs bt L N S w →
  Calls Try.prog 39 #[.pointer (some ⟨bx, 0, none⟩)] w fun e w' => e = .returned (.tuple #[.int .i64 (registerM S L).1, .int .i64 (registerM S L).2.1, .bool (registerM S L).2.2.1, .int .i64 (registerM S L).2.2.2.1]) ∧ ScAt W A bx bs bt (registerM S L).2.2.2.2 N S w'

set_option maxRecDepth 100000 in
set_option maxHeartbeats 4000000 in
theorem integer_of {n : Nat} (hn : n ≤ 2000000) (hl : L.length ≤ n) (IH : RegC W bx bs bt N S n) (h : ScAt W A bx bs bt L N S w) :
    Calls Try.prog 29 #[.pointer (some ⟨bx, 0, none⟩)] w fun e w' => e = .returned (.tuple #[.int .i64 (integerM S L).1, .int .i64 (integerM S L).2.1]) ∧ ScAt W A bx bs bt (integerM S L).2.2 N S w' := by
  have HSG := Lib.hid (signs_any (by omega) h)
  have hs1 := signs_len L false
  have HIH := Lib.hid IH
  obtain ⟨R, hR⟩ : ∃ R, integerM S L = R := ⟨_, rfl⟩
  rw [hR]
  unfold integerM at hR
  obtain ⟨⟨sm, sl⟩, hs⟩ : ∃ s, signsM L false = s := ⟨_, rfl⟩
  rw [hs] at hR HSG hs1
  simp only at hR hs1
  have hr1 := register_len S sl
  obtain ⟨⟨rc, ri, rb, re, rl⟩, hr⟩ : ∃ r, registerM S sl = r := ⟨_, rfl⟩
  rw [hr] at hR hr1
  simp only at hr1
  unfold intEnd at hR
  simp only at hR
  have HRR := Lib.hid hr
  have HR := Lib.hid hR
  clear IH h hR hs hr
  go_enter Try.func29, Try.ntmps29
  go_wp2_with fail
  with_reducible refine Calls.mono HSG.out ?_
  rintro e w2 ⟨rfl, h2⟩
  have HRG := Lib.hid (HIH.out _ sl _ (by omega) h2)
  rw [HRR.out] at HRG
  clear h2 HSG
  go_wp2_with fail
  with_reducible refine Calls.mono HRG.out ?_
  rintro e w3 ⟨rfl, h3⟩
  have HX := Lib.hid h3
  clear h3 HRG
  by_cases he : re = 0
  · subst he
    have hr := HR.out
    rw [if_neg (by simp)] at hr
    cases rb with
    | true =>
      rw [if_pos rfl] at hr
      have HW := Lib.hid (worth_any rc ri HX.out)
      have HR2 := Lib.hid hr
      clear hr HR
      generalize worthM S rc ri = wv at *
      go_wp2_with fail
      with_reducible refine Calls.mono HW.out ?_
      rintro e w4 ⟨rfl, h4⟩
      have HX := Lib.hid h4
      clear h4 HW
      go_wp2_with fail
      with_reducible refine Calls.mono (turned_any _ _ _) ?_
      rintro e w7 ⟨rfl, rfl⟩
      go_wp2
      have hr := HR2.out
      subst hr
      exact bodyPost_ret (v := .tuple #[.int .i64 (turnM wv sm), .int .i64 0]) (by unfold results; go_simp) rfl ⟨rfl, HX.out⟩
    | false =>
      rw [if_neg (by simp)] at hr
      unfold intPlain at hr
      have HPL := Lib.hid (plain_any (by omega) HX.out)
      have hpl := plain_len S rl
      obtain ⟨⟨p1, pb, pe, pl⟩, hp⟩ : ∃ p, plainM S rl = p := ⟨_, rfl⟩
      rw [hp] at hr HPL hpl
      simp only at hr hpl
      have HR2 := Lib.hid hr
      clear hr HR hp HX
      go_wp2_with fail
      with_reducible refine Calls.mono HPL.out ?_
      rintro e w4 ⟨rfl, h4⟩
      have HX := Lib.hid h4
      clear h4 HPL
      by_cases hpe : pe = 0
      · subst hpe
        cases pb with
        | true =>
          have hr := HR2.out
          rw [if_neg (by simp), if_neg (by simp)] at hr
          have HR3 := Lib.hid hr
          clear hr HR2
          go_wp2_with fail
          with_reducible refine Calls.mono (turned_any _ _ _) ?_
          rintro e w7 ⟨rfl, rfl⟩
          go_wp2
          have hr := HR3.out
          subst hr
          exact bodyPost_ret (v := .tuple #[.int .i64 (turnM p1 sm), .int .i64 0]) (by unfold results; go_simp) rfl ⟨rfl, HX.out⟩
        | false =>
          have hr := HR2.out
          rw [if_pos (by simp)] at hr
          have HBD := Lib.hid (based_any 10 (.inr (.inl rfl)) (by omega) HX.out)
          obtain ⟨⟨b1, be, bl⟩, hb⟩ : ∃ b, basedM 10 pl = b := ⟨_, rfl⟩
          rw [hb] at hr HBD
          simp only at hr
          have HR3 := Lib.hid hr
          clear hr hb HX HR2
          go_wp2_with fail
          with_reducible refine Calls.mono HBD.out ?_
          rintro e w5 ⟨rfl, h5⟩
          have HX := Lib.hid h5
          clear h5 HBD
          by_cases hbe : be = 0
          · subst hbe
            have hr := HR3.out
            rw [if_neg (by simp)] at hr
            have HR4 := Lib.hid hr
            clear hr HR3
            go_wp2_with fail
            with_reducible refine Calls.mono (turned_any _ _ _) ?_
            rintro e w7 ⟨rfl, rfl⟩
            go_wp2
            have hr := HR4.out
            subst hr
            exact bodyPost_ret (v := .tuple #[.int .i64 (turnM b1 sm), .int .i64 0]) (by unfold results; go_simp) rfl ⟨rfl, HX.out⟩
          · have hr := HR3.out
            rw [if_pos hbe] at hr
            subst hr
            have q1 : (be == 0) = false := by rw [beq_eq_false_iff_ne]; exact hbe
            have b1' : (be != 0) = true := by rw [bne_iff_ne]; exact hbe
            go_wp2
            exact bodyPost_ret (v := .tuple #[.int .i64 0, .int .i64 be]) (by unfold results; go_simp) rfl ⟨rfl, HX.out⟩
      · have hr := HR2.out
        rw [if_neg (fun h => hpe h.2), if_pos hpe] at hr
        subst hr
        have q1 : (pe == 0) = false := by rw [beq_eq_false_iff_ne]; exact hpe
        have b1' : (pe != 0) = true := by rw [bne_iff_ne]; exact hpe
        cases pb with
        | true =>
          go_wp2
          exact bodyPost_ret (v := .tuple #[.int .i64 0, .int .i64 pe]) (by unfold results; go_simp) rfl ⟨rfl, HX.out⟩
        | false =>
          go_wp2
          exact bodyPost_ret (v := .tuple #[.int .i64 0, .int .i64 pe]) (by unfold results; go_simp) rfl ⟨rfl, HX.out⟩
  · have hr := HR.out
    rw [if_pos he] at hr
    subst hr
    have q1 : (re == 0) = false := by rw [beq_eq_false_iff_ne]; exact he
    have b1' : (re != 0) = true := by rw [bne_iff_ne]; exact he
    go_wp2
    exact bodyPost_ret (v := .tuple #[.int .i64 0, .int .i64 re]) (by unfold results; go_simp) rfl ⟨rfl, HX.out⟩

end Go.Proofs.Yticljfpippbkkaa
