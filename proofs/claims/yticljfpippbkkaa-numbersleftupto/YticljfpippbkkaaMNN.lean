import Derived.Test.YticljfpippbkkaaMNH
/-
  Digits, behind a scanner. Conditions: those that each theorem names.
-/
namespace Go.Proofs.Yticljfpippbkkaa
open Go.RowKit Go.Sp
variable {W w w' : World} {A : HProp} {bx bs bt N : Nat} {L : List Tok} {S : TabS}

theorem digit_bd {x : Tok} {base d : Int} (h : digitM x base = some d) : 0 ≤ d ∧ d < 16 := by
  unfold digitM at h
  split at h
  · simp only [Option.some.injEq] at h; omega
  · split at h
    · simp only [Option.some.injEq] at h; omega
    · cases h
theorem min_bd {a : Int} (h : 0 ≤ a) : 0 ≤ minM a 1099511627776 ∧ minM a 1099511627776 ≤ 1099511627776 := by
  unfold minM
  split <;> omega
set_option maxRecDepth 100000 in
set_option maxHeartbeats 4000000 in
theorem digits_any (base : Int) (hb : base = 8 ∨ base = 10 ∨ base = 16) (hl : L.length ≤ 2000000) (h : ScAt W A bx bs bt L N S w) :
    Calls Try.prog 76 #[.pointer (some ⟨bx, 0, none⟩), .int .i64 base] w fun e w' => e = .returned (.tuple #[.int .i64 (digitsM base L 0 0).1, .int .i64 (digitsM base L 0 0).2.1]) ∧ ScAt W A bx bs bt (digitsM base L 0 0).2.2 N S w' := by
  obtain ⟨r, hr⟩ : ∃ r, digitsM base L 0 0 = r := ⟨_, rfl⟩
  rw [hr]
  have HR := Lib.hid hr
  have H := Lib.hid h
  have HBA := Lib.hid hb
  clear h hr hb
  go_enter Try.func76, Try.ntmps76
  go_wp2_with fail
  go_loopg [4, 5] (L.length + 1) (fun gg s4 s5 wx => ∃ (n k : Int) (L' : List Tok), (L'.length : Int) + k ≤ 2000000 ∧ 0 ≤ k ∧ 0 ≤ n ∧ n ≤ 1099511627776 ∧ gg = L'.length + 1 ∧ s4 = .int .i64 n ∧ s5 = .int .i64 k ∧ digitsM base L' n k = r ∧ ScAt W A bx bs bt L' N S wx)
  case atStart => exact ⟨0, 0, L, by omega, by omega, by omega, by omega, rfl, rfl, rfl, HR.out, H.out⟩
  case round =>
    obtain ⟨n, k, L', hl', hk0, hn0, hn1, rfl, rfl, rfl, hm, hx⟩ := hrel
    have HM := Lib.hid hm
    have HX := Lib.hid hx
    clear hm hx H
    obtain ⟨c0, -, lb⟩ := HX.out.cells
    have hm1 := fun n => m_next n bs wr
    have HN1 := Lib.hid (scnext_any HX.out)
    go_wp2_with fail
    with_reducible refine Calls.mono HN1.out ?_
    rintro e w2 ⟨rfl, h2⟩
    clear c0 lb hm1 HN1 HX
    cases L' with
    | nil =>
      have H2 := Lib.hid (h2.ext ((Ext.refl _).alloc (o := tok0.box)))
      clear h2
      go_wp2
      have hm := HM.out
      rw [digitsM] at hm
      subst hm
      exact bodyPost_ret (v := .tuple #[.int .i64 n, .int .i64 k]) (by unfold results; go_simp) rfl ⟨rfl, H2.out⟩
    | cons x L' =>
      simp only [List.headD_cons, List.isEmpty_cons, Bool.not_false, List.tail_cons, List.length_cons] at *
      have HX2 := Lib.hid (h2.ext ((Ext.refl _).alloc (o := x.box)))
      clear h2
      obtain ⟨T, hT⟩ : ∃ T, digitM x base = T := ⟨_, rfl⟩
      have HT := Lib.hid hT
      clear hT
      go_wp2_with fail
      with_reducible refine Calls.mono (digit_any x base) ?_
      rintro e w3 ⟨rfl, hex⟩
      rw [HT.out]
      have hn := (Sat.start w2).alloc x.box
      have d0 := hex.cell (hn.cell (i := 0) rfl)
      have d1 := hex.cell (hn.cell (i := 1) rfl)
      have d2 := hex.cell (hn.cell (i := 2) rfl)
      have HX3 := Lib.hid (HX2.out.ext hex)
      clear hn hex HX2
      cases T with
      | some d =>
        clear d0 d1 d2
        obtain ⟨hd1, hd2⟩ := digit_bd HT.out
        have hp : 0 ≤ n * base ∧ n * base ≤ 17592186044416 := by
          rcases HBA.out with rfl | rfl | rfl <;> omega
        have hm := HM.out
        rw [digitsM, HT.out] at hm
        simp only at hm
        obtain ⟨p, hpp⟩ : ∃ p, n * base = p := ⟨_, rfl⟩
        rw [hpp] at hp hm
        have HMM := Lib.hid hm
        have HMB := Lib.hid (min_bd (a := p + d) (by omega))
        have w1 : wrap64 p = p := wrap64_id _ (by omega) (by omega)
        have w2' : wrap64 (p + d) = p + d := wrap64_id _ (by omega) (by omega)
        have w3' : wrap64 (k + 1) = k + 1 := wrap64_id _ (by omega) (by omega)
        have hmn : (if 1099511627776 < p + d then 1099511627776 else p + d) = minM (p + d) 1099511627776 := rfl
        clear hm HM
        go_wp2
        go_roundg (L'.length + 1)
        case measure => omega
        case rel => exact ⟨minM (p + d) 1099511627776, k + 1, L', by omega, by omega, HMB.out.1, HMB.out.2, rfl, rfl, rfl, HMM.out, HX3.out⟩
      | none =>
        have hm := HM.out
        rw [digitsM, HT.out] at hm
        subst hm
        clear HM HR
        simp only [Option.isSome_none, Option.getD_none]
        go_upto_region 6 with fail
        have HB := Lib.hid (scback_any x (by omega) HX3.out.drew)
        obtain ⟨W9, hW9⟩ : ∃ W9, w3.drew = W9 := ⟨_, rfl⟩
        rw [hW9] at HB
        obtain ⟨e0, -, -⟩ := HX3.out.drew.cells
        rw [hW9] at e0
        have e1 := (show w3.drew.cell? _ = _ from d0)
        have e2 := (show w3.drew.cell? _ = _ from d1)
        have e3 := (show w3.drew.cell? _ = _ from d2)
        rw [hW9] at e1 e2 e3
        have hm2 := fun n => m_back n bs W9
        clear d0 d1 d2 HX3
        refine wp_region_tail (fun w' => w' = W9) 5 (by kernel_rfl) (by kernel_rfl) hW9 ?_
        clear hW9
        simp only [List.take_succ_cons, List.take_zero, List.drop_succ_cons, List.drop_zero]
        iterate 5
          with_reducible refine wpQuiet_step ?_
          intro K hK
          go_simp
          first
            | (with_reducible refine hK _ ?_
               clear hK K)
            | (refine Exists.intro _ ⟨fun w9 hw9 => ?_, ?_⟩
               rotate_left 1
               with_reducible refine hK _ ?_
               clear hK K
               rotate_left 1
               · subst hw9; go_simp; try with_reducible rfl)
        refine wpQuiet_nil ?_
        rintro w17 rfl
        go_wp2_with fail
        with_reducible refine Calls.mono HB.out ?_
        rintro e w4 ⟨rfl, h4⟩
        have HX4 := Lib.hid h4
        clear h4 HB e0 e1 e2 e3 hm2
        go_wp2
        exact bodyPost_ret (v := .tuple #[.int .i64 n, .int .i64 k]) (by unfold results; go_simp) rfl ⟨rfl, HX4.out⟩

end Go.Proofs.Yticljfpippbkkaa

/-
  Digits to a base, the character behind a quote, behind a scanner. Conditions: those that each theorem names.
-/
namespace Go.Proofs.Yticljfpippbkkaa
open Go.RowKit Go.Sp
variable {W w w' : World} {A : HProp} {bx bs bt N : Nat} {L : List Tok} {S : TabS}

set_option maxRecDepth 100000 in
set_option maxHeartbeats 4000000 in
theorem based_any (base : Int) (hb : base = 8 ∨ base = 10 ∨ base = 16) (hl : L.length ≤ 2000000) (h : ScAt W A bx bs bt L N S w) :
    Calls Try.prog 49 #[.pointer (some ⟨bx, 0, none⟩), .int .i64 base] w fun e w' => e = .returned (.tuple #[.int .i64 (basedM base L).1, .int .i64 (basedM base L).2.1]) ∧ ScAt W A bx bs bt (basedM base L).2.2 N S w' := by
  have HD := Lib.hid (digits_any base hb hl h)
  have hlen := digits_len base L 0 0
  obtain ⟨r, hr⟩ : ∃ r, basedM base L = r := ⟨_, rfl⟩
  rw [hr]
  unfold basedM at hr
  simp only at hr
  obtain ⟨⟨n, k, L1⟩, hd⟩ : ∃ d, digitsM base L 0 0 = d := ⟨_, rfl⟩
  rw [hd] at hr HD hlen
  simp only at hr hlen
  have hl1 : L1.length ≤ 4000000 := by omega
  have HR := Lib.hid hr
  clear hb h hr hd hlen
  go_enter Try.func49, Try.ntmps49
  go_wp2_with fail
  with_reducible refine Calls.mono HD.out ?_
  rintro e w2 ⟨rfl, h2⟩
  have HX := Lib.hid h2
  clear h2 HD
  by_cases hk : k = 0
  · subst hk
    have hr := HR.out
    rw [if_pos rfl] at hr
    subst hr
    go_wp2
    exact bodyPost_ret (v := .tuple #[.int .i64 0, .int .i64 180]) (by unfold results; go_simp) rfl ⟨rfl, HX.out⟩
  · have hr := HR.out
    rw [if_neg hk] at hr
    have HR2 := Lib.hid hr
    have q1 : (k == 0) = false := by rw [beq_eq_false_iff_ne]; exact hk
    have HO := Lib.hid (scopt_any hl1 HX.out)
    clear HR hr HX
    go_wp2_with fail
    with_reducible refine Calls.mono HO.out ?_
    rintro e w3 ⟨rfl, h3⟩
    have HX := Lib.hid h3
    clear h3 HO
    by_cases hn : 2147483647 < n
    · have hr := HR2.out
      rw [if_pos hn] at hr
      subst hr
      go_wp2
      exact bodyPost_ret (v := .tuple #[.int .i64 0, .int .i64 20]) (by unfold results; go_simp) rfl ⟨rfl, HX.out⟩
    · have hr := HR2.out
      rw [if_neg hn] at hr
      subst hr
      go_wp2
      exact bodyPost_ret (v := .tuple #[.int .i64 n, .int .i64 0]) (by unfold results; go_simp) rfl ⟨rfl, HX.out⟩

set_option maxRecDepth 100000 in
set_option maxHeartbeats 4000000 in
theorem quoted_any (hl : L.length ≤ 2000000) (h : ScAt W A bx bs bt L N S w) :
    Calls Try.prog 75 #[.pointer (some ⟨bx, 0, none⟩)] w fun e w' => e = .returned (.tuple #[.int .i64 (quotedM L).1, .int .i64 (quotedM L).2.1]) ∧ ScAt W A bx bs bt (quotedM L).2.2 N S w' := by
  obtain ⟨c0, -, lb⟩ := h.cells
  have hm1 := fun n => m_next n bs w
  have HN1 := Lib.hid (scnext_any h)
  obtain ⟨r, hr⟩ : ∃ r, quotedM L = r := ⟨_, rfl⟩
  rw [hr]
  have HR := Lib.hid hr
  clear h hr
  go_enter Try.func75, Try.ntmps75
  go_wp2_with fail
  with_reducible refine Calls.mono HN1.out ?_
  rintro e w2 ⟨rfl, h2⟩
  clear c0 lb hm1 HN1
  cases L with
  | nil =>
    have H2 := Lib.hid (h2.ext ((Ext.refl _).alloc (o := tok0.box)))
    clear h2
    go_wp2
    have hr := HR.out
    subst hr
    exact bodyPost_ret (v := .tuple #[.int .i64 0, .int .i64 180]) (by unfold results; go_simp) rfl ⟨rfl, H2.out⟩
  | cons x L =>
    simp only [List.headD_cons, List.isEmpty_cons, Bool.not_false, List.tail_cons, List.length_cons] at *
    have hr := HR.out
    rw [quotedM] at hr
    have HR2 := Lib.hid hr
    clear HR hr
    go_upto_region 2 with fail
    have hn := (Sat.start w2).alloc x.box
    obtain ⟨w3, hw3⟩ : ∃ w3, w2.alloc x.box = w3 := ⟨_, rfl⟩
    obtain ⟨bk, hbk⟩ : ∃ bk, w2.heap.size = bk := ⟨_, rfl⟩
    have HX3 := Lib.hid (h2.ext ((Ext.refl _).alloc (o := x.box)))
    rw [hw3] at HX3
    rw [hw3, hbk] at hn
    rw [show w2.alloc (.cells #[.int .i64 x.cat, .int .u8 x.chr.toNat, .string x.name] 28) = w3 from hw3, hbk]
    have d0 := hn.cell (i := 0) rfl
    have d1 := hn.cell (i := 1) rfl
    have d2 := hn.cell (i := 2) rfl
    have ld := hn.lt
    clear hn hw3 hbk h2
    obtain ⟨xc, xh, xn⟩ := x
    simp only at *
    by_cases h16 : xc = 16
    · subst h16
      have hr := HR2.out
      rw [if_pos rfl] at hr
      have HR3 := Lib.hid hr
      clear hr HR2
      by_cases hs : xn.size = 1
      · have hr := HR3.out
        rw [if_pos hs] at hr
        have HR4 := Lib.hid hr
        clear hr HR3
        have HO := Lib.hid (scopt_any (L := L) (by omega) HX3.out)
        obtain ⟨c, hc⟩ : ∃ c, xn.data.getD 0 0 = c := ⟨_, rfl⟩
        rw [hc] at HR4
        have hget : xn[0]'(by omega) = c := by
          rw [← hc]
          have h0 : 0 < xn.data.size := by have : xn.data.size = xn.size := rfl; omega
          simp only [ByteArray.getElem_eq_getElem_data, Array.getD, h0, dite_true]
          rfl
        have sc := wrap_chr c
        have sx := wrap_chr xh
        clear hc HX3
        go_wp2_with fail
        with_reducible refine Calls.mono HO.out ?_
        rintro e w3 ⟨rfl, h3⟩
        have HX := Lib.hid h3
        clear h3 HO d0 d1 d2 ld
        go_wp2
        have hr := HR4.out
        subst hr
        exact bodyPost_ret (v := .tuple #[.int .i64 c.toNat, .int .i64 0]) (by unfold results; go_simp) rfl ⟨rfl, HX.out⟩
      · have hr := HR3.out
        rw [if_neg hs] at hr
        have HR4 := Lib.hid hr
        have n1 : ¬ ((xn.size : Int) = 1) := by omega
        have b1 : ((xn.size : Int) != 1) = true := by rw [bne_iff_ne]; exact n1
        have sx := wrap_chr xh
        clear hr HR3
        go_upto_region 7 with fail
        have HB := Lib.hid (scback_any ⟨16, xh, xn⟩ (by omega) HX3.out.drew)
        obtain ⟨W9, hW9⟩ : ∃ W9, w3.drew = W9 := ⟨_, rfl⟩
        rw [hW9] at HB
        obtain ⟨e0, -, -⟩ := HX3.out.drew.cells
        rw [hW9] at e0
        have e1 := (show w3.drew.cell? _ = _ from d0)
        have e2 := (show w3.drew.cell? _ = _ from d1)
        have e3 := (show w3.drew.cell? _ = _ from d2)
        rw [hW9] at e1 e2 e3
        have hm2 := fun n => m_back n bs W9
        clear d0 d1 d2 HX3
        refine wp_region_tail (fun w' => w' = W9) 5 (by kernel_rfl) (by kernel_rfl) hW9 ?_
        clear hW9
        simp only [List.take_succ_cons, List.take_zero, List.drop_succ_cons, List.drop_zero]
        iterate 5
          with_reducible refine wpQuiet_step ?_
          intro K hK
          go_simp
          first
            | (with_reducible refine hK _ ?_
               clear hK K)
            | (refine Exists.intro _ ⟨fun w9 hw9 => ?_, ?_⟩
               rotate_left 1
               with_reducible refine hK _ ?_
               clear hK K
               rotate_left 1
               · subst hw9; go_simp; try with_reducible rfl)
        refine wpQuiet_nil ?_
        rintro w17 rfl
        go_wp2_with fail
        with_reducible refine Calls.mono HB.out ?_
        rintro e w4 ⟨rfl, h4⟩
        have HX4 := Lib.hid h4
        clear h4 HB e0 e1 e2 e3 hm2
        go_wp2
        have hr := HR4.out
        subst hr
        exact bodyPost_ret (v := .tuple #[.int .i64 0, .int .i64 180]) (by unfold results; go_simp) rfl ⟨rfl, HX4.out⟩
    · have hr := HR2.out
      rw [if_neg h16] at hr
      have HR3 := Lib.hid hr
      have n1 : ¬ xc = 16 := h16
      have q1 : (xc == 16) = false := by rw [beq_eq_false_iff_ne]; exact h16
      have HO := Lib.hid (scopt_any (L := L) (by omega) HX3.out)
      have sx := wrap_chr xh
      clear hr HR2 HX3
      go_wp2_with fail
      with_reducible refine Calls.mono HO.out ?_
      rintro e w3 ⟨rfl, h3⟩
      have HX := Lib.hid h3
      clear h3 HO d0 d1 d2 ld
      go_wp2
      have hr := HR3.out
      subst hr
      exact bodyPost_ret (v := .tuple #[.int .i64 xh.toNat, .int .i64 0]) (by unfold results; go_simp) rfl ⟨rfl, HX.out⟩

end Go.Proofs.Yticljfpippbkkaa

/-
  What a token means, behind a scanner. Conditions: those that each theorem names.
-/
namespace Go.Proofs.Yticljfpippbkkaa
open Go.RowKit Go.Sp
variable {W w w' : World} {A : HProp} {bx bs bt N : Nat} {L : List Tok} {S : TabS}

abbrev meanO (m : Mean) : Obj := .cells #[.int .i64 m.kind, .int .i64 m.cls, .int .i64 m.code, .int .i64 m.cat, .string m.text] 103
theorem conv_byte1 (w : World) (g : Nat) (c : UInt8) (hc : w.cell? ⟨g, 0, none⟩ = some (.int .u8 c.toNat)) : (convert 36 9 (.slice (some ⟨g, 0, none⟩) 1 1)).run Try.prog w = .ok (.string ⟨#[c]⟩) w := by
  have := run_convert_bytes_back (P := Try.prog) w 36 9 5 ⟨g, 0, none⟩ 1 [c] Try.underlying36 Try.underlying5 Try.underlying9 (by
    intro j hj
    simp at hj
    subst hj
    simpa [Addr.add_lit] using hc)
  exact this
abbrev zmO : Obj := .cells #[.int .i64 0, .int .i64 0, .int .i64 0, .int .i64 0, .string ⟨#[]⟩] 103

set_option maxRecDepth 100000 in
set_option maxHeartbeats 4000000 in
theorem meaning_no (x : Tok) (h16 : ¬ x.cat = 16) (h13 : ¬ x.cat = 13) (h : ScAt W A bx bs bt L N S w) : Calls Try.prog 59 #[.pointer (some ⟨bx, 0, none⟩), x.val] w fun e w' => e = .returned (meansM S x).val ∧ ScAt W A bx bs bt L N S w' := by
  have h1 := (h.alloc (Tok.box x)).alloc zmO
  obtain ⟨bm, hbm⟩ : ∃ bm, (w.alloc (Tok.box x)).heap.size = bm := ⟨_, rfl⟩
  have hbm2 : w.heap.size + 1 = bm := by rw [← hbm]; simp
  obtain ⟨W1, hW1⟩ : ∃ W1, (w.alloc (Tok.box x)).alloc zmO = W1 := ⟨_, rfl⟩
  obtain ⟨bk, hbk⟩ : ∃ bk, w.heap.size = bk := ⟨_, rfl⟩
  rw [hbm, hW1, hbk] at h1
  rw [hbk] at hbm2
  have e : meansM S x = ⟨0, 0, 0, 0, ⟨#[]⟩⟩ := by rw [meansM, if_neg h16, if_neg h13]; rfl
  rw [e]
  have q1 : (x.cat == 16) = false := by rw [beq_eq_false_iff_ne]; exact h16
  have q2 : (x.cat == 13) = false := by rw [beq_eq_false_iff_ne]; exact h13
  have H3 := Lib.hid h1
  have HW1 := Lib.hid hW1
  clear e h h1 hbm hW1
  go_enter Try.func59, Try.ntmps59
  go_upto_region 1 with fail
  rw [show (w.alloc (.cells #[.int .i64 x.cat, .int .u8 x.chr.toNat, .string x.name] 28)).alloc zmO = W1 from HW1.out]
  clear HW1
  obtain ⟨Y, h3, back⟩ := H3.out.focus
  have BACK := Lib.hid back
  have hs := h3.asc
  have r0 := hs.cell (i := 0) rfl
  have r1 := hs.cell (i := 1) rfl
  have r2 := hs.cell (i := 2) rfl
  have r3 := hs.cell (i := 3) rfl
  have r4 := hs.cell (i := 4) rfl
  have f0 := hs.free (i := 0)
  have f1 := hs.free (i := 1)
  have f2 := hs.free (i := 2)
  have f3 := hs.free (i := 3)
  have f4 := hs.free (i := 4)
  have lr := hs.lt
  have hs2 := ((((hs.set (i := 0) (v := .int .i64 0)).set (i := 1) (v := .int .i64 0)).set (i := 2) (v := .int .i64 0)).set (i := 3) (v := .int .i64 0)).set (i := 4) (v := .string ⟨#[]⟩)
  have HS2 := Lib.hid (show Sat W (pts bm (meanO ⟨0, 0, 0, 0, ⟨#[]⟩⟩) * _) _ from hs2)
  have y0 := hs.r.asc.cell (i := 0) rfl
  clear h3 hs hs2 back H3
  go_wp2
  (try simp only [Exit.inBlock, Exit.then])
  refine bodyPost_ret (v := .agg #[.int .i64 0, .int .i64 0, .int .i64 0, .int .i64 0, .string ⟨#[]⟩]) (by unfold results; go_simp) rfl ⟨rfl, ?_⟩
  exact (BACK.out _ _ HS2.out.asc').less.less
set_option maxRecDepth 100000 in
set_option maxHeartbeats 4000000 in
theorem meaning_cs (xh : UInt8) (xn : ByteArray) (h : ScAt W A bx bs bt L N S w) : Calls Try.prog 59 #[.pointer (some ⟨bx, 0, none⟩), Tok.val ⟨16, xh, xn⟩] w fun e w' => e = .returned (meansM S ⟨16, xh, xn⟩).val ∧ ScAt W A bx bs bt L N S w' := by
  have h1 := (h.alloc (Tok.box ⟨16, xh, xn⟩)).alloc zmO
  obtain ⟨bm, hbm⟩ : ∃ bm, (w.alloc (Tok.box ⟨16, xh, xn⟩)).heap.size = bm := ⟨_, rfl⟩
  have hbm2 : w.heap.size + 1 = bm := by rw [← hbm]; simp
  obtain ⟨W1, hW1⟩ : ∃ W1, (w.alloc (Tok.box ⟨16, xh, xn⟩)).alloc zmO = W1 := ⟨_, rfl⟩
  obtain ⟨bk, hbk⟩ : ∃ bk, w.heap.size = bk := ⟨_, rfl⟩
  rw [hbm, hW1, hbk] at h1
  rw [hbk] at hbm2
  have e : meansM S ⟨16, xh, xn⟩ = lookN S.names xn := by rw [meansM, if_pos rfl]
  rw [e]
  have HL := Lib.hid (sclook_any xn h1.drew)
  obtain ⟨⟨l1, l2, l3, l4, l5⟩, hlk⟩ : ∃ lk, lookN S.names xn = lk := ⟨_, rfl⟩
  rw [hlk] at HL
  rw [hlk]
  have H1 := Lib.hid h1
  have HW1 := Lib.hid hW1
  clear e h h1 hbm hW1 hlk
  go_enter Try.func59, Try.ntmps59
  go_upto_region 1 with fail
  rw [show (w.alloc (.cells #[.int .i64 16, .int .u8 xh.toNat, .string xn] 28)).alloc zmO = W1 from HW1.out]
  clear HW1
  have y0 := H1.out.sat.r.cell (i := 0) rfl
  go_upto_region 3 with fail
  obtain ⟨C, hC⟩ : ∃ C : World → Prop, C = fun w' => ∃ Y, Sat W (pts bx (scO bs bt) * (pts bm zmO * (pts bk (Tok.box ⟨16, xh, xn⟩) * Y))) w' := ⟨_, rfl⟩
  have HC := Lib.hid (show ∀ w', C w' → w'.cell? ⟨bx, 1, none⟩ = some (.pointer (some ⟨bt, 0, none⟩)) ∧ w'.cell? ⟨bk, 2, none⟩ = some (.string xn) from fun w' h => by
    rw [hC] at h
    obtain ⟨Y, h⟩ := h
    exact ⟨h.cell rfl, h.r.r.cell rfl⟩)
  have HC2 := Lib.hid (show ∀ w', ScAt W (pts bm zmO * (pts bk (Tok.box ⟨16, xh, xn⟩) * A)) bx bs bt L N S w' → C w' from fun w' h => by
    rw [hC]
    obtain ⟨Y, h⟩ := h.satx
    exact ⟨A * Y, h.of_eq (by ac_rfl)⟩)
  clear hC y0
  refine wp_region_E C (by kernel_rfl) ?_
  have h9 := H1.out.drew
  obtain ⟨W9, hW9⟩ : ∃ W9, W1.drew = W9 := ⟨_, rfl⟩
  rw [hW9] at h9 HL
  rw [hW9]
  have H9 := Lib.hid h9
  clear h9 hW9 H1 hbk hbm2
  refine wpE_take (i := 0) (q := 1) (v := ?_) rfl (by kernel_rfl) (by kernel_rfl) (by kernel_rfl) (by kernel_rfl) (by kernel_rfl) (fun _ _ _ h => h) (by rfl) ?_ ?_
  rotate_left 1
  · intro w hw; go_simp; try with_reducible rfl
  refine wpE_take (i := 1) (q := 2) (v := ?_) rfl (by kernel_rfl) (by kernel_rfl) (by kernel_rfl) (by kernel_rfl) (by kernel_rfl) (fun _ _ _ h => h) (by rfl) ?_ ?_
  rotate_left 1
  · intro w hw; go_simp; try with_reducible rfl
  refine wpE_take (i := 2) (q := 3) (v := ?_) rfl (by kernel_rfl) (by kernel_rfl) (by kernel_rfl) (by kernel_rfl) (by kernel_rfl) (fun _ _ _ h => h) (by rfl) ?_ ?_
  rotate_left 1
  · intro w hw; go_simp; try with_reducible rfl
  refine wpE_take (i := 3) (q := 6) (v := ?_) rfl (by kernel_rfl) (by kernel_rfl) (by kernel_rfl) (by kernel_rfl) (by kernel_rfl) (fun _ _ _ h => h) (by rfl) ?_ ?_
  rotate_left 1
  · intro w hw; (obtain ⟨y1, y2⟩ := HC.out _ hw; go_simp; try with_reducible rfl)
  refine wpE_take (i := 4) (q := 5) (v := ?_) rfl (by kernel_rfl) (by kernel_rfl) (by kernel_rfl) (by kernel_rfl) (by kernel_rfl) (fun _ _ _ h => h) (by rfl) ?_ ?_
  rotate_left 1
  · intro w hw; go_simp; try with_reducible rfl
  refine wpE_take (i := 5) (q := 6) (v := ?_) rfl (by kernel_rfl) (by kernel_rfl) (by kernel_rfl) (by kernel_rfl) (by kernel_rfl) (fun _ _ _ h => h) (by rfl) ?_ ?_
  rotate_left 1
  · intro w hw; (obtain ⟨y1, y2⟩ := HC.out _ hw; go_simp; try with_reducible rfl)
  refine wpE_one (i := 6) rfl (by kernel_rfl) (HC2.out _ H9.out) (fun K hK => ?_)
  go_simp
  with_reducible refine Calls.mono HL.out ?_
  rintro e w2 ⟨rfl, h2⟩
  have H3 := Lib.hid h2
  clear h2 HL H9
  go_simp
  refine hK _ _ ?_
  clear hK K
  obtain ⟨Y, h3, back⟩ := H3.out.focus
  have BACK := Lib.hid back
  have hs := h3.asc
  have r0 := hs.cell (i := 0) rfl
  have r1 := hs.cell (i := 1) rfl
  have r2 := hs.cell (i := 2) rfl
  have r3 := hs.cell (i := 3) rfl
  have r4 := hs.cell (i := 4) rfl
  have f0 := hs.free (i := 0)
  have f1 := hs.free (i := 1)
  have f2 := hs.free (i := 2)
  have f3 := hs.free (i := 3)
  have f4 := hs.free (i := 4)
  have lr := hs.lt
  have hs2 := ((((hs.set (i := 0) (v := .int .i64 l1)).set (i := 1) (v := .int .i64 l2)).set (i := 2) (v := .int .i64 l3)).set (i := 3) (v := .int .i64 l4)).set (i := 4) (v := .string l5)
  have HS2 := Lib.hid (show Sat W (pts bm (meanO ⟨l1, l2, l3, l4, l5⟩) * _) _ from hs2)
  clear h3 back H3
  refine wpE_one (i := 7) rfl (by kernel_rfl) (HC2.out _ (BACK.out _ _ hs.asc')) (fun K hK => ?_)
  go_simp
  refine hK _ _ ?_
  clear hK K hs hs2
  refine wpE_done (by kernel_rfl) (by kernel_rfl) ?_
  go_wp2
  (try simp only [Exit.inBlock, Exit.then])
  refine bodyPost_ret (v := .agg #[.int .i64 l1, .int .i64 l2, .int .i64 l3, .int .i64 l4, .string l5]) (by unfold results; go_simp) rfl ⟨rfl, ?_⟩
  exact (BACK.out _ _ HS2.out.asc').less.less

set_option maxRecDepth 100000 in
set_option maxHeartbeats 4000000 in
theorem meaning_ac (xh : UInt8) (xn : ByteArray) (h : ScAt W A bx bs bt L N S w) : Calls Try.prog 59 #[.pointer (some ⟨bx, 0, none⟩), Tok.val ⟨13, xh, xn⟩] w fun e w' => e = .returned (meansM S ⟨13, xh, xn⟩).val ∧ ScAt W A bx bs bt L N S w' := by
  have h1 := (h.alloc (Tok.box ⟨13, xh, xn⟩)).alloc zmO
  obtain ⟨bm, hbm⟩ : ∃ bm, (w.alloc (Tok.box ⟨13, xh, xn⟩)).heap.size = bm := ⟨_, rfl⟩
  have hbm2 : w.heap.size + 1 = bm := by rw [← hbm]; simp
  obtain ⟨W1, hW1⟩ : ∃ W1, (w.alloc (Tok.box ⟨13, xh, xn⟩)).alloc zmO = W1 := ⟨_, rfl⟩
  obtain ⟨bk, hbk⟩ : ∃ bk, w.heap.size = bk := ⟨_, rfl⟩
  rw [hbm, hW1, hbk] at h1
  rw [hbk] at hbm2
  have e : meansM S ⟨13, xh, xn⟩ = lookN S.names ⟨#[xh]⟩ := by rw [meansM, if_neg (by simp), if_pos rfl]
  rw [e]
  have HL := Lib.hid ((fun w' (hw : ScAt W (pts bm zmO * (pts bk (Tok.box ⟨13, xh, xn⟩) * A)) bx bs bt L N S w') => sclook_any ⟨#[xh]⟩ hw))
  obtain ⟨⟨l1, l2, l3, l4, l5⟩, hlk⟩ : ∃ lk, lookN S.names ⟨#[xh]⟩ = lk := ⟨_, rfl⟩
  rw [hlk] at HL
  rw [hlk]
  have H1 := Lib.hid h1
  have HW1 := Lib.hid hW1
  clear e h h1 hbm hW1 hlk
  go_enter Try.func59, Try.ntmps59
  go_upto_region 1 with fail
  rw [show (w.alloc (.cells #[.int .i64 13, .int .u8 xh.toNat, .string xn] 28)).alloc zmO = W1 from HW1.out]
  clear HW1
  have y0 := H1.out.sat.r.cell (i := 0) rfl
  go_upto_region 5 with fail
  obtain ⟨C, hC⟩ : ∃ C : World → Prop, C = fun w' => ∃ Y, Sat W (pts bx (scO bs bt) * (pts bm zmO * (pts bk (Tok.box ⟨13, xh, xn⟩) * Y))) w' := ⟨_, rfl⟩
  have HC := Lib.hid (show ∀ w', C w' → w'.cell? ⟨bx, 1, none⟩ = some (.pointer (some ⟨bt, 0, none⟩)) ∧ w'.cell? ⟨bk, 1, none⟩ = some (.int .u8 xh.toNat) from fun w' h => by
    rw [hC] at h
    obtain ⟨Y, h⟩ := h
    exact ⟨h.cell rfl, h.r.r.cell rfl⟩)
  have HC2 := Lib.hid (show ∀ w', ScAt W (pts bm zmO * (pts bk (Tok.box ⟨13, xh, xn⟩) * A)) bx bs bt L N S w' → C w' from fun w' h => by
    rw [hC]
    obtain ⟨Y, h⟩ := h.satx
    exact ⟨A * Y, h.of_eq (by ac_rfl)⟩)
  clear hC y0
  refine wp_region_E C (by kernel_rfl) ?_
  have h9 := H1.out.drew
  obtain ⟨W9, hW9⟩ : ∃ W9, W1.drew = W9 := ⟨_, rfl⟩
  rw [hW9] at h9
  rw [hW9]
  have H9 := Lib.hid h9
  clear h9 hW9 H1 hbk hbm2
  refine wpE_take (i := 0) (q := 1) (v := ?_) rfl (by kernel_rfl) (by kernel_rfl) (by kernel_rfl) (by kernel_rfl) (by kernel_rfl) (fun _ _ _ h => h) (by rfl) ?_ ?_
  rotate_left 1
  · intro w hw; go_simp; try with_reducible rfl
  refine wpE_take (i := 1) (q := 2) (v := ?_) rfl (by kernel_rfl) (by kernel_rfl) (by kernel_rfl) (by kernel_rfl) (by kernel_rfl) (fun _ _ _ h => h) (by rfl) ?_ ?_
  rotate_left 1
  · intro w hw; go_simp; try with_reducible rfl
  refine wpE_take (i := 2) (q := 3) (v := ?_) rfl (by kernel_rfl) (by kernel_rfl) (by kernel_rfl) (by kernel_rfl) (by kernel_rfl) (fun _ _ _ h => h) (by rfl) ?_ ?_
  rotate_left 1
  · intro w hw; go_simp; try with_reducible rfl
  refine wpE_take (i := 3) (q := 8) (v := ?_) rfl (by kernel_rfl) (by kernel_rfl) (by kernel_rfl) (by kernel_rfl) (by kernel_rfl) (fun _ _ _ h => h) (by rfl) ?_ ?_
  rotate_left 1
  · intro w hw; (obtain ⟨y1, y2⟩ := HC.out _ hw; go_simp; try with_reducible rfl)
  refine wpE_take (i := 4) (q := 5) (v := ?_) rfl (by kernel_rfl) (by kernel_rfl) (by kernel_rfl) (by kernel_rfl) (by kernel_rfl) (fun _ _ _ h => h) (by rfl) ?_ ?_
  rotate_left 1
  · intro w hw; go_simp; try with_reducible rfl
  refine wpE_take (i := 5) (q := 6) (v := ?_) rfl (by kernel_rfl) (by kernel_rfl) (by kernel_rfl) (by kernel_rfl) (by kernel_rfl) (fun _ _ _ h => h) (by rfl) ?_ ?_
  rotate_left 1
  · intro w hw; (obtain ⟨y1, y2⟩ := HC.out _ hw; go_simp; try with_reducible rfl)
  refine wpE_one (i := 6) rfl (by kernel_rfl) (HC2.out _ H9.out) (fun K hK => ?_)
  go_simp
  refine hK _ _ ?_
  clear hK K
  have h10 := H9.out.alloc (.cells #[.int .u8 xh.toNat] 5)
  obtain ⟨W10, hW10⟩ : ∃ W10, W9.alloc (.cells #[.int .u8 xh.toNat] 5) = W10 := ⟨_, rfl⟩
  obtain ⟨b10, hb10⟩ : ∃ b10, W9.heap.size = b10 := ⟨_, rfl⟩
  rw [hW10, hb10] at h10
  rw [hW10, hb10]
  have hcv := conv_byte1 W10 b10 xh (h10.sat.cell rfl)
  have H10 := Lib.hid h10.less
  have HLA := Lib.hid (HL.out _ h10.less)
  clear h10 hW10 hb10 H9 HL
  refine wpE_one (i := 7) rfl (by kernel_rfl) (HC2.out _ H10.out) (fun K hK => ?_)
  go_simp
  refine hK _ _ ?_
  clear hK K hcv
  refine wpE_one (i := 8) rfl (by kernel_rfl) (HC2.out _ H10.out) (fun K hK => ?_)
  go_simp
  with_reducible refine Calls.mono HLA.out ?_
  rintro e w2 ⟨rfl, h2⟩
  have H3 := Lib.hid h2
  clear h2 HLA H10
  go_simp
  refine hK _ _ ?_
  clear hK K
  obtain ⟨Y, h3, back⟩ := H3.out.focus
  have BACK := Lib.hid back
  have hs := h3.asc
  have r0 := hs.cell (i := 0) rfl
  have r1 := hs.cell (i := 1) rfl
  have r2 := hs.cell (i := 2) rfl
  have r3 := hs.cell (i := 3) rfl
  have r4 := hs.cell (i := 4) rfl
  have f0 := hs.free (i := 0)
  have f1 := hs.free (i := 1)
  have f2 := hs.free (i := 2)
  have f3 := hs.free (i := 3)
  have f4 := hs.free (i := 4)
  have lr := hs.lt
  have hs2 := ((((hs.set (i := 0) (v := .int .i64 l1)).set (i := 1) (v := .int .i64 l2)).set (i := 2) (v := .int .i64 l3)).set (i := 3) (v := .int .i64 l4)).set (i := 4) (v := .string l5)
  have HS2 := Lib.hid (show Sat W (pts bm (meanO ⟨l1, l2, l3, l4, l5⟩) * _) _ from hs2)
  clear h3 back H3
  refine wpE_one (i := 9) rfl (by kernel_rfl) (HC2.out _ (BACK.out _ _ hs.asc')) (fun K hK => ?_)
  go_simp
  refine hK _ _ ?_
  clear hK K hs hs2
  refine wpE_done (by kernel_rfl) (by kernel_rfl) ?_
  go_wp2
  (try simp only [Exit.inBlock, Exit.then])
  refine bodyPost_ret (v := .agg #[.int .i64 l1, .int .i64 l2, .int .i64 l3, .int .i64 l4, .string l5]) (by unfold results; go_simp) rfl ⟨rfl, ?_⟩
  exact (BACK.out _ _ HS2.out.asc').less.less

theorem meaning_any (x : Tok) (h : ScAt W A bx bs bt L N S w) : Calls Try.prog 59 #[.pointer (some ⟨bx, 0, none⟩), x.val] w fun e w' => e = .returned (meansM S x).val ∧ ScAt W A bx bs bt L N S w' := by
  by_cases h16 : x.cat = 16
  · obtain ⟨xc, xh, xn⟩ := x
    simp only at h16
    subst h16
    exact meaning_cs xh xn h
  · by_cases h13 : x.cat = 13
    · obtain ⟨xc, xh, xn⟩ := x
      simp only at h13
      subst h13
      exact meaning_ac xh xn h
    · exact meaning_no x h16 h13 h

end Go.Proofs.Yticljfpippbkkaa
