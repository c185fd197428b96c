import Derived.Test.YticljfpippbkkaaMNW
/-
  A dimension's factor, behind a scanner. Conditions: those that each theorem names.
-/
namespace Go.Proofs.Yticljfpippbkkaa
open Go.RowKit Go.Sp
variable {W w w' : World} {A : HProp} {bx bs bt N : Nat} {L : List Tok} {S : TabS}

set_option maxRecDepth 100000 in
set_option maxHeartbeats 8000000 in
theorem factor_any (minus : Bool) (hl : L.length ≤ 2000000) (h : ScAt W A bx bs bt L N S w) :
    Calls Try.prog 53 #[.pointer (some ⟨bx, 0, none⟩), .bool minus] w fun e w' => e = .returned (.tuple #[(factorM S minus L).1.val, .bool (factorM S minus L).2.1, .int .i64 (factorM S minus L).2.2.1]) ∧ ScAt W A bx bs bt (factorM S minus L).2.2.2 N S w' := by
  have h1 := h.alloc (facO ⟨0, 0, false⟩)
  obtain ⟨w1, hw1⟩ : ∃ w1, w.alloc (facO ⟨0, 0, false⟩) = w1 := ⟨_, rfl⟩
  obtain ⟨b4, hb4⟩ : ∃ b4, w.heap.size = b4 := ⟨_, rfl⟩
  rw [hw1, hb4] at h1
  have HG := Lib.hid (register_any hl h1)
  have hrl := register_len S L
  obtain ⟨R, hR⟩ : ∃ R, factorM S minus L = R := ⟨_, rfl⟩
  rw [hR]
  unfold factorM at hR
  obtain ⟨⟨rc, ri, rb, re, rl⟩, hr⟩ : ∃ r, registerM S L = r := ⟨_, rfl⟩
  rw [hr] at hR HG hrl
  simp only at hR hrl
  have HR := Lib.hid hR
  have HW1 := Lib.hid hw1
  clear h h1 hR hr hw1
  go_enter Try.func53, Try.ntmps53
  go_upto_region 1 with fail
  rw [show w.alloc (.cells #[.int .i64 0, .int .i64 0, .bool false] 119) = w1 from HW1.out]
  clear HW1 hb4
  go_wp2_with fail
  with_reducible refine Calls.mono HG.out ?_
  rintro e w2 ⟨rfl, h2⟩
  have HX := Lib.hid h2
  clear h2 HG
  by_cases he : re = 0
  · subst he
    have hr := HR.out
    rw [if_neg (by simp)] at hr
    cases rb with
    | true =>
      rw [if_pos rfl] at hr
      have HW := Lib.hid (worth_any rc ri HX.out)
      obtain ⟨wv, hwv⟩ : ∃ wv, worthM S rc ri = wv := ⟨_, rfl⟩
      rw [hwv] at hr HW
      have HR2 := Lib.hid hr
      clear hr HR HX hwv
      go_wp2_with fail
      with_reducible refine Calls.mono HW.out ?_
      rintro e w3 ⟨rfl, h3⟩
      have HX := Lib.hid h3
      clear h3 HW
      go_wp2_with fail
      with_reducible refine Calls.mono (turned_any _ _ _) ?_
      rintro e w7 ⟨rfl, rfl⟩
      obtain ⟨n, hn⟩ : ∃ n, turnM wv minus = n := ⟨_, rfl⟩
      rw [hn] at HR2
      rw [hn]
      clear hn
      by_cases hc : rc = 1
      · subst hc
        have hr := HR2.out
        rw [if_neg (by simp)] at hr
        subst hr
        have hmx : (if n < wrap64 (-n) then wrap64 (-n) else n) = maxM n (wrap64 (-n)) := rfl
        clear HR2
        obtain ⟨Y, h8, back⟩ := HX.out.focus
        have BACK := Lib.hid back
        have hs := h8.asc
        have r0 := hs.cell (i := 0) rfl
        have r1 := hs.cell (i := 1) rfl
        have r2 := hs.cell (i := 2) rfl
        have f0 := hs.free (i := 0)
        have f1 := hs.free (i := 1)
        have f2 := hs.free (i := 2)
        have lr := hs.lt
        have hs2 := ((hs.set (i := 0) (v := .int .i64 (maxM n (wrap64 (-n))))).set (i := 1) (v := .int .i64 (0))).set (i := 2) (v := .bool (decide (n < 0)))
        have HS2 := Lib.hid (show Sat W (pts b4 (facO ⟨maxM n (wrap64 (-n)), 0, decide (n < 0)⟩) * _) _ from hs2)
        clear h8 back hs hs2 HX
        go_wp2
        refine bodyPost_ret (v := .tuple #[.agg #[.int .i64 (maxM n (wrap64 (-n))), .int .i64 (0), .bool (decide (n < 0))], .bool false, .int .i64 0]) (by unfold results; go_simp) rfl ⟨rfl, ?_⟩
        exact (BACK.out _ _ (HS2.out.of_eq (show _ = (pts b4 (facO ⟨maxM n (wrap64 (-n)), 0, decide (n < 0)⟩) * A) * Y by ac_rfl))).less
      · have hr := HR2.out
        rw [if_pos hc] at hr
        subst hr
        have q1 : (rc == 1) = false := by rw [beq_eq_false_iff_ne]; exact hc
        have b1 : (rc != 1) = true := by rw [bne_iff_ne]; exact hc
        clear HR2
        obtain ⟨Y, h8, back⟩ := HX.out.focus
        have BACK := Lib.hid back
        have hs := h8.asc
        have r0 := hs.cell (i := 0) rfl
        have r1 := hs.cell (i := 1) rfl
        have r2 := hs.cell (i := 2) rfl
        have f0 := hs.free (i := 0)
        have f1 := hs.free (i := 1)
        have f2 := hs.free (i := 2)
        have lr := hs.lt
        have hs2 := ((hs.set (i := 0) (v := .int .i64 (n))).set (i := 1) (v := .int .i64 (0))).set (i := 2) (v := .bool (false))
        have HS2 := Lib.hid (show Sat W (pts b4 (facO ⟨n, 0, false⟩) * _) _ from hs2)
        clear h8 back hs hs2 HX
        go_wp2
        refine bodyPost_ret (v := .tuple #[.agg #[.int .i64 (n), .int .i64 (0), .bool (false)], .bool true, .int .i64 0]) (by unfold results; go_simp) rfl ⟨rfl, ?_⟩
        exact (BACK.out _ _ (HS2.out.of_eq (show _ = (pts b4 (facO ⟨n, 0, false⟩) * A) * Y by ac_rfl))).less
    | false =>
      rw [if_neg (by simp)] at hr
      unfold facPlain at hr
      have HPL := Lib.hid (plain_any (by omega) HX.out)
      have hpl := plain_len S rl
      obtain ⟨⟨p1, pb, pe, pl⟩, hp⟩ : ∃ p, plainM S rl = p := ⟨_, rfl⟩
      rw [hp] at hr HPL hpl
      simp only at hr hpl
      have HR2 := Lib.hid hr
      clear hr HR hp HX
      go_wp2_with fail
      with_reducible refine Calls.mono HPL.out ?_
      rintro e w4 ⟨rfl, h4⟩
      have HX := Lib.hid h4
      clear h4 HPL
      by_cases hpe : pe = 0
      · subst hpe
        have hr := HR2.out
        rw [if_neg (by simp)] at hr
        cases pb with
        | true =>
          rw [if_pos rfl] at hr
          subst hr
          clear HR2
          obtain ⟨Y, h8, back⟩ := HX.out.focus
          have BACK := Lib.hid back
          have hs := h8.asc
          have r0 := hs.cell (i := 0) rfl
          have r1 := hs.cell (i := 1) rfl
          have r2 := hs.cell (i := 2) rfl
          have f0 := hs.free (i := 0)
          have f1 := hs.free (i := 1)
          have f2 := hs.free (i := 2)
          have lr := hs.lt
          have hs2 := ((hs.set (i := 0) (v := .int .i64 (p1))).set (i := 1) (v := .int .i64 (0))).set (i := 2) (v := .bool (minus))
          have HS2 := Lib.hid (show Sat W (pts b4 (facO ⟨p1, 0, minus⟩) * _) _ from hs2)
          clear h8 back hs hs2 HX
          go_wp2
          refine bodyPost_ret (v := .tuple #[.agg #[.int .i64 (p1), .int .i64 (0), .bool (minus)], .bool false, .int .i64 0]) (by unfold results; go_simp) rfl ⟨rfl, ?_⟩
          exact (BACK.out _ _ (HS2.out.of_eq (show _ = (pts b4 (facO ⟨p1, 0, minus⟩) * A) * Y by ac_rfl))).less
        | false =>
          rw [if_neg (by simp)] at hr
          have HDC := Lib.hid (decimal_any (by omega) HX.out)
          obtain ⟨⟨⟨di, df, dm⟩, db, dl⟩, hd⟩ : ∃ d, decimalM pl = d := ⟨_, rfl⟩
          rw [hd] at hr HDC
          simp only at hr
          have HR3 := Lib.hid hr
          clear hr hd HX HR2
          go_wp2_with fail
          with_reducible refine Calls.mono HDC.out ?_
          rintro e w5 ⟨rfl, h5⟩
          have HX := Lib.hid h5
          clear h5 HDC
          obtain ⟨Y, h8, back⟩ := HX.out.focus
          have BACK := Lib.hid back
          have hs := h8.asc
          have r0 := hs.cell (i := 0) rfl
          have r1 := hs.cell (i := 1) rfl
          have r2 := hs.cell (i := 2) rfl
          have f0 := hs.free (i := 0)
          have f1 := hs.free (i := 1)
          have f2 := hs.free (i := 2)
          have lr := hs.lt
          have hs2 := ((hs.set (i := 0) (v := .int .i64 (di))).set (i := 1) (v := .int .i64 (df))).set (i := 2) (v := .bool (dm))
          have HS2 := Lib.hid (show Sat W (pts b4 (facO ⟨di, df, dm⟩) * _) _ from hs2)
          clear h8 back hs hs2 HX
          go_upto_region 15 with fail
          obtain ⟨w6, hw6⟩ : ∃ w6, ((w5.setCell ⟨b4, 0, none⟩ (.int .i64 di)).setCell ⟨b4, 1, none⟩ (.int .i64 df)).setCell ⟨b4, 2, none⟩ (.bool dm) = w6 := ⟨_, rfl⟩
          have h6 := HS2.out
          rw [hw6] at h6
          rw [hw6]
          have HX := Lib.hid (BACK.out (pts b4 (facO ⟨di, df, dm⟩) * A) _ (h6.of_eq (show _ = (pts b4 (facO ⟨di, df, dm⟩) * A) * Y by ac_rfl)))
          clear h6 hw6 HS2 BACK r0 r1 r2 f0 f1 f2 lr
          cases db with
          | true =>
            have hr := HR3.out
            rw [if_pos rfl] at hr
            subst hr
            clear HR3
            obtain ⟨Y, h8, back⟩ := HX.out.focus
            have hs := h8.asc
            have r2 := hs.cell (i := 2) rfl
            have f2 := hs.free (i := 2)
            have lr := hs.lt
            have HX7 := Lib.hid (back (pts b4 (facO ⟨di, df, minus⟩) * A) _ ((show Sat W (pts b4 (facO ⟨di, df, minus⟩) * _) _ from hs.set (i := 2) (v := .bool minus)).asc'))
            clear h8 back hs HX
            go_upto_region 18 with fail
            obtain ⟨w7, hw7⟩ : ∃ w7, w6.setCell ⟨b4, 2, none⟩ (.bool minus) = w7 := ⟨_, rfl⟩
            rw [hw7] at HX7
            rw [hw7]
            clear hw7 r2 f2 lr
            obtain ⟨Y, h8, back⟩ := HX7.out.focus
            have BACK := Lib.hid back
            have hs := h8.asc
            have r0 := hs.cell (i := 0) rfl
            have r1 := hs.cell (i := 1) rfl
            have r2 := hs.cell (i := 2) rfl
            have f0 := hs.free (i := 0)
            have f1 := hs.free (i := 1)
            have f2 := hs.free (i := 2)
            have lr := hs.lt
            have hs2 := ((hs.set (i := 0) (v := .int .i64 (di))).set (i := 1) (v := .int .i64 (df))).set (i := 2) (v := .bool (minus))
            have HS2 := Lib.hid (show Sat W (pts b4 (facO ⟨di, df, minus⟩) * _) _ from hs2)
            clear h8 back hs hs2 HX7
            go_wp2
            refine bodyPost_ret (v := .tuple #[.agg #[.int .i64 (di), .int .i64 (df), .bool (minus)], .bool false, .int .i64 0]) (by unfold results; go_simp) rfl ⟨rfl, ?_⟩
            exact (BACK.out _ _ (HS2.out.of_eq (show _ = (pts b4 (facO ⟨di, df, minus⟩) * A) * Y by ac_rfl))).less
          | false =>
            have hr := HR3.out
            rw [if_neg (by simp)] at hr
            subst hr
            clear HR3
            obtain ⟨Y, h8, back⟩ := HX.out.focus
            have BACK := Lib.hid back
            have hs := h8.asc
            have r0 := hs.cell (i := 0) rfl
            have r1 := hs.cell (i := 1) rfl
            have r2 := hs.cell (i := 2) rfl
            have f0 := hs.free (i := 0)
            have f1 := hs.free (i := 1)
            have f2 := hs.free (i := 2)
            have lr := hs.lt
            have hs2 := ((hs.set (i := 0) (v := .int .i64 (di))).set (i := 1) (v := .int .i64 (df))).set (i := 2) (v := .bool (dm))
            have HS2 := Lib.hid (show Sat W (pts b4 (facO ⟨di, df, dm⟩) * _) _ from hs2)
            clear h8 back hs hs2 HX
            go_wp2
            refine bodyPost_ret (v := .tuple #[.agg #[.int .i64 (di), .int .i64 (df), .bool (dm)], .bool false, .int .i64 180]) (by unfold results; go_simp) rfl ⟨rfl, ?_⟩
            exact (BACK.out _ _ (HS2.out.of_eq (show _ = (pts b4 (facO ⟨di, df, dm⟩) * A) * Y by ac_rfl))).less
      · have hr := HR2.out
        rw [if_pos hpe] at hr
        subst hr
        have q1 : (pe == 0) = false := by rw [beq_eq_false_iff_ne]; exact hpe
        have b1 : (pe != 0) = true := by rw [bne_iff_ne]; exact hpe
        clear HR2
        obtain ⟨Y, h8, back⟩ := HX.out.focus
        have BACK := Lib.hid back
        have hs := h8.asc
        have r0 := hs.cell (i := 0) rfl
        have r1 := hs.cell (i := 1) rfl
        have r2 := hs.cell (i := 2) rfl
        have f0 := hs.free (i := 0)
        have f1 := hs.free (i := 1)
        have f2 := hs.free (i := 2)
        have lr := hs.lt
        have hs2 := ((hs.set (i := 0) (v := .int .i64 (0))).set (i := 1) (v := .int .i64 (0))).set (i := 2) (v := .bool (false))
        have HS2 := Lib.hid (show Sat W (pts b4 (facO ⟨0, 0, false⟩) * _) _ from hs2)
        clear h8 back hs hs2 HX
        go_wp2
        refine bodyPost_ret (v := .tuple #[.agg #[.int .i64 (0), .int .i64 (0), .bool (false)], .bool false, .int .i64 pe]) (by unfold results; go_simp) rfl ⟨rfl, ?_⟩
        exact (BACK.out _ _ (HS2.out.of_eq (show _ = (pts b4 (facO ⟨0, 0, false⟩) * A) * Y by ac_rfl))).less
  · have hr := HR.out
    rw [if_pos he] at hr
    subst hr
    have q1 : (re == 0) = false := by rw [beq_eq_false_iff_ne]; exact he
    have b1 : (re != 0) = true := by rw [bne_iff_ne]; exact he
    clear HR
    obtain ⟨Y, h8, back⟩ := HX.out.focus
    have BACK := Lib.hid back
    have hs := h8.asc
    have r0 := hs.cell (i := 0) rfl
    have r1 := hs.cell (i := 1) rfl
    have r2 := hs.cell (i := 2) rfl
    have f0 := hs.free (i := 0)
    have f1 := hs.free (i := 1)
    have f2 := hs.free (i := 2)
    have lr := hs.lt
    have hs2 := ((hs.set (i := 0) (v := .int .i64 (0))).set (i := 1) (v := .int .i64 (0))).set (i := 2) (v := .bool (false))
    have HS2 := Lib.hid (show Sat W (pts b4 (facO ⟨0, 0, false⟩) * _) _ from hs2)
    clear h8 back hs hs2 HX
    go_wp2
    refine bodyPost_ret (v := .tuple #[.agg #[.int .i64 (0), .int .i64 (0), .bool (false)], .bool false, .int .i64 re]) (by unfold results; go_simp) rfl ⟨rfl, ?_⟩
    exact (BACK.out _ _ (HS2.out.of_eq (show _ = (pts b4 (facO ⟨0, 0, false⟩) * A) * Y by ac_rfl))).less

end Go.Proofs.Yticljfpippbkkaa

/-
  Behind a factor: a unit that comes, or a register. Conditions: those that each theorem names.
-/
namespace Go.Proofs.Yticljfpippbkkaa
open Go.RowKit Go.Sp
variable {W w w' : World} {A : HProp} {bx bs bt N : Nat} {L : List Tok} {S : TabS}

theorem blanks_stop : ∀ l : List Tok, ∀ x l', blanksM l = x :: l' → blankB x = false
  | [], x, l', h => by simp [blanksM] at h
  | y :: l, x, l', h => by
    rw [blanksM] at h
    split at h
    · exact blanks_stop l x l' h
    · rename_i hb
      simp only [List.cons.injEq] at h
      rw [← h.1]
      simpa using hb
theorem ScAt.rowT_nil (h : ScAt W A bx bs bt L N S w) : ScAt W (rowT (.slice none 0 0) [] * A) bx bs bt L N S w := by
  obtain ⟨Y, h1, back⟩ := h.focus
  exact back _ _ ((Sat.row_nil h1).of_eq (by unfold rowT; ac_rfl))
abbrev boxP (bx : Nat) : Obj := .cells #[.pointer (some ⟨bx, 0, none⟩)] 81

theorem infoStr : ∃ i, Try.prog.info? 9 = some i := by
  cases h : Try.prog.info? 9 with
  | none =>
    have h2 : (Try.prog.info? 9).isSome = true := by kernel_rfl
    rw [h] at h2
    cases h2
  | some i => exact ⟨i, rfl⟩
theorem cellsOf_str : Try.prog.cellsOf 9 = 1 := by kernel_rfl
theorem size_str1 (w : World) : (sizeOf 9).run Try.prog w = .ok 1 w := by
  obtain ⟨i, hi⟩ := infoStr
  rw [run_sizeOf (P := Try.prog) w hi, cellsOf_str]
/-- a unit's name out of the list of units -/
theorem idx9 (k : Nat) (hk : k < 9) (w : World) : (Instr.index 156 (.agg #[.string ⟨#[112, 116]⟩, .string ⟨#[105, 110]⟩, .string ⟨#[112, 99]⟩, .string ⟨#[99, 109]⟩, .string ⟨#[109, 109]⟩, .string ⟨#[98, 112]⟩, .string ⟨#[100, 100]⟩, .string ⟨#[99, 99]⟩, .string ⟨#[115, 112]⟩]) (.int .i64 k)).run Try.prog w =
    .ok (.string ⟨((unitsL.getD k ([], 0, 0)).1).toArray⟩) w := by
  have hu := Try.underlying156
  have hs := size_str1 w
  have : k = 0 ∨ k = 1 ∨ k = 2 ∨ k = 3 ∨ k = 4 ∨ k = 5 ∨ k = 6 ∨ k = 7 ∨ k = 8 := by omega
  rcases this with rfl | rfl | rfl | rfl | rfl | rfl | rfl | rfl | rfl <;> (simp only [Instr.index, Sem.run_bind, asIntOf, run_underlying hu w, Result.andThen_ok, Sem.run_pure]; go_simp; try rfl)
theorem unit_mem (k : Nat) (hk : k < 9) : unitsL.getD k ([], 0, 0) ∈ unitsL ∧ (unitsL.getD k ([], 0, 0)).1 ≠ [] ∧ (unitsL.getD k ([], 0, 0)).1.length ≤ 1000 := by
  have : k = 0 ∨ k = 1 ∨ k = 2 ∨ k = 3 ∨ k = 4 ∨ k = 5 ∨ k = 6 ∨ k = 7 ∨ k = 8 := by omega
  rcases this with rfl | rfl | rfl | rfl | rfl | rfl | rfl | rfl | rfl <;> simp [unitsL]
theorem unitGo_drop (x : Fac) (l : List Tok) (k : Nat) (hk : k < 9) : unitGo x l (unitsL.drop k) = match keyM (unitsL.getD k ([], 0, 0)).1 l with
    | some l2 => some ((measuredM x (unitsL.getD k ([], 0, 0))).1, (measuredM x (unitsL.getD k ([], 0, 0))).2, optM l2)
    | none => unitGo x l (unitsL.drop (k + 1)) := by
  have hl : k < unitsL.length := hk
  rw [List.drop_eq_getElem_cons hl, unitGo, List.getD_eq_getElem?_getD, List.getElem?_eq_getElem hl]
  rfl
set_option maxRecDepth 100000 in
set_option maxHeartbeats 8000000 in
theorem unit_some {x : Fac} (hc : (registerM S (blanksM L)).2.2.2.1 ≠ 0 ∨ (registerM S (blanksM L)).2.2.1 = true ∨ (unitGo x (blanksM L) unitsL).isSome = true) (hl : L.length ≤ 2000000) (h : ScAt W A bx bs bt L N S w) :
    Calls Try.prog 57 #[.pointer (some ⟨bx, 0, none⟩), x.val] w fun e w' => e = .returned (.tuple #[.int .i64 (unitM S x L).1, .int .i64 (unitM S x L).2.1]) ∧ ScAt W A bx bs bt (unitM S x L).2.2 N S w' := by
  obtain ⟨xi, xf, xm⟩ := x
  have h1 := (h.alloc (boxP bx)).alloc (facO ⟨xi, xf, xm⟩)
  obtain ⟨b2, hb2⟩ : ∃ b2, w.heap.size = b2 := ⟨_, rfl⟩
  obtain ⟨b3, hb3⟩ : ∃ b3, (w.alloc (boxP bx)).heap.size = b3 := ⟨_, rfl⟩
  have hb4 : b2 + 1 = b3 := by rw [← hb2, ← hb3]; simp
  obtain ⟨w1, hw1⟩ : ∃ w1, (w.alloc (boxP bx)).alloc (facO ⟨xi, xf, xm⟩) = w1 := ⟨_, rfl⟩
  rw [hw1, hb2, hb3] at h1
  have H := Lib.hid (h1.of_eq (show _ = pts b2 (boxP bx) * (pts b3 (facO ⟨xi, xf, xm⟩) * A) by ac_rfl)).rowT_nil
  obtain ⟨R, hR⟩ : ∃ R, unitM S ⟨xi, xf, xm⟩ L = R := ⟨_, rfl⟩
  rw [hR]
  unfold unitM at hR
  simp only at hR
  have HR := Lib.hid hR
  have HW1 := Lib.hid hw1
  have HL := Lib.hid hl
  have HC := Lib.hid hc
  obtain ⟨i0, hi, hz0, hz1, hz2⟩ := info_parts3 info_tok
  have HI := Lib.hid hi
  have HZ0 := Lib.hid hz0
  have HZ1 := Lib.hid hz1
  have HZ2 := Lib.hid hz2
  clear h h1 hR hw1 hl hc hi hz0 hz1 hz2
  go_enter Try.func57, Try.ntmps57
  go_upto_block 0 with fail
  rw [HW1.out]
  clear HW1 hb2 hb3
  go_cut [6] from 7 to 40 (fun s6 wx => ∃ (T : List Tok), T ++ blanksM L = L ∧ (∀ y ∈ T, blankB y = true) ∧ ScAt W (rowT s6 T * (pts b2 (boxP bx) * (pts b3 (facO ⟨xi, xf, xm⟩) * A))) bx bs bt (blanksM L) N S wx)
  case first =>
    go_wp2_with fail
    go_loopg [6] (L.length + 1) (fun gg s6 wx => ∃ (T L' : List Tok), T ++ L' = L ∧ (∀ y ∈ T, blankB y = true) ∧ gg = L'.length + 1 ∧ blanksM L' = blanksM L ∧ ScAt W (rowT s6 T * (pts b2 (boxP bx) * (pts b3 (facO ⟨xi, xf, xm⟩) * A))) bx bs bt L' N S wx)
    case atStart => exact ⟨[], L, rfl, by simp, rfl, rfl, H.out⟩
    case round =>
      obtain ⟨T, L', hT, hTb, rfl, hbl, hx⟩ := hrel
      have HTT := Lib.hid hT
      have HTB := Lib.hid hTb
      have HBL := Lib.hid hbl
      have HX := Lib.hid hx
      have hTL : T.length + L'.length ≤ 2000000 := by
        have := congrArg List.length HTT.out
        rw [List.length_append] at this
        have := HL.out
        omega
      clear hT hTb hbl hx H
      obtain ⟨c0, -, lb⟩ := HX.out.cells
      have p0 := HX.out.sat.r.cell (i := 0) rfl
      have hm1 := fun n => m_next n bs wr
      have HN1 := Lib.hid (scnext_any HX.out)
      go_wp2_with fail
      with_reducible refine Calls.mono HN1.out ?_
      rintro e w2 ⟨rfl, h2⟩
      clear c0 lb hm1 HN1 HX p0
      cases L' with
      | nil =>
        have H2 := Lib.hid (h2.ext ((Ext.refl _).alloc (o := tok0.box)))
        clear h2
        go_wp2
        go_meet
        have hbl := HBL.out
        rw [blanksM] at hbl
        rw [← hbl]
        have h1 := HTT.out
        rw [List.append_nil] at h1
        exact ⟨T, by rw [List.append_nil]; exact h1, HTB.out, H2.out⟩
      | cons x L' =>
        simp only [List.headD_cons, List.isEmpty_cons, Bool.not_false, List.tail_cons, List.length_cons] at *
        go_upto_region 4 with fail
        obtain ⟨w3, hw3⟩ : ∃ w3, w2.alloc x.box = w3 := ⟨_, rfl⟩
        obtain ⟨bk, hbk⟩ : ∃ bk, w2.heap.size = bk := ⟨_, rfl⟩
        have hx3 := h2.alloc x.box
        rw [hw3, hbk] at hx3
        rw [show w2.alloc (.cells #[.int .i64 x.cat, .int .u8 x.chr.toNat, .string x.name] 28) = w3 from hw3, hbk]
        have d0 := hx3.sat.cell (i := 0) rfl
        have d1 := hx3.sat.cell (i := 1) rfl
        have d2 := hx3.sat.cell (i := 2) rfl
        have ld := hx3.sat.lt
        have HX3 := Lib.hid hx3
        clear hx3 hw3 hbk h2
        go_wp2_with fail
        with_reducible refine Calls.mono (blank_any x) ?_
        rintro e w4 ⟨rfl, hex⟩
        have HX4 := Lib.hid (HX3.out.ext hex)
        have e0 := hex.cell d0
        have e1 := hex.cell d1
        have e2 := hex.cell d2
        have le := hex.lt ld
        clear hex HX3 d0 d1 d2 ld
        obtain ⟨Bq, hBq⟩ : ∃ Bq, blankB x = Bq := ⟨_, rfl⟩
        have HBQ := Lib.hid hBq
        rw [hBq]
        clear hBq
        cases Bq with
        | true =>
          obtain ⟨Y, h5, back⟩ := HX4.out.focus
          have HBK := Lib.hid back
          have h6 := h5.of_eq (show _ = rowT u6 T * (pts bk x.box * ((pts b2 (boxP bx) * (pts b3 (facO ⟨xi, xf, xm⟩) * A)) * Y)) by ac_rfl)
          obtain ⟨sa, sc, hu⟩ := (rowT_rd h6).val
          subst hu
          have HS6 := Lib.hid h6
          obtain ⟨tn, htn⟩ : ∃ tn, T.length = tn := ⟨_, rfl⟩
          rw [htn] at HS6 hTL
          have HTN := Lib.hid htn
          clear h5 h6 back htn HX4
          rw [HTN.out]
          go_wp2_with (at_builtin; refine wpList_append_sep rfl _ _ 22 rfl i0 _ 32 Try.underlying22 HI.out HZ0.out HZ1.out HZ2.out rfl rfl HS6.out.allocD ⟨w4.heap.size, 0, none⟩ 1 1 x.cells rfl rfl ?_ ?_ ?_ ?_ ?_)
          · exact new_cells _ _ _
          · simp [Value.oneCell', Tok.cells]
          · have := HTN.out; simp [maxLen]; omega
          · have := HTN.out; omega
          intro v' w5 h7
          have h8 := rowT_snoc (acc := T) (t := x) h7 (by rw [HTN.out]) rfl
          have H8 := Lib.hid (HBK.out (pts bk x.box * (rowT v' (T ++ [x]) * (pts b2 (boxP bx) * (pts b3 (facO ⟨xi, xf, xm⟩) * A)))) w5 (h8.of_eq (by ac_rfl))).less
          clear h7 h8 HS6 HBK e0 e1 e2 le
          go_wp2
          go_roundg (L'.length + 1)
          case measure => omega
          case rel => exact ⟨T ++ [x], L', by rw [← HTT.out]; simp, by intro y hy; rw [List.mem_append, List.mem_singleton] at hy; rcases hy with h | h; exact HTB.out y h; rw [h]; exact HBQ.out, rfl, by rw [← HBL.out, blanksM, if_pos HBQ.out], H8.out⟩
        | false =>
          have HX3 := Lib.hid HX4.out
          have d0 := e0
          have d1 := e1
          have d2 := e2
          clear HX4 e0 e1 e2
          go_upto_region 5 with fail
          have q0 := HX3.out.drew.sat.r.r.cell (i := 0) rfl
          have hb := HBL.out
          rw [blanksM, if_neg (by rw [HBQ.out]; simp)] at hb
          have HB3 := Lib.hid hb
          clear hb
          have HB := Lib.hid (scback_any x (by omega) HX3.out.drew)
          obtain ⟨W9, hW9⟩ : ∃ W9, w4.drew = W9 := ⟨_, rfl⟩
          rw [hW9] at HB
          obtain ⟨j0, -, -⟩ := HX3.out.drew.cells
          rw [hW9] at j0 q0
          have j1 := (show w4.drew.cell? _ = _ from d0)
          have j2 := (show w4.drew.cell? _ = _ from d1)
          have j3 := (show w4.drew.cell? _ = _ from d2)
          rw [hW9] at j1 j2 j3
          have hm2 := fun n => m_back n bs W9
          clear d0 d1 d2 HX3
          refine wp_region_tail (fun w' => w' = W9) 5 (by kernel_rfl) (by kernel_rfl) hW9 ?_
          clear hW9
          simp only [List.take_succ_cons, List.take_zero, List.drop_succ_cons, List.drop_zero]
          iterate 5
            with_reducible refine wpQuiet_step ?_
            intro K hK
            go_simp
            first
              | (with_reducible refine hK _ ?_
                 clear hK K)
              | (rw [if_neg (by intro h; cases h)]
                 with_reducible refine hK _ ?_
                 clear hK K)
              | (refine Exists.intro _ ⟨fun w9 hw9 => ?_, ?_⟩
                 rotate_left 1
                 with_reducible refine hK _ ?_
                 clear hK K
                 rotate_left 1
                 · subst hw9; go_simp; try with_reducible rfl)
          refine wpQuiet_nil ?_
          rintro w17 rfl
          go_wp2_with fail
          with_reducible refine Calls.mono HB.out ?_
          rintro e w5 ⟨rfl, h5⟩
          have HX4 := Lib.hid h5
          clear h5 HB j0 j1 j2 j3 q0 hm2
          go_wp2
          go_meet
          rw [← HB3.out]
          exact ⟨T, HTT.out, HTB.out, HX4.out.less⟩
  case rest =>
    obtain ⟨T, hT, hTb, hx⟩ := hcut
    have HTT := Lib.hid hT
    have HX := Lib.hid hx
    have hbl := blanks_len L
    have HBL := Lib.hid hbl
    have p0 := HX.out.sat.r.cell (i := 0) rfl
    clear hT hTb hx H
    obtain ⟨bl, hblv⟩ : ∃ bl, blanksM L = bl := ⟨_, rfl⟩
    rw [hblv] at HX HR HC hbl
    have hLL := HL.out
    have HG := Lib.hid (register_any (by omega) HX.out)
    have hrl := register_len S bl
    have hrb : (registerM S bl).2.2.2.1 = 0 → (registerM S bl).2.2.1 = false → (registerM S bl).2.2.2.2 = bl := by
      cases bl with
      | nil => intro _ _; rfl
      | cons y t =>
        rw [registerM_cons]
        split
        · intro _ h; cases h
        · split
          · intro _ _; rfl
          · unfold regEnd
            split
            · intro h; simp only at h; rename_i hne; exact absurd h hne
            · split
              · intro h; simp at h
              · intro _ h; cases h
    obtain ⟨⟨rc, ri, rb, re, rl⟩, hr⟩ : ∃ r, registerM S bl = r := ⟨_, rfl⟩
    rw [hr] at HR HG HC hrl hrb
    simp only at HR HC hrl hrb
    have HRB0 := Lib.hid hrb
    clear hr hrb
    go_wp2_with fail
    with_reducible refine Calls.mono HG.out ?_
    rintro e w2 ⟨rfl, h2⟩
    clear HX p0 HG
    have HX := Lib.hid h2
    clear h2
    by_cases he : re = 0
    · subst he
      have hr := HR.out
      rw [if_neg (by simp)] at hr
      cases rb with
      | true =>
        rw [if_pos rfl] at hr
        have HR2 := Lib.hid hr
        clear hr HR HC
        go_upto_region 11 with fail
        obtain ⟨Y, hy⟩ := HX.out.satx
        obtain ⟨C, hC⟩ : ∃ C : World → Prop, C = fun w' => ∃ Y, Sat W (pts b2 (boxP bx) * (pts b3 (facO ⟨xi, xf, xm⟩) * Y)) w' := ⟨_, rfl⟩
        have HCC := Lib.hid (show ∀ w', C w' → w'.cell? ⟨b2, 0, none⟩ = some (.pointer (some ⟨bx, 0, none⟩)) ∧ w'.cell? ⟨b3, 0, none⟩ = some (.int .i64 xi) ∧ w'.cell? ⟨b3, 1, none⟩ = some (.int .i64 xf) ∧ w'.cell? ⟨b3, 2, none⟩ = some (.bool xm) from fun w' h => by
          rw [hC] at h
          obtain ⟨Y, h⟩ := h
          exact ⟨h.cell rfl, h.r.cell rfl, h.r.cell rfl, h.r.cell rfl⟩)
        have HC2 := Lib.hid (show ∀ Z L' w', ScAt W (rowT u6 T * (pts b2 (boxP bx) * (pts b3 (facO ⟨xi, xf, xm⟩) * Z))) bx bs bt L' N S w' → C w' from fun Z L' w' h => by
          rw [hC]
          obtain ⟨Y, h⟩ := h.focus
          exact ⟨rowT u6 T * (Z * Y), h.1.of_eq (by ac_rfl)⟩)
        have HW := Lib.hid (fun w' (h : ScAt W (rowT u6 T * (pts b2 (boxP bx) * (pts b3 (facO ⟨xi, xf, xm⟩) * A))) bx bs bt rl N S w') => worth_any rc ri h)
        obtain ⟨wv, hwv⟩ : ∃ wv, worthM S rc ri = wv := ⟨_, rfl⟩
        rw [hwv] at HR2 HW
        obtain ⟨⟨v1, v2⟩, htm⟩ : ∃ t, timesM ⟨xi, xf, xm⟩ wv = t := ⟨_, rfl⟩
        have HTM := Lib.hid (fun w => ntimes_any bx ⟨xi, xf, xm⟩ wv w)
        rw [htm] at HR2 HTM
        have hr := HR2.out
        subst hr
        clear hC hy HR2 hwv htm
        refine wp_region_E C (by kernel_rfl) ?_
        have h9 := HX.out.drew
        obtain ⟨W9, hW9⟩ : ∃ W9, w2.drew = W9 := ⟨_, rfl⟩
        rw [hW9] at h9
        rw [hW9]
        have H9 := Lib.hid h9
        clear h9 hW9 HX
        refine wpE_take (i := 0) (q := 6) (v := ?_) rfl (by kernel_rfl) (by kernel_rfl) (by kernel_rfl) (by kernel_rfl) (by kernel_rfl) (fun _ _ _ h => h) (by rfl) ?_ ?_
        rotate_left 1
        · intro w hw; (obtain ⟨y1, y2, y3, y4⟩ := HCC.out _ hw; go_simp; try with_reducible rfl)
        refine wpE_take (i := 1) (q := 6) (v := ?_) rfl (by kernel_rfl) (by kernel_rfl) (by kernel_rfl) (by kernel_rfl) (by kernel_rfl) (fun _ _ _ h => h) (by rfl) ?_ ?_
        rotate_left 1
        · intro w hw; (obtain ⟨y1, y2, y3, y4⟩ := HCC.out _ hw; go_simp; try with_reducible rfl)
        refine wpE_take (i := 2) (q := 5) (v := ?_) rfl (by kernel_rfl) (by kernel_rfl) (by kernel_rfl) (by kernel_rfl) (by kernel_rfl) (fun _ _ _ h => h) (by rfl) ?_ ?_
        rotate_left 1
        · intro w hw; (obtain ⟨y1, y2, y3, y4⟩ := HCC.out _ hw; go_simp; try with_reducible rfl)
        refine wpE_take (i := 3) (q := 5) (v := ?_) rfl (by kernel_rfl) (by kernel_rfl) (by kernel_rfl) (by kernel_rfl) (by kernel_rfl) (fun _ _ _ h => h) (by rfl) ?_ ?_
        rotate_left 1
        · intro w hw; go_simp; try with_reducible rfl
        refine wpE_take (i := 4) (q := 5) (v := ?_) rfl (by kernel_rfl) (by kernel_rfl) (by kernel_rfl) (by kernel_rfl) (by kernel_rfl) (fun _ _ _ h => h) (by rfl) ?_ ?_
        rotate_left 1
        · intro w hw; go_simp; try with_reducible rfl
        refine wpE_one (i := 5) rfl (by kernel_rfl) (HC2.out _ _ _ H9.out) (fun K hK => ?_)
        go_simp
        with_reducible refine Calls.mono (HW.out _ H9.out) ?_
        rintro e w3 ⟨rfl, h3⟩
        have H3 := Lib.hid h3
        clear h3 H9
        go_simp
        refine hK _ _ ?_
        clear hK K
        refine wpE_one (i := 6) rfl (by kernel_rfl) (HC2.out _ _ _ H3.out) (fun K hK => ?_)
        go_simp
        with_reducible refine Calls.mono (HTM.out _) ?_
        rintro e w4 ⟨rfl, hex⟩
        have H4 := Lib.hid (H3.out.ext hex)
        clear hex H3
        go_simp
        refine hK _ _ ?_
        clear hK K
        refine wpE_take (i := 7) (q := 9) (v := ?_) rfl (by kernel_rfl) (by kernel_rfl) (by kernel_rfl) (by kernel_rfl) (by kernel_rfl) (fun _ _ _ h => h) (by rfl) ?_ ?_
        rotate_left 1
        · intro w hw; go_simp; try with_reducible rfl
        refine wpE_take (i := 8) (q := 10) (v := ?_) rfl (by kernel_rfl) (by kernel_rfl) (by kernel_rfl) (by kernel_rfl) (by kernel_rfl) (fun _ _ _ h => h) (by rfl) ?_ ?_
        rotate_left 1
        · intro w hw; go_simp; try with_reducible rfl
        refine wpE_one (i := 9) rfl (by kernel_rfl) (HC2.out _ _ _ H4.out) (fun K hK => ?_)
        go_simp
        refine hK _ _ ?_
        clear hK K
        refine wpE_one (i := 10) rfl (by kernel_rfl) (HC2.out _ _ _ H4.out) (fun K hK => ?_)
        go_simp
        refine hK _ _ ?_
        clear hK K
        refine wpE_done (by kernel_rfl) (by kernel_rfl) ?_
        go_wp2
        exact bodyPost_ret (v := .tuple #[.int .i64 (v1), .int .i64 (v2)]) (by unfold results; go_simp) rfl ⟨rfl, H4.out.less.less.less⟩
      | false =>
        rw [if_neg (by simp)] at hr
        have HR2 := Lib.hid hr
        have HRB := Lib.hid (HRB0.out rfl rfl)
        have HC2 := Lib.hid (show (unitGo ⟨xi, xf, xm⟩ bl unitsL).isSome = true from by
          rcases HC.out with h | h | h
          · exact absurd rfl h
          · cases h
          · exact h)
        clear hr HR HC
        have p0 := HX.out.sat.r.cell (i := 0) rfl
        have g0 := HX.out.sat.r.r.cell (i := 0) rfl
        have g1 := HX.out.sat.r.r.cell (i := 1) rfl
        have g2 := HX.out.sat.r.r.cell (i := 2) rfl
        have hix := fun (k : Nat) (hk : k < 9) (w : World) => idx9 k hk w
        have HIX := Lib.hid hix
        have hrl2 : rl = bl := HRB.out
        subst hrl2
        clear p0 g0 g1 g2 hix
        go_wp2_with fail
        go_loopg [61] 9 (fun gg s61 wx => ∃ k : Nat, k ≤ 9 ∧ gg = 9 - k ∧ s61 = .int .i64 k ∧ unitGo ⟨xi, xf, xm⟩ rl (unitsL.drop k) = unitGo ⟨xi, xf, xm⟩ rl unitsL ∧ ScAt W (rowT u6 T * (pts b2 (boxP bx) * (pts b3 (facO ⟨xi, xf, xm⟩) * A))) bx bs bt rl N S wx)
        case atStart => exact ⟨0, by omega, rfl, rfl, rfl, HX.out⟩
        case round =>
          obtain ⟨k, hk, hg, rfl, hu, hx⟩ := hrel
          have HU := Lib.hid hu
          have HX2 := Lib.hid hx
          clear hu hx HX
          have p0 := HX2.out.sat.r.cell (i := 0) rfl
          by_cases hk9 : k < 9
          · have hix := HIX.out k hk9
            obtain ⟨hm1, hm2, hm3⟩ := unit_mem k hk9
            have hdr := unitGo_drop ⟨xi, xf, xm⟩ rl k hk9
            obtain ⟨u, hu⟩ : ∃ u, unitsL.getD k ([], 0, 0) = u := ⟨_, rfl⟩
            rw [hu] at hix hm1 hm2 hm3 hdr
            rw [HU.out] at hdr
            have HKW := Lib.hid (sckey_at ⟨u.1.toArray⟩ u.1 rfl hm2 hm3 (by omega) HX2.out)
            have HMS := Lib.hid (fun w => measured_any bx ⟨xi, xf, xm⟩ u hm1 w)
            obtain ⟨kw, hkw⟩ : ∃ kw, keyM u.1 rl = kw := ⟨_, rfl⟩
            rw [hkw] at HKW hdr
            have HDR := Lib.hid hdr
            obtain ⟨⟨v1, v2⟩, hms⟩ : ∃ t, measuredM ⟨xi, xf, xm⟩ u = t := ⟨_, rfl⟩
            rw [hms] at HMS HDR
            simp only at HDR
            have i9 : (k : Int) < 9 := by omega
            generalize (⟨u.1.toArray⟩ : ByteArray) = key at *
            clear hm1 hm2 hm3 hdr hu hms HX2
            go_wp2_with fail
            with_reducible refine Calls.mono HKW.out ?_
            rintro e w3 ⟨rfl, h3⟩
            have H3 := Lib.hid h3
            clear h3 HKW p0
            have p0 := H3.out.sat.r.cell (i := 0) rfl
            cases kw with
            | some l2 =>
              have hl2 := keyM_len hkw
              have HO := Lib.hid (scopt_any (L := l2) (by omega) H3.out)
              simp only [Option.isSome_some]
              go_wp2_with fail
              with_reducible refine Calls.mono HO.out ?_
              rintro e w4 ⟨rfl, h4⟩
              have H4 := Lib.hid h4
              clear h4 HO H3 p0
              have p0 := H4.out.sat.r.cell (i := 0) rfl
              have g0 := H4.out.sat.r.r.cell (i := 0) rfl
              have g1 := H4.out.sat.r.r.cell (i := 1) rfl
              have g2 := H4.out.sat.r.r.cell (i := 2) rfl
              go_wp2_with fail
              with_reducible refine Calls.mono (HMS.out _) ?_
              rintro e w5 ⟨rfl, hex⟩
              have H5 := Lib.hid (H4.out.ext hex)
              clear hex H4 p0 g0 g1 g2
              have hr := HR2.out
              rw [HDR.out] at hr
              simp only at hr
              subst hr
              go_wp2
              exact bodyPost_ret (v := .tuple #[.int .i64 (v1), .int .i64 (v2)]) (by unfold results; go_simp) rfl ⟨rfl, H5.out.less.less.less⟩
            | none =>
              simp only [Option.isSome_none]
              go_wp2
              go_roundg (9 - (k + 1))
              case measure => omega
              case rel => exact ⟨k + 1, by omega, rfl, by go_num, HDR.out.symm, H3.out⟩
          · obtain rfl : k = 9 := by omega
            have hu := HU.out
            have hcc := HC2.out
            rw [← hu, show unitsL.drop 9 = [] from rfl] at hcc
            cases hcc
    · have hr := HR.out
      rw [if_pos he] at hr
      subst hr
      have q1 : (re == 0) = false := by rw [beq_eq_false_iff_ne]; exact he
      have b1 : (re != 0) = true := by rw [bne_iff_ne]; exact he
      clear HR
      go_wp2
      exact bodyPost_ret (v := .tuple #[.int .i64 (0), .int .i64 (re)]) (by unfold results; go_simp) rfl ⟨rfl, HX.out.less.less.less⟩

end Go.Proofs.Yticljfpippbkkaa
