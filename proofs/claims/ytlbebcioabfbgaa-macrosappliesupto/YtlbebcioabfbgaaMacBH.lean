/-
  The reference's Apply and Expand. Conditions: those that each theorem names.
-/
import Derived.Test.YtlbebcioabfbgaaMacBG
namespace Go.Proofs.Ytlbebcioabfbgaa
open Go.RowKit Go.Sp
variable {W w w' : World} {F : HProp}

theorem place_body {P B : List Tok} (h : check P B = true) : ∀ t ∈ B, placeN t = if t.cat = 17 then t.chr.toNat else 0 := by
  intro t ht
  by_cases hc : t.cat = 17
  · rw [if_pos hc]
    unfold check at h
    simp only [Bool.and_eq_true, decide_eq_true_eq] at h
    obtain ⟨⟨hP, hB⟩, h⟩ := h
    cases hk : chkP 0 P with
    | none => rw [hk] at h; cases h
    | some n =>
      rw [hk] at h
      simp only [Bool.and_eq_true] at h
      have hb := List.all_eq_true.1 h.1 t ht
      have hr : rightB t = false := by simp [rightB, hc]
      simp only [bodyB, hr, Bool.false_or, Bool.and_eq_true] at hb
      exact (placeN_yes hb.1).1
  · rw [if_neg hc]
    cases hp : placeB t
    · exact placeN_no hp
    · exact absurd (placeN_yes hp).2.2.1 hc

theorem count_refAt (P : List Tok) (n : Nat) (vp vb : Value) (long : Bool) (w : World) (hn : count P = n) (hp : RdT w vp P) (hnP : P.length ≤ 4000000000) :
    Calls Try.prog 35 #[.agg #[vp, vb, .bool long]] w fun e w' => e = .returned (.int .i64 n) ∧ Ext w w' := hn ▸ count_ref P vp vb long w hp hnP

abbrev aBox (vp : Value) (ab : Option Addr) (nb cb : Nat) (long : Bool) : Obj := .cells #[vp, .slice ab nb cb, .bool long] 29

set_option maxRecDepth 100000 in
set_option maxHeartbeats 8000000 in
theorem applyR_any (P B : List Tok) (A : List (List Tok)) (vp vb va : Value) (long : Bool) (w : World) (hp : RdT w vp P) (hb : RdT w vb B) (ha : RdTT w va A) (hnP : P.length ≤ 4000000000) (hnB : B.length ≤ 4000000000) (hnA : A.length ≤ 4000000000)
    (hnI : ∀ a ∈ A, a.length ≤ 4000000000) : Calls Try.prog 25 #[.agg #[vp, vb, .bool long], va] w (ListPost w (applyM P B A)) := by
  obtain ⟨i0, hi, hz0, hz1, hz2⟩ := info_parts info_tok
  have HI := Lib.hid hi
  have HZ0 := Lib.hid hz0
  have HZ1 := Lib.hid hz1
  have HZ2 := Lib.hid hz2
  clear hi hz0 hz1 hz2
  obtain ⟨r, hr⟩ : ∃ r, applyM P B A = r := ⟨_, rfl⟩
  rw [hr]
  obtain ⟨nb, hnb⟩ : ∃ nb, B.length = nb := ⟨_, rfl⟩
  obtain ⟨na, hna⟩ : ∃ na, A.length = na := ⟨_, rfl⟩
  obtain ⟨ab, cb, hvb, hcb⟩ := hb.capd
  have ha' := ha
  obtain ⟨-, -, -, ⟨aa, ca, hva, hca⟩, -⟩ := ha'
  obtain ⟨nc, hnc⟩ : ∃ nc, count P = nc := ⟨_, rfl⟩
  have HR := Lib.hid hr
  have HP := Lib.hid hp
  have HB := Lib.hid hb
  have HA := Lib.hid ha
  have HNP := Lib.hid hnP
  have HNB := Lib.hid hnB
  have HNI := Lib.hid hnI
  have NB := Lib.hid hnb
  have NA := Lib.hid hna
  have NC := Lib.hid hnc
  rw [hnb] at hvb hcb hnB
  rw [hna] at hva hca hnA
  clear hr hp hb ha hnb hna hnc hnP hnI
  subst hvb hva
  have H1 := Lib.hid ((Sat.start w).alloc (aBox vp ab nb cb long))
  have HCKC := Lib.hid (checkR_any P B _ _ long _ (HP.out.ext H1.out.r.toExt) (HB.out.ext H1.out.r.toExt) HNP.out HNB.out)
  go_enter Try.func25, Try.ntmps25
  go_wp2_with fail
  generalize w.alloc (aBox vp ab nb cb long) = W1 at *
  generalize w.heap.size = bm at *
  refine Calls.mono HCKC.out ?_
  rintro e w1 ⟨rfl, hx⟩
  have HS2 := Lib.hid (H1.out.ext hx)
  clear hx HCKC H1
  cases hck : check P B
  · have HE := Lib.hid (show r = .error 170 by rw [← HR.out]; exact apply_170 hck)
    rw [checkE_no hck]
    clear hck
    go_wp2
    go_ret2
    exact ListPost.no HE.out HS2.out.r.toExt
  rw [checkE_yes hck]
  have HCK := Lib.hid hck
  clear hck
  have m0 := HS2.out.cell (i := 0) rfl
  have m1 := HS2.out.cell (i := 1) rfl
  have m2 := HS2.out.cell (i := 2) rfl
  have lm := HS2.out.lt
  have HCT := Lib.hid (count_refAt P nc vp (.slice ab nb cb) long w1 NC.out (HP.out.ext HS2.out.r.toExt) HNP.out)
  by_cases hac : na = nc
  · subst hac
    go_wp2_with fail
    refine Calls.mono HCT.out ?_
    rintro e w2 ⟨rfl, hx⟩
    have HS3 := Lib.hid (HS2.out.ext hx)
    clear hx m0 m1 m2 lm HS2
    obtain ⟨T, hT⟩ : ∃ T, sizeM A B = T := ⟨_, rfl⟩
    have HT := Lib.hid hT
    have HAC := Lib.hid (show A.length = count P by rw [NA.out, NC.out])
    have HPL0 := Lib.hid (show ∀ t ∈ B, t.cat = 17 → 1 ≤ t.chr.toNat ∧ t.chr.toNat ≤ na from by have := check_place HCK.out; rw [NC.out] at this; exact this)
    clear hT
    go_wp2_with fail
    go_loopw [6, 7] (fun s i wr => ∃ k sz : Nat, k ≤ nb ∧ sz ≤ 20000 ∧ s = .int .i64 sz ∧ i = .int .i64 k ∧ sz + sizeM A (B.drop k) = T ∧ Sat w (pts bm (aBox vp ab nb cb long) * own w) wr) (fun _ i _ => nb - (intOf i).toNat)
    case atStart => exact ⟨0, 0, by omega, by omega, rfl, rfl, by rw [Nat.zero_add]; exact HT.out, HS3.out⟩
    case round =>
      obtain ⟨k, sz, hk, hsz, rfl, rfl, ha, hx⟩ := hrel
      have HA2 := Lib.hid ha
      have HX := Lib.hid hx
      clear ha hx HS3
      have m1 := HX.out.cell (i := 1) rfl
      have lm := HX.out.lt
      by_cases hlt : k < nb
      · have hlt' : k < B.length := by rw [NB.out]; exact hlt
        obtain ⟨b', off, rfl, ⟨c0, c1, c2⟩, hb'⟩ := (HB.out.ext HX.out.extR).at hlt'
        have HSD := Lib.hid (sizeM_drop A B k hlt')
        have HPL := Lib.hid (HPL0.out B[k] (List.getElem_mem hlt'))
        have HPN := Lib.hid (place_body HCK.out B[k] (List.getElem_mem hlt'))
        generalize B[k] = t at *
        have lt1 : (k : Int) < (nb : Int) := by omega
        by_cases h17 : t.cat = 17
        · obtain ⟨g1, g2⟩ := HPL.out h17
          obtain ⟨d, hd⟩ : ∃ d, t.chr.toNat = d + 1 := ⟨t.chr.toNat - 1, by omega⟩
          have hda : d < A.length := by rw [NA.out]; omega
          have HPC := Lib.hid (show ∀ w, Calls Try.prog 50 #[.agg #[.int .i64 t.cat, .int .u8 t.chr.toNat, .string t.name]] w fun e w' => e = .returned (.int .i64 ((d : Int) + 1)) ∧ w.alloc t.box = w' from fun w => by
            have := placeR_any t w
            rw [HPN.out, if_pos h17, hd] at this
            exact_mod_cast this)
          obtain ⟨b2, off2, xa, xc, rfl, hcell, -, hb2⟩ := (HA.out.ext HX.out.extR).at hda
          have hle := HNI.out A[d] (List.getElem_mem hda)
          have HS4 := Lib.hid (show sizeM A (B.drop k) = A[d].length + sizeM A (B.drop (k + 1)) by rw [HSD.out, if_pos h17, hd, Nat.add_sub_cancel, List.getD_eq_getElem?_getD, List.getElem?_eq_getElem hda]; rfl)
          generalize A[d] = X at *
          obtain ⟨nx, hnx⟩ : ∃ nx, X.length = nx := ⟨_, rfl⟩
          rw [hnx] at hcell hle
          have HNX := Lib.hid hnx
          have lt2 : (d : Int) < (na : Int) := by omega
          clear h17 g1 g2 hd hnx
          by_cases hbig : 20000 < sz + nx
          · have HE := Lib.hid (show r = .error 6 by
              rw [← HR.out]
              refine apply_6 HCK.out HAC.out ?_
              have e1 := HA2.out
              rw [HS4.out, HNX.out] at e1
              rw [HT.out]; omega)
            have hb6 : (20000 : Int) < (sz : Int) + (nx : Int) := by omega
            clear hbig
            go_wp2_with (go_at_call 50; with_reducible refine Calls.mono (HPC.out _) ?_; rintro e w' ⟨rfl, rfl⟩)
            go_ret2
            exact ListPost.no HE.out HX.out.extR.alloc
          · have hb6 : ¬ (20000 : Int) < (sz : Int) + (nx : Int) := by omega
            have HN := Lib.hid (show sz + nx + sizeM A (B.drop (k + 1)) = T by have e1 := HA2.out; rw [HS4.out, HNX.out] at e1; omega)
            have hszn : sz + nx ≤ 20000 := by omega
            clear hbig
            go_wp2_with (go_at_call 50; with_reducible refine Calls.mono (HPC.out _) ?_; rintro e w' ⟨rfl, rfl⟩)
            go_roundw
            case rel => exact ⟨k + 1, sz + nx, by omega, hszn, by go_num, by go_num, HN.out, HX.out.allocD⟩
            case measure => simp [intOf]; omega
        · have HPC := Lib.hid (show ∀ w, Calls Try.prog 50 #[.agg #[.int .i64 t.cat, .int .u8 t.chr.toNat, .string t.name]] w fun e w' => e = .returned (.int .i64 0) ∧ w.alloc t.box = w' from fun w => by
            have := placeR_any t w
            rw [HPN.out, if_neg h17] at this
            exact this)
          have HS4 := Lib.hid (show sizeM A (B.drop k) = 1 + sizeM A (B.drop (k + 1)) by rw [HSD.out, if_neg h17])
          clear h17
          by_cases hbig : 20000 < sz + 1
          · have HE := Lib.hid (show r = .error 6 by
              rw [← HR.out]
              refine apply_6 HCK.out HAC.out ?_
              have e1 := HA2.out
              rw [HS4.out] at e1
              rw [HT.out]; omega)
            have hb6 : (20000 : Int) < (sz : Int) + 1 := by omega
            clear hbig
            go_wp2_with (go_at_call 50; with_reducible refine Calls.mono (HPC.out _) ?_; rintro e w' ⟨rfl, rfl⟩)
            go_ret2
            exact ListPost.no HE.out HX.out.extR.alloc
          · have hb6 : ¬ (20000 : Int) < (sz : Int) + 1 := by omega
            have HN := Lib.hid (show sz + 1 + sizeM A (B.drop (k + 1)) = T by have e1 := HA2.out; rw [HS4.out] at e1; omega)
            have hszn : sz + 1 ≤ 20000 := by omega
            clear hbig
            go_wp2_with (go_at_call 50; with_reducible refine Calls.mono (HPC.out _) ?_; rintro e w' ⟨rfl, rfl⟩)
            go_roundw
            case rel => exact ⟨k + 1, sz + 1, by omega, hszn, by go_num, by go_num, HN.out, HX.out.allocD⟩
            case measure => simp [intOf]; omega
      · have hkn : nb = k := by omega
        subst hkn
        have HTS := Lib.hid (show ¬ 20000 < sizeM A B by
          have e1 := HA2.out
          rw [List.drop_of_length_le (by rw [NB.out]; omega)] at e1
          simp only [sizeM] at e1
          rw [HT.out]; omega)
        obtain ⟨wo, hwo⟩ : ∃ wo : World, wo = wr := ⟨_, rfl⟩
        subst hwo
        go_wp2
        clear m1 lm
        go_loopw [9] (fun i wr => ∃ k : Nat, k ≤ na ∧ i = .int .i64 k ∧ ((A.drop k).all fun a => a.all rightB) = (A.all fun a => a.all rightB) ∧ Sat w (pts bm (aBox vp ab nb cb long) * own w) wr) (fun i _ => na - (intOf i).toNat)
        case atStart => exact ⟨0, by omega, rfl, rfl, HX.out⟩
        case round =>
          obtain ⟨k, hk2, rfl, ha, hx⟩ := hrel
          have HA3 := Lib.hid ha
          have HX5 := Lib.hid hx
          clear ha hx
          by_cases hlt : k < na
          · have hlt' : k < A.length := by rw [NA.out]; exact hlt
            obtain ⟨b2, off2, xa, xc, rfl, hcell, hrd, hbl⟩ := (HA.out.ext HX5.out.extR).at hlt'
            have HAD := Lib.hid (show ((A.drop k).all fun a => a.all rightB) = (A[k].all rightB && (A.drop (k + 1)).all fun a => a.all rightB) by rw [List.drop_eq_getElem_cons hlt', List.all_cons])
            have HRX := Lib.hid (rights_any A[k] _ _ hrd)
            generalize A[k] = X at *
            have lt2 : (k : Int) < (na : Int) := by omega
            obtain ⟨nx, hnx⟩ : ∃ nx, X.length = nx := ⟨_, rfl⟩
            rw [hnx] at hcell HRX
            clear hnx hrd
            go_wp2_with fail
            refine Calls.mono HRX.out ?_
            rintro e w4 ⟨rfl, hx⟩
            have HX6 := Lib.hid (HX5.out.ext hx)
            clear hx
            cases hrt : X.all rightB
            · have HE := Lib.hid (show r = .error 160 by rw [← HR.out]; exact apply_160 HCK.out HAC.out HTS.out (by rw [← HA3.out, HAD.out, hrt]; rfl))
              go_wp2
              go_ret2
              exact ListPost.no HE.out HX6.out.extR
            · have HA4 := Lib.hid (show ((A.drop (k + 1)).all fun a => a.all rightB) = (A.all fun a => a.all rightB) by rw [← HA3.out, HAD.out, hrt, Bool.true_and])
              go_wp2
              go_roundw
              case rel => exact ⟨k + 1, by omega, by go_num, HA4.out, HX6.out⟩
              case measure => simp [intOf]; omega
          · have hkn : na = k := by omega
            subst hkn
            have HB5 := Lib.hid (show (A.all fun a => a.all rightB) = true by
              rw [← HA3.out, List.drop_of_length_le (l := A) (i := na) (by rw [NA.out]; omega)]; rfl)
            have HLX := Lib.hid HX5.out
            obtain ⟨wo, hwo⟩ : ∃ wo : World, wo = wr := ⟨_, rfl⟩
            subst hwo
            have HE := Lib.hid (show r = .ok (subst A B) by rw [← HR.out]; exact apply_ok HCK.out HAC.out HTS.out HB5.out)
            have HLB := Lib.hid (show (subst A B).length ≤ 20000 by have := HTS.out; rw [subst_length]; omega)
            go_wp2
            go_loopw [10, 11] (fun s i wr => ∃ (k : Nat) (acc : List Tok), k ≤ nb ∧ i = .int .i64 k ∧ acc ++ subst A (B.drop k) = subst A B ∧ Sat w (rowT s acc * (pts bm (aBox vp ab nb cb long) * own w)) wr) (fun _ i _ => nb - (intOf i).toNat)
            case atStart => exact ⟨0, [], by omega, rfl, rfl, (Sat.row_nil (e := 46) (size := 3) HLX.out)⟩
            case round =>
              obtain ⟨k, acc, hk8, rfl, ha, hx⟩ := hrel
              have HA8 := Lib.hid ha
              have HX8 := Lib.hid hx
              clear ha hx
              have m1 := HX8.out.r.cell (i := 1) rfl
              have lm := HX8.out.r.lt
              by_cases hlt8 : k < nb
              · have hlt8' : k < B.length := by rw [NB.out]; exact hlt8
                obtain ⟨b', off, rfl, ⟨c0, c1, c2⟩, hb'⟩ := (HB.out.ext HX8.out.r.extR).at hlt8'
                have HSD := Lib.hid (subst_drop A B k hlt8')
                have HPL := Lib.hid (HPL0.out B[k] (List.getElem_mem hlt8'))
                have HPN := Lib.hid (place_body HCK.out B[k] (List.getElem_mem hlt8'))
                generalize B[k] = t at *
                have lt1 : (k : Int) < (nb : Int) := by omega
                by_cases h17 : t.cat = 17
                · obtain ⟨g1, g2⟩ := HPL.out h17
                  obtain ⟨d, hd⟩ : ∃ d, t.chr.toNat = d + 1 := ⟨t.chr.toNat - 1, by omega⟩
                  have hda : d < A.length := by rw [NA.out]; omega
                  have HPC := Lib.hid (show ∀ w, Calls Try.prog 50 #[.agg #[.int .i64 t.cat, .int .u8 t.chr.toNat, .string t.name]] w fun e w' => e = .returned (.int .i64 ((d : Int) + 1)) ∧ w.alloc t.box = w' from fun w => by
                    have := placeR_any t w
                    rw [HPN.out, if_pos h17, hd] at this
                    exact_mod_cast this)
                  obtain ⟨b2, off2, xa, xc, rfl, hcell, hrd, hb2⟩ := (HA.out.ext HX8.out.r.extR).at hda
                  have HS4 := Lib.hid (show acc ++ A[d] ++ subst A (B.drop (k + 1)) = subst A B by
                    rw [← HA8.out, HSD.out, if_pos h17, hd, Nat.add_sub_cancel, List.getD_eq_getElem?_getD, List.getElem?_eq_getElem hda, Option.getD_some, List.append_assoc])
                  generalize A[d] = X at *
                  have hlb : acc.length + X.length ≤ 20000 := by
                    have h1 := HLB.out
                    rw [← HS4.out] at h1
                    simp only [List.length_append] at h1
                    omega
                  have HRD := Lib.hid hrd
                  have lt2 : (d : Int) < (na : Int) := by omega
                  clear h17 g1 g2 hd hrd
                  go_wp2_with (first
                    | (go_at_call 50; with_reducible refine Calls.mono (HPC.out _) ?_; rintro e w' ⟨rfl, rfl⟩)
                    | (at_builtin; refine wpList_append_rd rfl _ _ 22 rfl i0 _ 32 Try.underlying22 HI.out HZ0.out HZ1.out HZ2.out rfl (by omega) rfl HX8.out.allocD _ X.length (flat X) rfl (HRD.out.ext (Ext.refl _).alloc).1 (flat_one X) ?_ ?_ ?_))
                  · simp [maxLen]; omega
                  · omega
                  intro v' w1 h6
                  have H6 := Lib.hid h6
                  clear h6
                  go_wp2
                  go_roundw
                  case rel => exact ⟨k + 1, acc ++ X, by omega, by go_num, HS4.out, rowT_app H6.out rfl⟩
                  case measure => simp [intOf]; omega
                · have HPC := Lib.hid (show ∀ w, Calls Try.prog 50 #[.agg #[.int .i64 t.cat, .int .u8 t.chr.toNat, .string t.name]] w fun e w' => e = .returned (.int .i64 0) ∧ w.alloc t.box = w' from fun w => by
                    have := placeR_any t w
                    rw [HPN.out, if_neg h17] at this
                    exact this)
                  have HS4 := Lib.hid (show acc ++ [t] ++ subst A (B.drop (k + 1)) = subst A B by rw [← HA8.out, HSD.out, if_neg h17, List.append_assoc])
                  have hlb : acc.length + 1 ≤ 20000 := by
                    have h1 := HLB.out
                    rw [← HS4.out] at h1
                    simp only [List.length_append, List.length_singleton] at h1
                    omega
                  clear h17
                  go_wp2_with (first
                    | (go_at_call 50; with_reducible refine Calls.mono (HPC.out _) ?_; rintro e w' ⟨rfl, rfl⟩)
                    | (at_builtin; refine wpList_append_sep rfl _ _ 22 rfl i0 _ 32 Try.underlying22 HI.out HZ0.out HZ1.out HZ2.out rfl rfl HX8.out.allocD.allocD ⟨wr.heap.size + 1, 0, none⟩ 1 1 [.int .i64 t.cat, .int .u8 t.chr.toNat, .string t.name] rfl rfl ?_ ?_ ?_ ?_ ?_))
                  · exact new_cells1 _ _ _ _
                  · simp [Value.oneCell']
                  · simp [maxLen]; omega
                  · omega
                  intro v' w1 h6
                  have H6 := Lib.hid h6
                  clear h6
                  go_wp2
                  go_roundw
                  case rel => exact ⟨k + 1, acc ++ [t], by omega, by go_num, HS4.out, rowT_snoc H6.out rfl rfl⟩
                  case measure => simp [intOf]; omega
              · have hkn : nb = k := by omega
                subst hkn
                have HAE := Lib.hid (show acc = subst A B by
                  have e := HA8.out
                  rw [List.drop_of_length_le (by rw [NB.out]; omega)] at e
                  simpa [subst] using e)
                go_wp2
                go_ret2
                rw [HE.out, ← HAE.out]
                exact ⟨_, rfl, HX8.out.rot.r⟩
  · have HE := Lib.hid (show r = .error 171 by rw [← HR.out]; exact apply_171 HCK.out (by rw [NA.out, NC.out]; exact hac))
    have q1 : ((na : Int) != (nc : Int)) = true := by rw [bne_iff_ne]; omega
    go_wp2_with fail
    refine Calls.mono HCT.out ?_
    rintro e w2 ⟨rfl, hx⟩
    have HX3 := Lib.hid (HS2.out.ext hx)
    clear hx
    go_wp2
    go_ret2
    exact ListPost.no HE.out HX3.out.extR


set_option maxRecDepth 100000 in
set_option maxHeartbeats 8000000 in
theorem expandR_any (P B L : List Tok) (vp vb vl : Value) (long : Bool) (w : World) (hp : RdT w vp P) (hb : RdT w vb B) (hl : RdT w vl L) (hnP : P.length ≤ 4000000000) (hnB : B.length ≤ 4000000000) (hnL : L.length ≤ 4000000000) :
    Calls Try.prog 27 #[.agg #[vp, vb, .bool long], vl] w (ListPost w (expandM P B long L)) := by
  obtain ⟨i0, hi, hz0, hz1, hz2⟩ := info_parts info_tok
  have HI := Lib.hid hi
  have HZ0 := Lib.hid hz0
  have HZ1 := Lib.hid hz1
  have HZ2 := Lib.hid hz2
  clear hi hz0 hz1 hz2
  obtain ⟨r, hr⟩ : ∃ r, expandM P B long L = r := ⟨_, rfl⟩
  rw [hr]
  obtain ⟨mr, hmr⟩ : ∃ mr, matchM P B long L = mr := ⟨_, rfl⟩
  obtain ⟨nl, hnl⟩ : ∃ nl, L.length = nl := ⟨_, rfl⟩
  obtain ⟨al, cl, hvl, hcl⟩ := hl.capd
  have HX1 := Lib.hid (show Ext w (w.alloc (.cells #[vp, vb, .bool long] 29)) from (Ext.refl _).alloc)
  have HM := Lib.hid (matchR_any P B L vp vb vl long _ (hp.ext HX1.out) (hb.ext HX1.out) (hl.ext HX1.out) hnP hnB hnL)
  have HP := Lib.hid hp
  have HB := Lib.hid hb
  have HL := Lib.hid hl
  have HNP := Lib.hid hnP
  have HNB := Lib.hid hnB
  have HR := Lib.hid hr
  have HMR := Lib.hid hmr
  have NL := Lib.hid hnl
  have H1 := Lib.hid ((Sat.start w).alloc (.cells #[vp, vb, .bool long] 29))
  rw [hnl] at hvl hcl
  clear hr hp hb hl hmr hnl hnP hnB hnL
  subst hvl
  go_enter Try.func27, Try.ntmps27
  go_wp2_with fail
  with_reducible refine Calls.mono HM.out ?_
  rintro e w1 hex
  rw [HMR.out] at hex
  cases mr with
  | error k =>
    obtain ⟨rfl, hs⟩ := hex
    have hk := matchM_err HMR.out
    have q1 : (k != 0) = true := by simpa using hk
    have HE := Lib.hid (show r = .error k by rw [← HR.out]; exact expand_no HMR.out)
    have HX2 := Lib.hid (HX1.out.trans hs.toExt)
    clear hs hk
    go_wp2
    go_ret2
    exact ListPost.no HE.out HX2.out
  | ok x =>
    obtain ⟨A, used⟩ := x
    obtain ⟨v, us, rfl, hul, hs⟩ := hex
    have HX2 := Lib.hid (HX1.out.trans hs.extR)
    have HS2 := Lib.hid (H1.out.ext hs.extR)
    have HTT := Lib.hid (rowUU_rd hul hs)
    obtain ⟨hm1, hm2, hm3, hm4⟩ := matchM_le HMR.out
    simp only at hm1 hm2 hm3
    have m0 := HS2.out.cell (i := 0) rfl
    have m1 := HS2.out.cell (i := 1) rfl
    have m2 := HS2.out.cell (i := 2) rfl
    have lm := HS2.out.lt
    obtain ⟨ar, har⟩ : ∃ ar, applyM P B A = ar := ⟨_, rfl⟩
    have hAP := applyR_any P B A vp vb v long w1 (HP.out.ext HX2.out) (HB.out.ext HX2.out) HTT.out HNP.out HNB.out (Nat.le_trans hm1 HNP.out) (fun a ha => Nat.le_trans (hm3 a ha) (by omega))
    rw [har] at hAP
    have HAP := Lib.hid hAP
    have HAR := Lib.hid har
    rw [NL.out] at hm2 hm4
    clear hs hul hm1 hm3 har hAP
    go_wp2_with fail
    with_reducible refine Calls.mono HAP.out ?_
    rintro e w2 hex
    cases ar with
    | error k =>
      obtain ⟨rfl, hs⟩ := hex
      have hk := applyM_err HAR.out
      have q1 : (k != 0) = true := by simpa using hk
      have HE := Lib.hid (show r = .error k by rw [← HR.out]; exact expand_no2 HMR.out HAR.out)
      have HX3 := Lib.hid (HX2.out.trans hs.toExt)
      clear hs hk m0 m1 m2 lm
      go_wp2
      go_ret2
      exact ListPost.no HE.out HX3.out
    | ok o =>
      obtain ⟨vo, rfl, hs⟩ := hex
      obtain ⟨ao, co, rfl, -⟩ := (rowT_rd hs).capd
      have HE := Lib.hid (show r = if 20000 < o.length + L.length - used then .error 6 else .ok (o ++ L.drop used) by rw [← HR.out]; exact expand_yes HMR.out HAR.out)
      have HX3 := Lib.hid (HX2.out.trans hs.extR)
      have HSO := Lib.hid hs
      have hol := applyM_le HAR.out
      clear hs m0 m1 m2 lm
      by_cases hbig : 20000 < o.length + nl - used
      · have HE2 := Lib.hid (show r = .error 6 by rw [HE.out, NL.out, if_pos hbig])
        have q1 : (20000 : Int) < (o.length : Int) + (nl : Int) - (used : Int) := by omega
        clear hbig
        go_wp2
        go_ret2
        exact ListPost.no HE2.out HX3.out
      · have HE2 := Lib.hid (show r = .ok (o ++ L.drop used) by rw [HE.out, NL.out, if_neg hbig])
        have q1 : ¬ (20000 : Int) < (o.length : Int) + (nl : Int) - (used : Int) := by omega
        have hdl : (L.drop used).length = nl - used := by rw [List.length_drop, NL.out]
        have HDL := Lib.hid hdl
        clear hbig hdl
        have e1 : (used : Int) ≤ (nl : Int) := by omega
        have HFN := Lib.hid (show ∀ (v' : Value) (w3 : World), Sat w1 (rowT v' (o ++ L.drop used) * own w1) w3 → ListPost w r (.returned (.tuple #[v', .int .i64 0])) w3 from fun v' w3 h => by
          rw [HE2.out]
          exact ⟨v', rfl, Sat.frame HX2.out.toSat h⟩)
        by_cases hu : used < nl
        · obtain ⟨b', off, rfl, -, -⟩ := HL.out.at (i := used) (by rw [NL.out]; exact hu)
          have HRD := Lib.hid (show RdT w2 (.slice (some ⟨b', off + used * 3, none⟩) (nl - used) (cl - used)) (L.drop used) by
            have := (HL.out.ext HX3.out).drop (m := used) (by rw [NL.out]; omega)
            rw [NL.out] at this
            exact this)
          have e2 : used < cl := by omega
          go_wp2_with (at_builtin; refine wpList_append_rd rfl _ _ 22 rfl i0 _ 32 Try.underlying22 HI.out HZ0.out HZ1.out HZ2.out rfl (by omega) rfl (by exact HSO.out) _ (nl - used) (flat (L.drop used)) rfl ?_ (flat_one _) ?_ ?_ ?_)
          · have := HRD.out.1; rw [HDL.out] at this; exact this
          · simp [maxLen]; omega
          · omega
          intro v' w3 h6
          have H6 := Lib.hid (rowT_app h6 (by rw [HDL.out]))
          clear h6
          go_wp2
          go_ret2
          exact HFN.out _ _ H6.out
        · have hun : nl = used := by omega
          subst hun
          have HFN2 := Lib.hid (show ∀ (v' : Value) (w3 : World), Sat w1 (rowT v' o * own w1) w3 → ListPost w r (.returned (.tuple #[v', .int .i64 0])) w3 from fun v' w3 h => by
            refine HFN.out v' w3 ?_
            rw [List.drop_of_length_le (by rw [NL.out]; exact Nat.le_refl _), List.append_nil]
            exact h)
          by_cases hc : cl = nl
          · subst hc
            go_wp2_with (at_builtin; refine wpList_append_rd rfl _ _ 22 rfl i0 _ 32 Try.underlying22 HI.out HZ0.out HZ1.out HZ2.out rfl (by omega) rfl (by exact HSO.out) _ 0 [] rfl (RdT.empty _ _ _).1 (by simp) ?_ ?_ ?_)
            all_goals first
              | (simp [maxLen]; omega)
              | omega
              | (intro v' w3 h6
                 have H6 := Lib.hid h6
                 clear h6
                 go_wp2
                 go_ret2
                 exact HFN2.out _ _ (by first | exact H6.out | simpa [rowT] using H6.out))
          · have hc2 : nl < cl := by omega
            clear hc
            go_wp2_with (at_builtin; refine wpList_append_rd rfl _ _ 22 rfl i0 _ 32 Try.underlying22 HI.out HZ0.out HZ1.out HZ2.out rfl (by omega) rfl (by exact HSO.out) _ 0 [] rfl (RdT.empty _ _ _).1 (by simp) ?_ ?_ ?_)
            all_goals first
              | (simp [maxLen]; omega)
              | omega
              | (intro v' w3 h6
                 have H6 := Lib.hid h6
                 clear h6
                 go_wp2
                 go_ret2
                 exact HFN2.out _ _ (by first | exact H6.out | simpa [rowT] using H6.out))

end Go.Proofs.Ytlbebcioabfbgaa
