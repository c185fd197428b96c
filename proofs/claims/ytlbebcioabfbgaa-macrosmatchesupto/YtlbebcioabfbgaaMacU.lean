/-
  Apply of the program. Conditions: those that each theorem names.
-/
import Derived.Test.YtlbebcioabfbgaaMacJ
import Derived.Test.YtlbebcioabfbgaaMacS
import Derived.Test.YtlbebcioabfbgaaMacQ
namespace Go.Proofs.Ytlbebcioabfbgaa
open Go.RowKit Go.Sp
variable {W w w' : World} {F : HProp}

theorem chkP_count : ∀ (L : List Tok) (n m i : Nat), chkP n L = some m → i + L.length ≤ 20000 → countP i n L = m := by
  intro L
  induction L with
  | nil => intro n m i h _; simp [chkP] at h; simp [countP, h]
  | cons t L ih =>
    intro n m i h hi
    simp only [List.length_cons] at hi
    rw [chkP] at h
    rw [countP]
    split at h
    · rename_i hp
      split at h
      · cases h
      · rename_i hc
        have hp9 : (t.chr.toNat : Int) ≤ 9 := by
          simp only [placeB, Bool.and_eq_true, decide_eq_true_eq] at hp
          exact hp.1.2
        have hc' : (t.chr.toNat : Int) = n + 1 := by simpa using hc
        rw [if_pos ⟨by omega, by omega, hp⟩]
        exact ih _ _ _ h (by omega)
    · rename_i hp
      rw [if_neg (by rintro ⟨_, _, h⟩; exact hp h)]
      split at h
      · cases h
      · split at h
        · cases h
        · split at h
          · cases h
          · exact ih _ _ _ h (by omega)

theorem check_place {P B : List Tok} (h : check P B = true) : ∀ t ∈ B, t.cat = 17 → 1 ≤ t.chr.toNat ∧ t.chr.toNat ≤ count P := by
  intro t ht hc
  unfold check at h
  simp only [Bool.and_eq_true, decide_eq_true_eq] at h
  obtain ⟨⟨hP, hB⟩, h⟩ := h
  cases hk : chkP 0 P with
  | none => rw [hk] at h; cases h
  | some n =>
    rw [hk] at h
    simp only [Bool.and_eq_true] at h
    have hn : count P = n := chkP_count P 0 n 0 hk (by omega)
    have hb := List.all_eq_true.1 h.1 t ht
    have hr : rightB t = false := by simp [rightB, hc]
    simp only [bodyB, hr, Bool.false_or, Bool.and_eq_true, decide_eq_true_eq, placeB] at hb
    rw [hn]
    omega

theorem sizeM_drop (A : List (List Tok)) (B : List Tok) (k : Nat) (h : k < B.length) : sizeM A (B.drop k) = (if B[k].cat = 17 then (A.getD (B[k].chr.toNat - 1) []).length else 1) + sizeM A (B.drop (k + 1)) := by
  rw [List.drop_eq_getElem_cons h, sizeM]
theorem subst_drop (A : List (List Tok)) (B : List Tok) (k : Nat) (h : k < B.length) : subst A (B.drop k) = (if B[k].cat = 17 then A.getD (B[k].chr.toNat - 1) [] else [B[k]]) ++ subst A (B.drop (k + 1)) := by
  rw [List.drop_eq_getElem_cons h, subst]

section
variable {P B : List Tok} {A : List (List Tok)}
theorem apply_170 (h : check P B = false) : applyM P B A = .error 170 := by rw [applyM, if_pos h]
theorem apply_171 (h : check P B = true) (h2 : A.length ≠ count P) : applyM P B A = .error 171 := by rw [applyM, if_neg (by simp [h]), if_pos h2]
theorem apply_6 (h : check P B = true) (h2 : A.length = count P) (h3 : 20000 < sizeM A B) : applyM P B A = .error 6 := by rw [applyM, if_neg (by simp [h]), if_neg (by simp [h2]), if_pos h3]
theorem apply_160 (h : check P B = true) (h2 : A.length = count P) (h3 : ¬ 20000 < sizeM A B) (h4 : A.all (fun a => a.all rightB) = false) : applyM P B A = .error 160 := by
  rw [applyM, if_neg (by simp [h]), if_neg (by simp [h2]), if_neg h3, if_pos h4]
theorem apply_ok (h : check P B = true) (h2 : A.length = count P) (h3 : ¬ 20000 < sizeM A B) (h4 : A.all (fun a => a.all rightB) = true) : applyM P B A = .ok (subst A B) := by
  rw [applyM, if_neg (by simp [h]), if_neg (by simp [h2]), if_neg h3, if_neg (by simp [h4])]
end

def ListPost (w : World) (r : Except Int (List Tok)) (e : Ending) (w' : World) : Prop :=
  match r with
  | .ok x => ∃ v, e = .returned (.tuple #[v, .int .i64 0]) ∧ Sat w (rowT v x * own w) w'
  | .error k => e = .returned (.tuple #[.slice none 0 0, .int .i64 k]) ∧ Sat w (own w) w'

theorem ListPost.no {r : Except Int (List Tok)} {k : Int} (h : r = .error k) (hs : Ext w w') : ListPost w r (.returned (.tuple #[.slice none 0 0, .int .i64 k])) w' := by subst h; exact ⟨rfl, hs.toSat⟩

theorem count_at (P : List Tok) (n : Nat) (vp vb : Value) (long : Bool) (w : World) (hn : count P = n) (hp : RdT w vp P) (hnP : P.length ≤ 4000000000) :
    Calls Try.prog 34 #[.agg #[vp, vb, .bool long]] w fun e w' => e = .returned (.int .i64 n) ∧ Ext w w' := hn ▸ count_macro P vp vb long w hp hnP

theorem rowT_app {v : Value} {acc X : List Tok} {n : Nat} (h : Sat W (row v n 46 3 (flat acc ++ flat X) * F) w) (hn : n = acc.length + X.length) : Sat W (rowT v (acc ++ X) * F) w := by
  subst hn
  unfold rowT
  rw [flat_append, List.length_append]
  exact h

set_option maxRecDepth 100000 in
set_option maxHeartbeats 8000000 in
theorem apply_any (P B : List Tok) (A : List (List Tok)) (vp vb va : Value) (long : Bool) (w : World) (hp : RdT w vp P) (hb : RdT w vb B) (ha : RdTT w va A) (hnP : P.length ≤ 4000000000) (hnB : B.length ≤ 4000000000) (hnA : A.length ≤ 4000000000)
    (hnI : ∀ a ∈ A, a.length ≤ 4000000000) : Calls Try.prog 24 #[.agg #[vp, vb, .bool long], va] w (ListPost w (applyM P B A)) := by
  obtain ⟨i0, hi, hz0, hz1, hz2⟩ := info_parts info_tok
  have HI := Lib.hid hi
  have HZ0 := Lib.hid hz0
  have HZ1 := Lib.hid hz1
  have HZ2 := Lib.hid hz2
  clear hi hz0 hz1 hz2
  obtain ⟨r, hr⟩ : ∃ r, applyM P B A = r := ⟨_, rfl⟩
  rw [hr]
  obtain ⟨nb, hnb⟩ : ∃ nb, B.length = nb := ⟨_, rfl⟩
  obtain ⟨na, hna⟩ : ∃ na, A.length = na := ⟨_, rfl⟩
  obtain ⟨ab, cb, hvb, hcb⟩ := hb.capd
  have ha' := ha
  obtain ⟨-, -, -, ⟨aa, ca, hva, hca⟩, -⟩ := ha'
  obtain ⟨nc, hnc⟩ : ∃ nc, count P = nc := ⟨_, rfl⟩
  have HR := Lib.hid hr
  have HP := Lib.hid hp
  have HB := Lib.hid hb
  have HA := Lib.hid ha
  have HNP := Lib.hid hnP
  have HNB := Lib.hid hnB
  have HNI := Lib.hid hnI
  have NB := Lib.hid hnb
  have NA := Lib.hid hna
  have NC := Lib.hid hnc
  rw [hnb] at hvb hcb hnB
  rw [hna] at hva hca hnA
  clear hr hp hb ha hnb hna hnc hnP hnI
  subst hvb hva
  have HX1 := Lib.hid (show Ext w (w.alloc (.cells #[vp, .slice ab nb cb, .bool long] 25)) from (Ext.refl _).alloc)
  have H1 := Lib.hid ((Sat.start w).alloc (.cells #[vp, .slice ab nb cb, .bool long] 25))
  obtain ⟨bm, hbm⟩ : ∃ bm, w.heap.size = bm := ⟨_, rfl⟩
  have HBM := Lib.hid hbm
  clear hbm
  go_enter Try.func24, Try.ntmps24
  go_wp2_with fail
  refine Calls.mono (check_any P B _ _ long _ (HP.out.ext HX1.out) (HB.out.ext HX1.out) HNP.out HNB.out) ?_
  rintro e w1 ⟨rfl, hx⟩
  have HX2 := Lib.hid (HX1.out.trans hx)
  have hs2 := H1.out.ext hx
  rw [HBM.out] at hs2 ⊢
  have HS2 := Lib.hid hs2
  clear hx hs2
  cases hck : check P B
  · have HE := Lib.hid (show r = .error 170 by rw [← HR.out]; exact apply_170 hck)
    rw [checkE_no hck]
    clear hck
    go_wp2
    go_ret2
    exact ListPost.no HE.out HX2.out
  rw [checkE_yes hck]
  have HCK := Lib.hid hck
  clear hck
  have m0 := HS2.out.cell (i := 0) rfl
  have m1 := HS2.out.cell (i := 1) rfl
  have m2 := HS2.out.cell (i := 2) rfl
  have lm := HS2.out.lt
  have HCT := Lib.hid (count_at P nc vp (.slice ab nb cb) long w1 NC.out (HP.out.ext HX2.out) HNP.out)
  by_cases hac : na = nc
  · subst hac
    go_wp2_with fail
    refine Calls.mono HCT.out ?_
    rintro e w2 ⟨rfl, hx⟩
    have HX3 := Lib.hid (HX2.out.trans hx)
    have HS3 := Lib.hid (HS2.out.ext hx)
    clear hx m0 m1 m2 lm
    have m0 := HS3.out.cell (i := 0) rfl
    have m1 := HS3.out.cell (i := 1) rfl
    have m2 := HS3.out.cell (i := 2) rfl
    have lm := HS3.out.lt
    obtain ⟨T, hT⟩ : ∃ T, sizeM A B = T := ⟨_, rfl⟩
    have HT := Lib.hid hT
    have HAC := Lib.hid (show A.length = count P by rw [NA.out, NC.out])
    have HPL0 := Lib.hid (show ∀ t ∈ B, t.cat = 17 → 1 ≤ t.chr.toNat ∧ t.chr.toNat ≤ na from by have := check_place HCK.out; rw [NC.out] at this; exact this)
    clear hT
    go_wp2_with fail
    go_loopw [7, 31] (fun s i wr => ∃ k sz : Nat, k ≤ nb ∧ sz ≤ 20000 ∧ s = .int .i64 sz ∧ i = .int .i64 k ∧ sz + sizeM A (B.drop k) = T ∧ Sat w (pts bm (.cells #[vp, .slice ab nb cb, .bool long] 25 (0, 0)) * own w) wr) (fun _ i _ => nb - (intOf i).toNat)
    case atStart => exact ⟨0, 0, by omega, by omega, rfl, rfl, by rw [Nat.zero_add]; exact HT.out, HS3.out⟩
    case round =>
      obtain ⟨k, sz, hk, hsz, rfl, rfl, ha, hx⟩ := hrel
      have HA2 := Lib.hid ha
      have HX := Lib.hid hx
      clear ha hx
      by_cases hlt : k < nb
      · have hlt' : k < B.length := by rw [NB.out]; exact hlt
        obtain ⟨b', off, rfl, ⟨c0, c1, c2⟩, hb'⟩ := (HB.out.ext HX.out.extR).at hlt'
        have HSD := Lib.hid (sizeM_drop A B k hlt')
        have HPL := Lib.hid (HPL0.out B[k] (List.getElem_mem hlt'))
        generalize B[k] = t at *
        have lt1 : (k : Int) < (nb : Int) := by omega
        by_cases h17 : t.cat = 17
        · have q1 : (t.cat == 17) = true := by simp [h17]
          obtain ⟨g1, g2⟩ := HPL.out h17
          obtain ⟨d, hd⟩ : ∃ d, t.chr.toNat = d + 1 := ⟨t.chr.toNat - 1, by omega⟩
          have hda : d < A.length := by rw [NA.out]; omega
          obtain ⟨b2, off2, xa, xc, rfl, hcell, -, hb2⟩ := (HA.out.ext HX.out.extR).at hda
          have hle := HNI.out A[d] (List.getElem_mem hda)
          have HS4 := Lib.hid (show sizeM A (B.drop k) = A[d].length + sizeM A (B.drop (k + 1)) by rw [HSD.out, if_pos h17, hd, Nat.add_sub_cancel, List.getD_eq_getElem?_getD, List.getElem?_eq_getElem hda]; rfl)
          rw [hd] at c1
          have hd8 : d + 1 < 256 := by rw [← hd]; exact t.chr.toNat_lt
          generalize A[d] = X at *
          obtain ⟨nx, hnx⟩ : ∃ nx, X.length = nx := ⟨_, rfl⟩
          rw [hnx] at hcell hle
          have HNX := Lib.hid hnx
          have lt2 : (d : Int) < (na : Int) := by omega
          have w8 : IntKind.u8.wrap ((d : Int) + 1 - 1) = (d : Int) := by rw [show (d : Int) + 1 - 1 = d by omega]; exact IntWalk.u8_in _ (by omega)
          clear h17 g1 g2 hd hnx
          by_cases hbig : 20000 < sz + nx
          · have HE := Lib.hid (show r = .error 6 by
              rw [← HR.out]
              refine apply_6 HCK.out HAC.out ?_
              have e1 := HA2.out
              rw [HS4.out, HNX.out] at e1
              rw [HT.out]; omega)
            have hb6 : (20000 : Int) < (sz : Int) + (nx : Int) := by omega
            clear hbig
            go_wp2
            go_ret2
            exact ListPost.no HE.out HX.out.extR.alloc
          · have hb6 : ¬ (20000 : Int) < (sz : Int) + (nx : Int) := by omega
            have HN := Lib.hid (show sz + nx + sizeM A (B.drop (k + 1)) = T by have e1 := HA2.out; rw [HS4.out, HNX.out] at e1; omega)
            have hszn : sz + nx ≤ 20000 := by omega
            clear hbig
            go_wp2
            go_roundw
            case rel => exact ⟨k + 1, sz + nx, by omega, hszn, by go_num, by go_num, HN.out, HX.out.allocD⟩
            case measure => simp [intOf]; omega
        · have q1 : (t.cat == 17) = false := by simp [h17]
          have HS4 := Lib.hid (show sizeM A (B.drop k) = 1 + sizeM A (B.drop (k + 1)) by rw [HSD.out, if_neg h17])
          clear h17
          by_cases hbig : 20000 < sz + 1
          · have HE := Lib.hid (show r = .error 6 by
              rw [← HR.out]
              refine apply_6 HCK.out HAC.out ?_
              have e1 := HA2.out
              rw [HS4.out] at e1
              rw [HT.out]; omega)
            have hb6 : (20000 : Int) < (sz : Int) + 1 := by omega
            clear hbig
            go_wp2
            go_ret2
            exact ListPost.no HE.out HX.out.extR.alloc
          · have hb6 : ¬ (20000 : Int) < (sz : Int) + 1 := by omega
            have HN := Lib.hid (show sz + 1 + sizeM A (B.drop (k + 1)) = T by have e1 := HA2.out; rw [HS4.out] at e1; omega)
            have hszn : sz + 1 ≤ 20000 := by omega
            clear hbig
            go_wp2
            go_roundw
            case rel => exact ⟨k + 1, sz + 1, by omega, hszn, by go_num, by go_num, HN.out, HX.out.allocD⟩
            case measure => simp [intOf]; omega
      · have hkn : nb = k := by omega
        subst hkn
        have HTS := Lib.hid (show ¬ 20000 < sizeM A B by
          have e1 := HA2.out
          rw [List.drop_of_length_le (by rw [NB.out]; omega)] at e1
          simp only [sizeM] at e1
          rw [HT.out]; omega)
        clear m0 m1 m2 lm
        obtain ⟨wo, hwo⟩ : ∃ wo : World, wo = wr := ⟨_, rfl⟩
        subst hwo
        go_wp2
        go_loopw [54, 8] (fun i s wr => ∃ (k : Nat) (b : Bool), k ≤ na ∧ i = .int .i64 k ∧ s = .bool b ∧ (b || !((A.drop k).all fun a => a.all rightB)) = !(A.all fun a => a.all rightB) ∧ Sat w (pts bm (.cells #[vp, .slice ab nb cb, .bool long] 25 (0, 0)) * own w) wr) (fun i _ _ => na - (intOf i).toNat)
        case atStart => exact ⟨0, false, by omega, rfl, rfl, rfl, HX.out⟩
        case round =>
          obtain ⟨k, b, hk2, rfl, rfl, ha, hx⟩ := hrel
          have HA3 := Lib.hid ha
          have HX5 := Lib.hid hx
          clear ha hx
          by_cases hlt : k < na
          · have hlt' : k < A.length := by rw [NA.out]; exact hlt
            obtain ⟨b2, off2, xa, xc, rfl, hcell0, hrd, -⟩ := HA.out.at hlt'
            have hcell := HX5.out.extR.cell hcell0
            clear hcell0
            have hle := HNI.out A[k] (List.getElem_mem hlt')
            have HAD := Lib.hid (show ((A.drop k).all fun a => a.all rightB) = (A[k].all rightB && (A.drop (k + 1)).all fun a => a.all rightB) by rw [List.drop_eq_getElem_cons hlt', List.all_cons])
            generalize A[k] = X at *
            obtain ⟨nx, hnx⟩ : ∃ nx, X.length = nx := ⟨_, rfl⟩
            rw [hnx] at hcell hle hrd
            have HNX := Lib.hid hnx
            have HRX := Lib.hid hrd
            have HLX := Lib.hid HX5.out
            have lt2 : (k : Int) < (na : Int) := by omega
            clear hnx hrd
            obtain ⟨wo, hwo⟩ : ∃ wo : World, wo = wr := ⟨_, rfl⟩
            subst hwo
            go_wp2
            obtain ⟨rb, hrb⟩ : ∃ rb, ((A.drop (k + 1)).all fun a => a.all rightB) = rb := ⟨_, rfl⟩
            have HRB := Lib.hid hrb
            have HA4 := Lib.hid (show (b || !(X.all rightB && rb)) = !(A.all fun a => a.all rightB) by rw [← HA3.out, HAD.out, hrb])
            clear hrb
            go_loopw [60, 8] (fun i s wr => ∃ (j : Nat) (b : Bool), j ≤ nx ∧ i = .int .i64 j ∧ s = .bool b ∧ (b || !((X.drop j).all rightB && rb)) = !(A.all fun a => a.all rightB) ∧ Sat w (pts bm (.cells #[vp, .slice ab nb cb, .bool long] 25 (0, 0)) * own w) wr) (fun i _ _ => nx - (intOf i).toNat)
            case atStart => exact ⟨0, b, by omega, rfl, rfl, HA4.out, HLX.out⟩
            case round =>
              obtain ⟨j, b, hj, rfl, rfl, ha, hx⟩ := hrel
              have HA5 := Lib.hid ha
              have HX6 := Lib.hid hx
              clear ha hx
              by_cases hlt7 : j < nx
              · have hlt7' : j < X.length := by rw [HNX.out]; exact hlt7
                obtain ⟨b3, off3, rfl, ⟨d0, d1, d2⟩, hb3⟩ := (HRX.out.ext HX6.out.extR).at hlt7'
                have HAD2 := Lib.hid (allQ X rightB j hlt7')
                generalize X[j] = t at *
                have lt3 : (j : Int) < (nx : Int) := by omega
                cases b
                · cases hrt : rightB t
                  · go_wp2_with (go_at_call 38; with_reducible refine Calls.mono (right_any _ _) ?_; rintro e w' ⟨rfl, rfl⟩; rw [hrt])
                    go_roundw
                    case rel => exact ⟨j + 1, true, by omega, by go_num, rfl, by rw [← HA5.out, HAD2.out, hrt]; rfl, HX6.out.allocD.allocD⟩
                    case measure => simp [intOf]; omega
                  · go_wp2_with (go_at_call 38; with_reducible refine Calls.mono (right_any _ _) ?_; rintro e w' ⟨rfl, rfl⟩; rw [hrt])
                    go_roundw
                    case rel => exact ⟨j + 1, false, by omega, by go_num, rfl, by rw [← HA5.out, HAD2.out, hrt]; rfl, HX6.out.allocD.allocD⟩
                    case measure => simp [intOf]; omega
                · go_wp2
                  go_roundw
                  case rel => exact ⟨j + 1, true, by omega, by go_num, rfl, by rw [← HA5.out]; rfl, HX6.out.allocD⟩
                  case measure => simp [intOf]; omega
              · have hkn : nx = j := by omega
                subst hkn
                have HA6 := Lib.hid (show (b || !((A.drop (k + 1)).all fun a => a.all rightB)) = !(A.all fun a => a.all rightB) by
                  rw [← HA5.out, HRB.out, List.drop_of_length_le (l := X) (by rw [HNX.out]; exact Nat.le_refl _)]; rfl)
                go_wp2
                go_roundw
                case rel => exact ⟨k + 1, b, by omega, by go_num, rfl, HA6.out, HX6.out⟩
                case measure => simp [intOf]; omega
          · have hkn : na = k := by omega
            subst hkn
            have HB5 := Lib.hid (show (A.all fun a => a.all rightB) = !b by
              have e := HA3.out
              rw [List.drop_of_length_le (by rw [NA.out]; omega)] at e
              simp only [List.all_nil, Bool.not_true, Bool.or_false] at e
              rw [e, Bool.not_not])
            have HLX := Lib.hid HX5.out
            cases b
            · have m1 := HX5.out.cell (i := 1) rfl
              have lm := HX5.out.lt
              obtain ⟨wo, hwo⟩ : ∃ wo : World, wo = wr := ⟨_, rfl⟩
              subst hwo
              have HE := Lib.hid (show r = .ok (subst A B) by rw [← HR.out]; exact apply_ok HCK.out HAC.out HTS.out HB5.out)
              have HLB := Lib.hid (show (subst A B).length ≤ 20000 by have := HTS.out; rw [subst_length]; omega)
              go_wp2
              go_loopw [15, 76] (fun s i wr => ∃ (k : Nat) (acc : List Tok), k ≤ nb ∧ i = .int .i64 k ∧ acc ++ subst A (B.drop k) = subst A B ∧ Sat w (rowT s acc * own w) wr) (fun _ i _ => nb - (intOf i).toNat)
              case atStart => exact ⟨0, [], by omega, rfl, rfl, (Sat.row_nil (e := 46) (size := 3) HLX.out.r)⟩
              case round =>
                obtain ⟨k, acc, hk8, rfl, ha, hx⟩ := hrel
                have HA8 := Lib.hid ha
                have HX8 := Lib.hid hx
                clear ha hx
                by_cases hlt8 : k < nb
                · have hlt8' : k < B.length := by rw [NB.out]; exact hlt8
                  obtain ⟨b', off, rfl, ⟨c0, c1, c2⟩, hb'⟩ := (HB.out.ext HX8.out.extR).at hlt8'
                  have HSD := Lib.hid (subst_drop A B k hlt8')
                  have HPL := Lib.hid (HPL0.out B[k] (List.getElem_mem hlt8'))
                  generalize B[k] = t at *
                  have lt1 : (k : Int) < (nb : Int) := by omega
                  by_cases h17 : t.cat = 17
                  · have q1 : (t.cat == 17) = true := by simp [h17]
                    obtain ⟨g1, g2⟩ := HPL.out h17
                    obtain ⟨d, hd⟩ : ∃ d, t.chr.toNat = d + 1 := ⟨t.chr.toNat - 1, by omega⟩
                    have hda : d < A.length := by rw [NA.out]; omega
                    obtain ⟨b2, off2, xa, xc, rfl, hcell, hrd, hb2⟩ := (HA.out.ext HX8.out.extR).at hda
                    have HS4 := Lib.hid (show acc ++ A[d] ++ subst A (B.drop (k + 1)) = subst A B by
                      rw [← HA8.out, HSD.out, if_pos h17, hd, Nat.add_sub_cancel, List.getD_eq_getElem?_getD, List.getElem?_eq_getElem hda, Option.getD_some, List.append_assoc])
                    rw [hd] at c1
                    have hd8 : d + 1 < 256 := by rw [← hd]; exact t.chr.toNat_lt
                    generalize A[d] = X at *
                    have hlb : acc.length + X.length ≤ 20000 := by
                      have h1 := HLB.out
                      rw [← HS4.out] at h1
                      simp only [List.length_append] at h1
                      omega
                    have HRD := Lib.hid hrd
                    have lt2 : (d : Int) < (na : Int) := by omega
                    have w8 : IntKind.u8.wrap ((d : Int) + 1 - 1) = (d : Int) := by rw [show (d : Int) + 1 - 1 = d by omega]; exact IntWalk.u8_in _ (by omega)
                    clear h17 g1 g2 hd hrd
                    go_wp2_with (at_builtin; refine wpList_append_rd rfl _ _ 22 rfl i0 _ 32 Try.underlying22 HI.out HZ0.out HZ1.out HZ2.out rfl (by omega) rfl HX8.out.allocD _ X.length (flat X) rfl (HRD.out.ext (Ext.refl _).alloc).1 (flat_one X) ?_ ?_ ?_)
                    · simp [maxLen]; omega
                    · omega
                    intro v' w1 h6
                    have H6 := Lib.hid h6
                    clear h6
                    go_wp2
                    go_roundw
                    case rel => exact ⟨k + 1, acc ++ X, by omega, by go_num, HS4.out, rowT_app H6.out rfl⟩
                    case measure => simp [intOf]; omega
                  · have q1 : (t.cat == 17) = false := by simp [h17]
                    have HS4 := Lib.hid (show acc ++ [t] ++ subst A (B.drop (k + 1)) = subst A B by rw [← HA8.out, HSD.out, if_neg h17, List.append_assoc])
                    have hlb : acc.length + 1 ≤ 20000 := by
                      have h1 := HLB.out
                      rw [← HS4.out] at h1
                      simp only [List.length_append, List.length_singleton] at h1
                      omega
                    clear h17
                    go_wp2_with (at_builtin; refine wpList_append_sep rfl _ _ 22 rfl i0 _ 32 Try.underlying22 HI.out HZ0.out HZ1.out HZ2.out rfl rfl HX8.out.allocD.allocD ⟨wr.heap.size + 1, 0, none⟩ 1 1 [.int .i64 t.cat, .int .u8 t.chr.toNat, .string t.name] rfl rfl ?_ ?_ ?_ ?_ ?_)
                    · exact new_cells1 _ _ _ _
                    · simp [Value.oneCell']
                    · simp [maxLen]; omega
                    · omega
                    intro v' w1 h6
                    have H6 := Lib.hid h6
                    clear h6
                    go_wp2
                    go_roundw
                    case rel => exact ⟨k + 1, acc ++ [t], by omega, by go_num, HS4.out, rowT_snoc H6.out rfl rfl⟩
                    case measure => simp [intOf]; omega
                · have hkn : nb = k := by omega
                  subst hkn
                  have HAE := Lib.hid (show acc = subst A B by
                    have e := HA8.out
                    rw [List.drop_of_length_le (by rw [NB.out]; omega)] at e
                    simpa [subst] using e)
                  go_wp2
                  go_ret2
                  rw [HE.out, ← HAE.out]
                  exact ⟨_, rfl, HX8.out⟩
            · have HE := Lib.hid (show r = .error 160 by rw [← HR.out]; exact apply_160 HCK.out HAC.out HTS.out HB5.out)
              go_wp2
              go_ret2
              exact ListPost.no HE.out HX5.out.extR
  · have HE := Lib.hid (show r = .error 171 by rw [← HR.out]; exact apply_171 HCK.out (by rw [NA.out, NC.out]; exact hac))
    have q1 : ((na : Int) != (nc : Int)) = true := by rw [bne_iff_ne]; omega
    go_wp2_with fail
    refine Calls.mono HCT.out ?_
    rintro e w2 ⟨rfl, hx⟩
    have HX3 := Lib.hid (HX2.out.trans hx)
    clear hx
    go_wp2
    go_ret2
    exact ListPost.no HE.out HX3.out

end Go.Proofs.Ytlbebcioabfbgaa
