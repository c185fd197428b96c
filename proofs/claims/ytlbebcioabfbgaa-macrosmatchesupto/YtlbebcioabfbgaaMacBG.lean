/-
  The reference's Match. Conditions: those that the theorem names.
-/
import Derived.Test.YtlbebcioabfbgaaMacBF
import Derived.Test.YtlbebcioabfbgaaMacV
import Derived.Test.YtlbebcioabfbgaaMacY
import Derived.Test.YtlbebcioabfbgaaMacAG
namespace Go.Proofs.Ytlbebcioabfbgaa
open Go.RowKit Go.Sp
variable {W w w' : World} {F : HProp}

theorem chkP_place : ∀ (L : List Tok) (n m : Nat), chkP n L = some m → ∀ t ∈ L, t.cat = 17 → placeB t = true := by
  intro L
  induction L with
  | nil => intro n m _ t h; simp at h
  | cons x r ih =>
    intro n m h t ht hc
    rw [chkP] at h
    cases hp : placeB x
    · rw [hp] at h
      rw [if_neg (by simp)] at h
      split at h
      · cases h
      · rename_i hr
        split at h
        · cases h
        · split at h
          · cases h
          · rcases List.mem_cons.1 ht with rfl | ht
            · exact absurd hc (right_no (by simpa using hr)).2
            · exact ih _ _ h t ht hc
    · rw [hp, if_pos rfl] at h
      split at h
      · cases h
      · rcases List.mem_cons.1 ht with rfl | ht
        · exact hp
        · exact ih _ _ h t ht hc

theorem check_patt {P B : List Tok} (h : check P B = true) : ∀ t ∈ P, t.cat = 17 → placeB t = true := by
  intro t ht hc
  cases hm : chkP 0 P with
  | none => rw [check_none hm] at h; cases h
  | some m => exact chkP_place P 0 m hm t ht hc

/-- of a right pattern's token: the place's number is 0 just where it is none -/
theorem place_zero {P B : List Tok} (h : check P B = true) (k : Nat) (hk : k < P.length) : ((placeN P[k] : Int) == 0) = decide (P[k].cat ≠ 17) := by
  by_cases hc : P[k].cat = 17
  · have h1 := placeN_yes (check_patt h _ (List.getElem_mem hk) hc)
    simp [hc]
    omega
  · have hp : placeB P[k] = false := by
      cases hp : placeB P[k]
      · rfl
      · exact absurd (placeN_yes hp).2.2.1 hc
    rw [placeN_no hp]
    simp [hc]

theorem preM_app : ∀ (D E S : List Tok), preM D S = 0 → preM (D ++ E) S = preM E (S.drop D.length) := by
  intro D
  induction D with
  | nil => intro E S _; rfl
  | cons x D ih =>
    intro E S h
    cases S with
    | nil => simp [preM] at h
    | cons y S =>
      rw [preM] at h
      split at h
      · rename_i hxy
        rw [List.cons_append, preM, if_pos hxy, ih E S h]
        rfl
      · cases h

theorem MatchPost.noX {r : Except Int (List (List Tok) × Nat)} {k : Int} (h : r = .error k) (hs : Sat w (F * own w) w') : MatchPost w r (.returned (.tuple #[.slice none 0 0, .int .i64 0, .int .i64 k])) w' := MatchPost.no h hs.r

/-- what stands behind the call for one argument -/
def ArgC (w : World) (F : HProp) (vl : Value) (L : List Tok) (at_ : Nat) (ar : Except Int (List Tok × Nat)) (s8 s13 s14 : Value) (wx : World) : Prop :=
  (∃ k n', ar = .error k ∧ s8 = .int .i64 n' ∧ s14 = .int .i64 k ∧ Sat w F wx) ∨ (∃ x : List Tok × Nat, ar = .ok x ∧ s8 = .int .i64 ((at_ + x.2 : Nat) : Int) ∧ View vl L s13 x.1 ∧ s14 = .int .i64 0 ∧ Sat w F wx)

abbrev mBox (ap : Option Addr) (np cp : Nat) (vb : Value) (long : Bool) : Obj := .cells #[.slice ap np cp, vb, .bool long] 29



set_option maxRecDepth 100000 in
set_option maxHeartbeats 8000000 in
theorem matchR_any (P B L : List Tok) (vp vb vl : Value) (long : Bool) (w : World) (hp : RdT w vp P) (hb : RdT w vb B) (hl : RdT w vl L) (hnP : P.length ≤ 4000000000) (hnB : B.length ≤ 4000000000) (hnL : L.length ≤ 4000000000) :
    Calls Try.prog 21 #[.agg #[vp, vb, .bool long], vl] w (MatchPost w (matchM P B long L)) := by
  obtain ⟨i0, hi, hz0, hz1, hz2⟩ := info_parts info_tok
  obtain ⟨j0, hj, hy0, hy1, hy2⟩ := info_parts info_sl
  have HI := Lib.hid hi
  have HZ0 := Lib.hid hz0
  have HZ1 := Lib.hid hz1
  have HZ2 := Lib.hid hz2
  have HJ := Lib.hid hj
  have HY0 := Lib.hid hy0
  have HY1 := Lib.hid hy1
  have HY2 := Lib.hid hy2
  clear hi hz0 hz1 hz2 hj hy0 hy1 hy2
  obtain ⟨r, hr⟩ : ∃ r, matchM P B long L = r := ⟨_, rfl⟩
  obtain ⟨np, hnp⟩ : ∃ np, P.length = np := ⟨_, rfl⟩
  obtain ⟨nl, hnl⟩ : ∃ nl, L.length = nl := ⟨_, rfl⟩
  rw [hr]
  obtain ⟨ap, cp, hvp, hcp⟩ := hp.capd
  obtain ⟨al, cl, hvl, hcl⟩ := hl.capd
  have HR := Lib.hid hr
  have HP := Lib.hid hp
  have HB := Lib.hid hb
  have HL := Lib.hid hl
  have HNP := Lib.hid hnP
  have HNB := Lib.hid hnB
  have HNL := Lib.hid hnL
  have NP := Lib.hid hnp
  have NL := Lib.hid hnl
  rw [hnp] at hvp hcp hnP
  rw [hnl] at hvl hcl hnL
  clear hr hp hb hl hnp hnl hnB
  subst hvp hvl
  have H1 := Lib.hid ((Sat.start w).alloc (mBox ap np cp vb long))
  have HCK := Lib.hid (checkR_any P B (.slice ap np cp) vb long _ (HP.out.ext H1.out.r.toExt) (HB.out.ext H1.out.r.toExt) HNP.out HNB.out)
  go_enter Try.func21, Try.ntmps21
  go_wp2_with fail
  generalize w.alloc (mBox ap np cp vb long) = W1 at *
  generalize w.heap.size = bm at *
  refine Calls.mono HCK.out ?_
  rintro e w1 ⟨rfl, hx⟩
  have HS1 := Lib.hid (H1.out.ext hx)
  clear hx HCK H1
  cases hck : check P B
  · have HE := Lib.hid (show r = .error 170 by rw [← HR.out]; exact match_170 hck)
    rw [checkE_no hck]
    clear hck
    go_wp2
    (try simp only [Exit.inBlock, Exit.then])
    refine bodyPost_ret (v := .tuple #[.slice none 0 0, .int .i64 0, .int .i64 170]) (by unfold results; go_simp) rfl ?_
    exact MatchPost.noX HE.out HS1.out
  rw [checkE_yes hck]
  by_cases h6 : 20000 < nl
  · have HE := Lib.hid (show r = .error 6 by rw [← HR.out]; exact match_6 hck (by rw [NL.out]; exact h6))
    have h6' : (20000 : Int) < (nl : Int) := by omega
    clear hck h6
    go_wp2
    (try simp only [Exit.inBlock, Exit.then])
    refine bodyPost_ret (v := .tuple #[.slice none 0 0, .int .i64 0, .int .i64 6]) (by unfold results; go_simp) rfl ?_
    exact MatchPost.noX HE.out HS1.out
  have h6' : ¬ (20000 : Int) < (nl : Int) := by omega
  have HCK := Lib.hid hck
  have H6 := Lib.hid (show ¬ 20000 < L.length by rw [NL.out]; exact h6)
  clear hck h6
  go_wp2_with fail
  refine Calls.mono (rights_any L _ w1 (HL.out.ext HS1.out.r.toExt)) ?_
  rintro e w2 ⟨rfl, hx⟩
  have HS2 := Lib.hid (HS1.out.ext hx)
  clear hx HS1
  cases hrt : L.all rightB
  · have HE := Lib.hid (show r = .error 160 by rw [← HR.out]; exact match_160 HCK.out H6.out hrt)
    clear hrt
    go_wp2
    (try simp only [Exit.inBlock, Exit.then])
    refine bodyPost_ret (v := .tuple #[.slice none 0 0, .int .i64 0, .int .i64 160]) (by unfold results; go_simp) rfl ?_
    exact MatchPost.noX HE.out HS2.out
  have HAL := Lib.hid hrt
  clear hrt
  have m0 := HS2.out.cell (i := 0) rfl
  have lm := HS2.out.lt
  go_upto_block 0 with fail
  clear m0 lm
  go_cut [8, 9] from 26 to 55 (fun s8 s9 wx => ∃ k : Nat, k ≤ np ∧ k ≤ nl ∧ s8 = .int .i64 k ∧ s9 = .int .i64 k ∧ parts P = (P.take k ++ (parts (P.drop k)).1, (parts (P.drop k)).2) ∧ preM (P.take k) L = 0 ∧ Stop P k ∧ Sat w (pts bm (mBox ap np cp vb long) * own w) wx)
  case first => as_aux_lemma =>
    go_wp2_with fail
    go_loopg [8, 9] np (fun g s8 s9 wx => ∃ k : Nat, k ≤ np ∧ k ≤ nl ∧ g = np - k ∧ s8 = .int .i64 k ∧ s9 = .int .i64 k ∧ parts P = (P.take k ++ (parts (P.drop k)).1, (parts (P.drop k)).2) ∧ preM (P.take k) L = 0 ∧ Sat w (pts bm (mBox ap np cp vb long) * own w) wx)
    case atStart => exact ⟨0, by omega, by omega, rfl, rfl, rfl, by simp, by simp [preM], HS2.out⟩
    case round =>
      obtain ⟨k, hk, hkl, rfl, rfl, rfl, ha, hpr, hx⟩ := hrel
      have HA2 := Lib.hid ha
      have HPR := Lib.hid hpr
      have HX2 := Lib.hid hx
      clear ha hx hpr
      by_cases hlt2 : k < np
      · have hlt2' : k < P.length := by rw [NP.out]; exact hlt2
        obtain ⟨b', off, hab, ⟨d0, d1, d2⟩, hb'⟩ := (HP.out.ext HX2.out.r.toExt).at hlt2'
        cases hab
        have hpz := place_zero HCK.out k hlt2'
        have HPL := Lib.hid (fun w => placeR_any P[k] w)
        have lt3 : (k : Int) < (np : Int) := by omega
        by_cases h17 : P[k].cat = 17
        · have HSTP := Lib.hid (show Stop P k from .inr ⟨hlt2', h17⟩)
          rw [show decide (P[k].cat ≠ 17) = false by simp [h17]] at hpz
          generalize P[k] = t at *
          clear h17
          go_wp2_with (go_at_call 50; with_reducible refine Calls.mono (HPL.out _) ?_; rintro e w' ⟨rfl, rfl⟩)
          go_meet
          exact ⟨k, hk, hkl, rfl, rfl, HA2.out, HPR.out, HSTP.out, HX2.out.allocD⟩
        · rw [show decide (P[k].cat ≠ 17) = true by simp [h17]] at hpz
          have HPP := Lib.hid (show (parts (P.drop k)).1 = P[k] :: (parts (P.drop (k + 1))).1 by rw [parts_plain k hlt2' h17])
          have HA3 := Lib.hid (show parts P = (P.take (k + 1) ++ (parts (P.drop (k + 1))).1, (parts (P.drop (k + 1))).2) by
            rw [HA2.out, parts_plain k hlt2' h17, List.take_succ_eq_append_getElem hlt2', List.append_assoc]; rfl)
          have HTK := Lib.hid (show P.take (k + 1) = P.take k ++ [P[k]] from List.take_succ_eq_append_getElem hlt2')
          have HKL := Lib.hid (show (P.take k).length = k by rw [List.length_take]; omega)
          have HPM := Lib.hid (show preM (parts P).1 L = preM (P[k] :: (parts (P.drop (k + 1))).1) (L.drop k) by rw [HA2.out]; simp only; rw [preM_app _ _ _ HPR.out, HKL.out, HPP.out])
          generalize P[k] = t at *
          clear h17
          by_cases hkn : k = nl
          · have HE := Lib.hid (show r = .error 172 by rw [← HR.out]; exact match_pre HCK.out H6.out HAL.out (by rw [HPM.out, List.drop_of_length_le (l := L) (i := k) (by rw [NL.out]; omega)]; rfl) (by omega))
            have q1 : ((k : Int) == (nl : Int)) = true := by simp [hkn]
            clear hkn
            go_wp2_with (go_at_call 50; with_reducible refine Calls.mono (HPL.out _) ?_; rintro e w' ⟨rfl, rfl⟩)
            (try simp only [Exit.inBlock, Exit.then])
            refine bodyPost_ret (v := .tuple #[.slice none 0 0, .int .i64 0, .int .i64 172]) (by unfold results; go_simp) rfl ?_
            exact MatchPost.noX HE.out HX2.out.allocD
          · have q1 : ((k : Int) == (nl : Int)) = false := by simp; omega
            have hkn' : k < nl := by omega
            obtain ⟨bl, ol, hab, ⟨l0, l1, l2⟩, hbl⟩ := (HL.out.ext HX2.out.r.toExt).at (i := k) (by rw [NL.out]; exact hkn')
            cases hab
            have HPM2 := Lib.hid (show ∀ E, preM (t :: E) (L.drop k) = if (L[k]'(by rw [NL.out]; exact hkn')) = t then preM E (L.drop (k + 1)) else 171 from fun E => by rw [List.drop_eq_getElem_cons (by rw [NL.out]; exact hkn'), preM])
            generalize L[k]'(by rw [NL.out]; exact hkn') = u at *
            have lt5 : (k : Int) < (nl : Int) := by omega
            by_cases hut : u = t
            · have HPX := Lib.hid (show preM (P.take (k + 1)) L = 0 by rw [HTK.out, preM_app _ _ _ HPR.out, HKL.out, HPM2.out, if_pos hut]; rfl)
              have hneq : ∀ w, (binOp .neq 46 u.val t.val).run Try.prog w = .ok (.bool false) w := fun w => by rw [run_neq]; simp [hut]
              simp only [Tok.val] at hneq
              clear hkn hut
              go_wp2_with (go_at_call 50; with_reducible refine Calls.mono (HPL.out _) ?_; rintro e w' ⟨rfl, rfl⟩)
              go_quiet (fail)
              go_wp2
              go_roundg (np - (k + 1))
              case measure => omega
              case rel => exact ⟨k + 1, by omega, by omega, rfl, by go_num, by go_num, HA3.out, HPX.out, HX2.out.allocD.drewN⟩
            · have HE := Lib.hid (show r = .error 171 by rw [← HR.out]; exact match_pre HCK.out H6.out HAL.out (by rw [HPM.out, HPM2.out, if_neg hut]) (by omega))
              have hneq : ∀ w, (binOp .neq 46 u.val t.val).run Try.prog w = .ok (.bool true) w := fun w => by rw [run_neq]; simp [hut]
              simp only [Tok.val] at hneq
              clear hkn hut
              go_wp2_with (go_at_call 50; with_reducible refine Calls.mono (HPL.out _) ?_; rintro e w' ⟨rfl, rfl⟩)
              go_quiet (fail)
              go_wp2
              (try simp only [Exit.inBlock, Exit.then])
              refine bodyPost_ret (v := .tuple #[.slice none 0 0, .int .i64 0, .int .i64 171]) (by unfold results; go_simp) rfl ?_
              exact MatchPost.noX HE.out HX2.out.allocD.drewN
      · have hkn : np = k := by omega
        subst hkn
        go_wp2
        go_meet
        exact ⟨np, hk, hkl, rfl, rfl, HA2.out, HPR.out, .inl NP.out.symm, HX2.out⟩
  case rest => as_aux_lemma =>
    obtain ⟨k, hk, hkl, rfl, rfl, hpt, hpr, hstop, hx⟩ := hcut
    have HPT := Lib.hid hpt
    have HSTP := Lib.hid hstop
    have HX2 := Lib.hid hx
    have HD1 := Lib.hid (show (parts P).1 = P.take k by rw [HPT.out]; simp only [parts_stop HSTP.out, List.append_nil])
    have HD2 := Lib.hid (show (parts P).2 = (parts (P.drop k)).2 by rw [HPT.out])
    have HKL := Lib.hid (show (P.take k).length = k by rw [List.length_take, NP.out]; omega)
    have HRG := Lib.hid (show argsAt long [] k (parts (P.drop k)).2 (L.drop k) = r by
      rw [← HR.out, match_rest HCK.out H6.out HAL.out (by rw [HD1.out, hpr]), HD1.out, HD2.out, HKL.out]; rfl)
    clear hpt hstop hx hpr HS2
    go_wp2_with fail
    go_loopg [8, 9, 10] (np - k) (fun g s8 s9 s10 wx => ∃ (i at_ : Nat) (va : Value) (us : List Value) (acc : List (List Tok)), i ≤ np ∧ g = np - i ∧ s8 = .int .i64 at_ ∧ s9 = .int .i64 i ∧ s10 = va ∧ Stop P i ∧ at_ ≤ nl ∧ us.length = acc.length ∧ acc.length ≤ i ∧
      argsAt long acc at_ (parts (P.drop i)).2 (L.drop at_) = r ∧ Sat w (rowUU va us acc * (pts bm (mBox ap np cp vb long) * own w)) wx)
    case atStart => exact ⟨k, k, .slice none 0 0, [], [], hk, rfl, rfl, rfl, rfl, HSTP.out, hkl, rfl, by simp, HRG.out, HX2.out.of_eq rowUU_nil.symm⟩
    case round =>
      obtain ⟨i, at_, va, us, acc, hi, rfl, rfl, rfl, rfl, hst, hat, hul, hai, ha, hx⟩ := hrel
      have HST := Lib.hid hst
      have HUL := Lib.hid hul
      have HA3 := Lib.hid ha
      have HX4 := Lib.hid hx
      clear hst hul ha hx HX2
      obtain ⟨-, -, -, ⟨xa, xc, rfl, -⟩, -⟩ := rowUU_rd HUL.out HX4.out
      by_cases hlt3 : i < np
      · have hlt3' : i < P.length := by rw [NP.out]; exact hlt3
        have h17 : P[i].cat = 17 := by
          rcases HST.out with h | ⟨_, h⟩
          · omega
          · exact h
        have HPA := Lib.hid (show (parts (P.drop i)).2 = (parts (P.drop (i + 1))).1 :: (parts (P.drop (i + 1))).2 by rw [parts_place i hlt3' h17])
        clear h17
        have lt5 : (i : Int) < (np : Int) := by omega
        go_upto_block 4 with fail
        go_cut [11] from 61 to 75 (fun s11 wx => ∃ j : Nat, i + 1 ≤ j ∧ j ≤ np ∧ s11 = .int .i64 j ∧ parts (P.drop (i + 1)) = ((P.drop (i + 1)).take (j - (i + 1)) ++ (parts (P.drop j)).1, (parts (P.drop j)).2) ∧ Stop P j ∧ Sat w (rowUU (.slice xa acc.length xc) us acc * (pts bm (mBox ap np cp vb long) * own w)) wx)
        case first => as_aux_lemma =>
          go_wp2_with fail
          go_loopg [11] (np - (i + 1)) (fun g s11 wx => ∃ j : Nat, i + 1 ≤ j ∧ j ≤ np ∧ g = np - j ∧ s11 = .int .i64 j ∧ parts (P.drop (i + 1)) = ((P.drop (i + 1)).take (j - (i + 1)) ++ (parts (P.drop j)).1, (parts (P.drop j)).2) ∧ Sat w (rowUU (.slice xa acc.length xc) us acc * (pts bm (mBox ap np cp vb long) * own w)) wx)
          case atStart => exact ⟨i + 1, Nat.le_refl _, by omega, rfl, by go_num, by simp, HX4.out⟩
          case round =>
            obtain ⟨j, hj1, hj2, rfl, rfl, ha, hx⟩ := hrel
            have HA5 := Lib.hid ha
            have HX5 := Lib.hid hx
            clear ha hx
            by_cases hlt6 : j < np
            · have hlt6' : j < P.length := by rw [NP.out]; exact hlt6
              obtain ⟨b', off, hab, ⟨d0, d1, d2⟩, hb'⟩ := (HP.out.ext HX5.out.r.r.toExt).at hlt6'
              cases hab
              have lt3 : (j : Int) < (np : Int) := by omega
              have hpz := place_zero HCK.out j hlt6'
              have HPL := Lib.hid (fun w => placeR_any P[j] w)
              by_cases h17 : P[j].cat = 17
              · have HSTP := Lib.hid (show Stop P j from .inr ⟨hlt6', h17⟩)
                rw [show decide (P[j].cat ≠ 17) = false by simp [h17]] at hpz
                generalize P[j] = t at *
                clear h17
                go_wp2_with (go_at_call 50; with_reducible refine Calls.mono (HPL.out _) ?_; rintro e w' ⟨rfl, rfl⟩)
                go_meet
                exact ⟨j, hj1, hj2, rfl, HA5.out, HSTP.out, HX5.out.allocD⟩
              · rw [show decide (P[j].cat ≠ 17) = true by simp [h17]] at hpz
                have HA6 := Lib.hid (parts_more hj1 hlt6' h17 HA5.out)
                generalize P[j] = t at *
                clear h17
                go_wp2_with (go_at_call 50; with_reducible refine Calls.mono (HPL.out _) ?_; rintro e w' ⟨rfl, rfl⟩)
                go_roundg (np - (j + 1))
                case measure => omega
                case rel => exact ⟨j + 1, by omega, by omega, rfl, by go_num, HA6.out, HX5.out.allocD⟩
            · have hkn : np = j := by omega
              subst hkn
              go_wp2
              go_meet
              exact ⟨np, hj1, hj2, rfl, HA5.out, .inl NP.out.symm, HX5.out⟩
        case rest => as_aux_lemma =>
          obtain ⟨j, hj1, hj2, rfl, hpt, hstop, hx⟩ := hcut
          have HX5 := Lib.hid hx
          have HS5 := Lib.hid hstop
          obtain ⟨D, hD⟩ : ∃ D, (P.drop (i + 1)).take (j - (i + 1)) = D := ⟨_, rfl⟩
          have hDl : D.length = j - (i + 1) := by rw [← hD, List.length_take, List.length_drop, NP.out]; omega
          have HDS := Lib.hid (show (parts (P.drop i)).2 = D :: (parts (P.drop j)).2 by rw [HPA.out, hpt]; simp only [parts_stop hstop, List.append_nil, hD])
          have HD := Lib.hid hD
          have HDL := Lib.hid hDl
          clear hpt hstop hx hD hDl HX4
          obtain ⟨ar, har⟩ : ∃ ar, argM long D (L.drop at_) = ar := ⟨_, rfl⟩
          have HAR := Lib.hid har
          clear har
          have m2 := HX5.out.r.cell (i := 2) rfl
          have lm := HX5.out.r.lt
          have e1 : ((i : Int) + 1).toNat = i + 1 := by omega
          have e2 : (i : Int) + 1 ≤ (j : Int) := by omega
          have e3 : (j : Int) ≤ (cp : Int) := by omega
          have HDV := Lib.hid (fun w' (h : RdT w' (.slice ap np cp) P) => show RdT w' (.slice (if cp = i + 1 then ap else Option.map (fun x => x.add ((i + 1) * 3)) ap) (j - (i + 1)) (cp - (i + 1))) D from by
            have h2 := h.midI (l := i + 1) (m := j) hj1 (by rw [NP.out]; exact hj2)
            rw [HD.out] at h2
            exact h2)
          go_upto_if 82 with fail
          obtain ⟨em, hem⟩ : ∃ em, (((j - (i + 1) : Nat) : Int) == 0) = em := ⟨_, rfl⟩
          rw [hem]
          have HEM := Lib.hid hem
          clear hem
          generalize (if cp = i + 1 then ap else Option.map (fun x => x.add ((i + 1) * 3)) ap) = da at *
          go_cut [8, 13, 14] from 83 to 102 (fun s8 s13 s14 wx => ArgC w (rowUU (.slice xa acc.length xc) us acc * (pts bm (mBox ap np cp vb long) * own w)) (.slice al nl cl) L at_ ar s8 s13 s14 wx)
          case first => as_aux_lemma =>
            cases em
            rotate_left
            · have hji : j = i + 1 := by have := HEM.out; rw [beq_iff_eq] at this; omega
              have HPL := Lib.hid (aloneR_any L (.slice al nl cl) at_ long wc (HL.out.ext HX5.out.r.r.toExt) (by rw [NL.out]; exact hat) HNL.out)
              rw [show plainM long (L.drop at_) = ar by rw [← HAR.out, argM, if_pos (List.eq_nil_of_length_eq_zero (by rw [HDL.out]; omega))]] at HPL
              clear hji
              go_wp2_with fail
              refine Calls.mono HPL.out ?_
              rintro e w3 ⟨hx, hex⟩
              have HX6 := Lib.hid (HX5.out.ext hx)
              clear hx
              cases ar with
              | error k' =>
                obtain ⟨v', n', rfl⟩ := hex
                go_wp2
                go_meet
                exact .inl ⟨k', n', rfl, rfl, rfl, HX6.out⟩
              | ok x =>
                obtain ⟨v', rfl, hv⟩ := hex
                have HV := Lib.hid hv
                clear hv
                go_wp2
                go_meet
                exact .inr ⟨x, rfl, rfl, HV.out, rfl, HX6.out⟩
            · have hji : ¬ j = i + 1 := by intro h; have := HEM.out; rw [h] at this; simp at this
              have HPL := Lib.hid (delimitedR_any L D (.slice al nl cl) (.slice da (j - (i + 1)) (cp - (i + 1))) at_ long wc (HL.out.ext HX5.out.r.r.toExt) (HDV.out _ (HP.out.ext HX5.out.r.r.toExt)) (by rw [NL.out]; exact hat) (by rw [HDL.out]; omega) HNL.out (by rw [HDL.out]; omega))
              rw [show delM D long (L.drop at_) = ar by rw [← HAR.out, argM, if_neg (by intro h0; have := HDL.out; rw [h0] at this; simp at this; omega)]] at HPL
              clear hji
              go_wp2_with fail
              refine Calls.mono HPL.out ?_
              rintro e w3 ⟨hx, hex⟩
              have HX6 := Lib.hid (HX5.out.ext hx)
              clear hx
              cases ar with
              | error k' =>
                obtain ⟨v', n', rfl⟩ := hex
                go_wp2
                go_meet
                exact .inl ⟨k', n', rfl, rfl, rfl, HX6.out⟩
              | ok x =>
                obtain ⟨v', rfl, hv⟩ := hex
                have HV := Lib.hid hv
                clear hv
                go_wp2
                go_meet
                exact .inr ⟨x, rfl, rfl, HV.out, rfl, HX6.out⟩
          case rest => as_aux_lemma =>
            rcases hcut with ⟨k', n', har, rfl, rfl, hx⟩ | ⟨x, har, rfl, hvw, rfl, hx⟩
            · have HE := Lib.hid (show r = .error k' by rw [← HA3.out, HDS.out]; exact argsAt_no (by rw [HAR.out]; exact har))
              have hk0 : (k' != 0) = true := by simpa using argM_err (HAR.out.trans har)
              have HX6 := Lib.hid hx
              clear har hx
              go_wp2
              (try simp only [Exit.inBlock, Exit.then])
              refine bodyPost_ret (v := .tuple #[.slice none 0 0, .int .i64 0, .int .i64 k']) (by unfold results; go_simp) rfl ?_
              exact MatchPost.noX HE.out HX6.out.r
            · have hle := argM_le (HAR.out.trans har)
              rw [List.length_drop, NL.out] at hle
              obtain ⟨hle1, hle2⟩ := hle
              have HX6 := Lib.hid hx
              have HVW := Lib.hid hvw
              have HA7 := Lib.hid (show argsAt long (acc ++ [x.1]) (at_ + x.2) (parts (P.drop j)).2 (L.drop (at_ + x.2)) = r by rw [← HA3.out, HDS.out, argsAt_yes (HAR.out.trans har), List.drop_drop])
              obtain ⟨X, xn⟩ := x
              simp only at hle1 hle2
              clear hx hvw har m2 lm
              go_wp2_with (at_builtin; refine wpList_append_rd rfl _ _ 22 rfl i0 _ 32 Try.underlying22 HI.out HZ0.out HZ1.out HZ2.out rfl (by omega) rfl ((HX6.out.alloc (.cells #[] 46)).row_whole 0 (size := 3) (by simp [maxLen]) (by simp)) _ X.length (flat X) rfl (HVW.out _ (HL.out.ext (HX6.out.r.r.toExt.alloc))).1 (flat_one X) ?_ ?_ ?_)
              · simp [maxLen]; omega
              · omega
              intro v1 w1 h7
              try simp only [Nat.zero_add, List.nil_append] at h7
              obtain ⟨ya, yc, rfl, -⟩ := h7.row_val
              have H7 := Lib.hid h7
              clear h7
              go_wp2_with (at_builtin; refine wpList_append_rd rfl _ _ 39 rfl j0 _ 24 Try.underlying39 HJ.out HY0.out HY1.out HY2.out rfl (by omega) rfl (H7.out.allocD.of_eq (show _ = row (.slice xa acc.length xc) acc.length 22 1 us * (row (.slice ya X.length yc) X.length 46 3 (flat X) * (rows us acc * (pts bm (mBox ap np cp vb long) * own w))) by unfold rowUU; ac_rfl)) _ 1 [.slice ya X.length yc] rfl (rd_new w1 _ _) (by simp [Value.oneCell']) ?_ ?_ ?_)
              · simp [maxLen]; omega
              · omega
              intro v2 w2 h8
              have H8 := Lib.hid h8
              clear h8
              go_wp2
              go_roundg (np - j)
              case measure => omega
              case rel => exact ⟨j, at_ + xn, _, us ++ [.slice ya X.length yc], acc ++ [X], hj2, rfl, rfl, rfl, rfl, HS5.out, by omega, by simp [HUL.out], by simp; omega, HA7.out, H8.out.of_eq (by unfold rowUU; rw [rows_snoc us acc _ X HUL.out, List.length_append, rowT]; simp only [List.length_singleton]; ac_rfl)⟩
      · have hkn : np = i := by omega
        subst hkn
        have HRE := Lib.hid (show r = .ok (acc, at_) by rw [← HA3.out, List.drop_of_length_le (l := P) (i := np) (by rw [NP.out]; omega)]; exact argsAt_nil acc at_ _)
        go_wp2
        (try simp only [Exit.inBlock, Exit.then])
        refine bodyPost_ret (v := .tuple #[.slice xa acc.length xc, .int .i64 at_, .int .i64 0]) (by unfold results; go_simp) rfl ?_
        rw [HRE.out]
        exact ⟨_, us, rfl, HUL.out, HX4.out.rot.r⟩

end Go.Proofs.Ytlbebcioabfbgaa
