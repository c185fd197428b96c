/-
  Expand of the program. Conditions: those that each theorem names.
-/
import Derived.Test.YtlbebcioabfbgaaMacT
import Derived.Test.YtlbebcioabfbgaaMacU
namespace Go.Proofs.Ytlbebcioabfbgaa
open Go.RowKit Go.Sp
variable {W w w' : World} {F : HProp}

theorem argsM_le (long : Bool) : ∀ (ds : List (List Tok)) (S : List Tok) (x : List (List Tok) × Nat), argsM long ds S = .ok x → x.1.length = ds.length ∧ x.2 ≤ S.length ∧ ∀ a ∈ x.1, a.length ≤ S.length := by
  intro ds
  induction ds with
  | nil => intro S x h; cases h; simp
  | cons D ds ih =>
    intro S x h
    rw [argsM] at h
    split at h
    · cases h
    · rename_i y hy
      have h1 := argM_le hy
      cases hr : argsM long ds (S.drop y.2) with
      | error => rw [hr] at h; cases h
      | ok z =>
        rw [hr] at h
        cases h
        obtain ⟨h2, h3, h4⟩ := ih _ _ hr
        rw [List.length_drop] at h3 h4
        refine ⟨by simp [h2], by simp only; omega, ?_⟩
        intro a ha
        simp only [List.mem_cons] at ha
        rcases ha with rfl | ha
        · exact h1.1
        · have := h4 a ha; omega

theorem parts_len (P : List Tok) : (parts P).1.length + (parts P).2.length ≤ P.length := by
  induction P with
  | nil => simp [parts]
  | cons t P ih => rw [parts]; split <;> simp <;> omega

theorem matchM_le {P B L : List Tok} {long : Bool} {x : List (List Tok) × Nat} (h : matchM P B long L = .ok x) : x.1.length ≤ P.length ∧ x.2 ≤ L.length ∧ (∀ a ∈ x.1, a.length ≤ L.length) ∧ L.length ≤ 20000 := by
  unfold matchM at h
  split at h
  · cases h
  · split at h
    · cases h
    · rename_i h6
      split at h
      · cases h
      · split at h
        · cases h
        · rename_i hp
          have h0 : preM (parts P).1 L = 0 := by simpa using hp
          have h1 := preM_zero _ _ h0
          cases hr : argsM long (parts P).2 (L.drop (parts P).1.length) with
          | error => rw [hr] at h; cases h
          | ok y =>
            rw [hr] at h
            cases h
            obtain ⟨h2, h3, h4⟩ := argsM_le _ _ _ _ hr
            have h5 := parts_len P
            rw [List.length_drop] at h3 h4
            refine ⟨by simp only; omega, by simp only; omega, fun a ha => ?_, by omega⟩
            have := h4 a ha
            omega

theorem delR_err : ∀ (S D : List Tok) (long : Bool) (d : Int) (wh : Nat) (op : Bool) (k : Int), delR D long d wh op S = .error k → k ≠ 0 := by
  intro S D long
  induction S with
  | nil => intro d wh op k h; simp [delR] at h; omega
  | cons t S ih =>
    intro d wh op k h
    rw [delR] at h
    split at h
    · cases h
    · split at h
      · cases h; omega
      · split at h
        · cases h; omega
        · revert h
          generalize hg : delR D long (stepD d t) _ _ S = y
          intro h
          cases y with
          | error k' => cases h; exact ih _ _ _ _ hg
          | ok y => cases h

theorem argM_err {long : Bool} {D S : List Tok} {k : Int} (h : argM long D S = .error k) : k ≠ 0 := by
  unfold argM at h
  split at h
  · unfold plainM at h
    split at h
    · cases h; omega
    · split at h
      · cases h; omega
      · split at h
        · split at h
          · cases h; omega
          · split at h
            · cases h; omega
            · cases h
        · split at h
          · cases h; omega
          · cases h
  · unfold delM at h
    cases hd : delR D long 0 0 false S with
    | error k' => rw [hd] at h; cases h; exact delR_err _ _ _ _ _ _ _ hd
    | ok y => rw [hd] at h; cases h

theorem argsM_err {long : Bool} : ∀ (ds : List (List Tok)) (S : List Tok) (k : Int), argsM long ds S = .error k → k ≠ 0 := by
  intro ds
  induction ds with
  | nil => intro S k h; cases h
  | cons D ds ih =>
    intro S k h
    rw [argsM] at h
    split at h
    · rename_i e he; cases h; exact argM_err he
    · rename_i y hy
      cases hr : argsM long ds (S.drop y.2) with
      | error k' => rw [hr] at h; cases h; exact ih _ _ hr
      | ok z => rw [hr] at h; cases h

theorem matchM_err {P B L : List Tok} {long : Bool} {k : Int} (h : matchM P B long L = .error k) : k ≠ 0 := by
  unfold matchM at h
  split at h
  · cases h; omega
  · split at h
    · cases h; omega
    · split at h
      · cases h; omega
      · split at h
        · rename_i hp; cases h; exact hp
        · cases hr : argsM long (parts P).2 (L.drop (parts P).1.length) with
          | error k' => rw [hr] at h; cases h; exact argsM_err _ _ _ hr
          | ok y => rw [hr] at h; cases h

theorem applyM_err {P B : List Tok} {A : List (List Tok)} {k : Int} (h : applyM P B A = .error k) : k ≠ 0 := by
  unfold applyM at h
  split at h
  · cases h; omega
  · split at h
    · cases h; omega
    · split at h
      · cases h; omega
      · split at h
        · cases h; omega
        · cases h

theorem expand_no {P B L : List Tok} {long : Bool} {k : Int} (h : matchM P B long L = .error k) : expandM P B long L = .error k := by rw [expandM, h]
theorem expand_no2 {P B L : List Tok} {long : Bool} {k : Int} {x : List (List Tok) × Nat} (h : matchM P B long L = .ok x) (h2 : applyM P B x.1 = .error k) : expandM P B long L = .error k := by rw [expandM, h]; simp only [h2]
theorem expand_yes {P B L o : List Tok} {long : Bool} {x : List (List Tok) × Nat} (h : matchM P B long L = .ok x) (h2 : applyM P B x.1 = .ok o) : expandM P B long L = if 20000 < o.length + L.length - x.2 then .error 6 else .ok (o ++ L.drop x.2) := by rw [expandM, h]; simp only [h2]

theorem applyM_le {P B : List Tok} {A : List (List Tok)} {x : List Tok} (h : applyM P B A = .ok x) : x.length ≤ 20000 := by
  unfold applyM at h
  split at h
  · cases h
  · split at h
    · cases h
    · split at h
      · cases h
      · split at h
        · cases h
        · cases h
          rw [subst_length]
          omega

set_option maxRecDepth 100000 in
set_option maxHeartbeats 8000000 in
theorem expand_any (P B L : List Tok) (vp vb vl : Value) (long : Bool) (w : World) (hp : RdT w vp P) (hb : RdT w vb B) (hl : RdT w vl L) (hnP : P.length ≤ 4000000000) (hnB : B.length ≤ 4000000000) (hnL : L.length ≤ 4000000000) :
    Calls Try.prog 26 #[.agg #[vp, vb, .bool long], vl] w (ListPost w (expandM P B long L)) := by
  obtain ⟨i0, hi, hz0, hz1, hz2⟩ := info_parts info_tok
  have HI := Lib.hid hi
  have HZ0 := Lib.hid hz0
  have HZ1 := Lib.hid hz1
  have HZ2 := Lib.hid hz2
  clear hi hz0 hz1 hz2
  obtain ⟨r, hr⟩ : ∃ r, expandM P B long L = r := ⟨_, rfl⟩
  rw [hr]
  obtain ⟨mr, hmr⟩ : ∃ mr, matchM P B long L = mr := ⟨_, rfl⟩
  obtain ⟨nl, hnl⟩ : ∃ nl, L.length = nl := ⟨_, rfl⟩
  obtain ⟨al, cl, hvl, hcl⟩ := hl.capd
  have HX1 := Lib.hid (show Ext w (w.alloc (.cells #[vp, vb, .bool long] 25)) from (Ext.refl _).alloc)
  have HM := Lib.hid (match_any P B L vp vb vl long _ (hp.ext HX1.out) (hb.ext HX1.out) (hl.ext HX1.out) hnP hnB hnL)
  have HP := Lib.hid hp
  have HB := Lib.hid hb
  have HL := Lib.hid hl
  have HNP := Lib.hid hnP
  have HNB := Lib.hid hnB
  have HR := Lib.hid hr
  have HMR := Lib.hid hmr
  have NL := Lib.hid hnl
  have H1 := Lib.hid ((Sat.start w).alloc (.cells #[vp, vb, .bool long] 25))
  rw [hnl] at hvl hcl
  clear hr hp hb hl hmr hnl hnP hnB hnL
  subst hvl
  go_enter Try.func26, Try.ntmps26
  go_wp2_with fail
  with_reducible refine Calls.mono HM.out ?_
  rintro e w1 hex
  rw [HMR.out] at hex
  cases mr with
  | error k =>
    obtain ⟨rfl, hs⟩ := hex
    have hk := matchM_err HMR.out
    have q1 : (k != 0) = true := by simpa using hk
    have HE := Lib.hid (show r = .error k by rw [← HR.out]; exact expand_no HMR.out)
    have HX2 := Lib.hid (HX1.out.trans hs.toExt)
    clear hs hk
    go_wp2
    go_ret2
    exact ListPost.no HE.out HX2.out
  | ok x =>
    obtain ⟨A, used⟩ := x
    obtain ⟨v, us, rfl, hul, hs⟩ := hex
    have HX2 := Lib.hid (HX1.out.trans hs.extR)
    have HS2 := Lib.hid (H1.out.ext hs.extR)
    have HTT := Lib.hid (rowUU_rd hul hs)
    obtain ⟨hm1, hm2, hm3, hm4⟩ := matchM_le HMR.out
    simp only at hm1 hm2 hm3
    have m0 := HS2.out.cell (i := 0) rfl
    have m1 := HS2.out.cell (i := 1) rfl
    have m2 := HS2.out.cell (i := 2) rfl
    have lm := HS2.out.lt
    obtain ⟨ar, har⟩ : ∃ ar, applyM P B A = ar := ⟨_, rfl⟩
    have hAP := apply_any P B A vp vb v long w1 (HP.out.ext HX2.out) (HB.out.ext HX2.out) HTT.out HNP.out HNB.out (Nat.le_trans hm1 HNP.out) (fun a ha => Nat.le_trans (hm3 a ha) (by omega))
    rw [har] at hAP
    have HAP := Lib.hid hAP
    have HAR := Lib.hid har
    rw [NL.out] at hm2 hm4
    clear hs hul hm1 hm3 har hAP
    go_wp2_with fail
    with_reducible refine Calls.mono HAP.out ?_
    rintro e w2 hex
    cases ar with
    | error k =>
      obtain ⟨rfl, hs⟩ := hex
      have hk := applyM_err HAR.out
      have q1 : (k != 0) = true := by simpa using hk
      have HE := Lib.hid (show r = .error k by rw [← HR.out]; exact expand_no2 HMR.out HAR.out)
      have HX3 := Lib.hid (HX2.out.trans hs.toExt)
      clear hs hk m0 m1 m2 lm
      go_wp2
      go_ret2
      exact ListPost.no HE.out HX3.out
    | ok o =>
      obtain ⟨vo, rfl, hs⟩ := hex
      obtain ⟨ao, co, rfl, -⟩ := (rowT_rd hs).capd
      have HE := Lib.hid (show r = if 20000 < o.length + L.length - used then .error 6 else .ok (o ++ L.drop used) by rw [← HR.out]; exact expand_yes HMR.out HAR.out)
      have HX3 := Lib.hid (HX2.out.trans hs.extR)
      have HSO := Lib.hid hs
      have hol := applyM_le HAR.out
      clear hs m0 m1 m2 lm
      by_cases hbig : 20000 < o.length + nl - used
      · have HE2 := Lib.hid (show r = .error 6 by rw [HE.out, NL.out, if_pos hbig])
        have q1 : (20000 : Int) < (o.length : Int) + (nl : Int) - (used : Int) := by omega
        clear hbig
        go_wp2
        go_ret2
        exact ListPost.no HE2.out HX3.out
      · have HE2 := Lib.hid (show r = .ok (o ++ L.drop used) by rw [HE.out, NL.out, if_neg hbig])
        have q1 : ¬ (20000 : Int) < (o.length : Int) + (nl : Int) - (used : Int) := by omega
        have hdl : (L.drop used).length = nl - used := by rw [List.length_drop, NL.out]
        have HDL := Lib.hid hdl
        clear hbig hdl
        have e1 : (used : Int) ≤ (nl : Int) := by omega
        have HFN := Lib.hid (show ∀ (v' : Value) (w3 : World), Sat w1 (rowT v' (o ++ L.drop used) * own w1) w3 → ListPost w r (.returned (.tuple #[v', .int .i64 0])) w3 from fun v' w3 h => by
          rw [HE2.out]
          exact ⟨v', rfl, Sat.frame HX2.out.toSat h⟩)
        by_cases hu : used < nl
        · obtain ⟨b', off, rfl, -, -⟩ := HL.out.at (i := used) (by rw [NL.out]; exact hu)
          have HRD := Lib.hid (show RdT w2 (.slice (some ⟨b', off + used * 3, none⟩) (nl - used) (cl - used)) (L.drop used) by
            have := (HL.out.ext HX3.out).drop (m := used) (by rw [NL.out]; omega)
            rw [NL.out] at this
            exact this)
          have e2 : used < cl := by omega
          go_wp2_with (at_builtin; refine wpList_append_rd rfl _ _ 22 rfl i0 _ 32 Try.underlying22 HI.out HZ0.out HZ1.out HZ2.out rfl (by omega) rfl (by exact HSO.out) _ (nl - used) (flat (L.drop used)) rfl ?_ (flat_one _) ?_ ?_ ?_)
          · have := HRD.out.1; rw [HDL.out] at this; exact this
          · simp [maxLen]; omega
          · omega
          intro v' w3 h6
          have H6 := Lib.hid (rowT_app h6 (by rw [HDL.out]))
          clear h6
          go_wp2
          go_ret2
          exact HFN.out _ _ H6.out
        · have hun : nl = used := by omega
          subst hun
          have HFN2 := Lib.hid (show ∀ (v' : Value) (w3 : World), Sat w1 (rowT v' o * own w1) w3 → ListPost w r (.returned (.tuple #[v', .int .i64 0])) w3 from fun v' w3 h => by
            refine HFN.out v' w3 ?_
            rw [List.drop_of_length_le (by rw [NL.out]; exact Nat.le_refl _), List.append_nil]
            exact h)
          by_cases hc : cl = nl
          · subst hc
            go_wp2_with (at_builtin; refine wpList_append_rd rfl _ _ 22 rfl i0 _ 32 Try.underlying22 HI.out HZ0.out HZ1.out HZ2.out rfl (by omega) rfl (by exact HSO.out) _ 0 [] rfl (RdT.empty _ _ _).1 (by simp) ?_ ?_ ?_)
            all_goals first
              | (simp [maxLen]; omega)
              | omega
              | (intro v' w3 h6
                 have H6 := Lib.hid h6
                 clear h6
                 go_wp2
                 go_ret2
                 exact HFN2.out _ _ (by first | exact H6.out | simpa [rowT] using H6.out))
          · have hc2 : nl < cl := by omega
            clear hc
            go_wp2_with (at_builtin; refine wpList_append_rd rfl _ _ 22 rfl i0 _ 32 Try.underlying22 HI.out HZ0.out HZ1.out HZ2.out rfl (by omega) rfl (by exact HSO.out) _ 0 [] rfl (RdT.empty _ _ _).1 (by simp) ?_ ?_ ?_)
            all_goals first
              | (simp [maxLen]; omega)
              | omega
              | (intro v' w3 h6
                 have H6 := Lib.hid h6
                 clear h6
                 go_wp2
                 go_ret2
                 exact HFN2.out _ _ (by first | exact H6.out | simpa [rowT] using H6.out))

end Go.Proofs.Ytlbebcioabfbgaa
