/-
  The reference's alone. Conditions: those that the theorem names.
-/
import Derived.Test.YtlbebcioabfbgaaMacBD
namespace Go.Proofs.Ytlbebcioabfbgaa
open Go.RowKit Go.Sp
variable {W w w' : World} {F : HProp}

/-- what alone and delimited answer -/
def ArgR (w : World) (vl : Value) (L : List Tok) (i : Nat) (r : Except Int (List Tok × Nat)) (e : Ending) (w' : World) : Prop :=
  Ext w w' ∧ match r with
  | .ok x => ∃ v', e = .returned (.tuple #[v', .int .i64 ((i + x.2 : Nat) : Int), .int .i64 0]) ∧ View vl L v' x.1
  | .error k => ∃ v' n', e = .returned (.tuple #[v', .int .i64 n', .int .i64 k])

theorem ArgR.no {vl v' : Value} {L : List Tok} {i : Nat} {r : Except Int (List Tok × Nat)} {k n' : Int} (h : r = .error k) (hx : Ext w w') : ArgR w vl L i r (.returned (.tuple #[v', .int .i64 n', .int .i64 k])) w' := by
  subst h; exact ⟨hx, _, _, rfl⟩
theorem ArgR.yes {vl v' : Value} {L X : List Tok} {i n : Nat} {r : Except Int (List Tok × Nat)} {j : Int} (h : r = .ok (X, n)) (hv : View vl L v' X) (hj : j = (i + n : Nat)) (hx : Ext w w') : ArgR w vl L i r (.returned (.tuple #[v', .int .i64 j, .int .i64 0])) w' := by
  subst h hj; exact ⟨hx, _, rfl, hv⟩

theorem grp_pos : ∀ (S : List Tok) (d : Int) (p : Bool) (x : Nat × Bool), grp d p S = some x → 1 ≤ x.1 := by
  intro S
  cases S with
  | nil => intro d p x h; simp [grp] at h
  | cons t S =>
    intro d p x h
    rw [grp] at h
    split at h
    · cases h; simp
    · cases hg : grp (stepD d t) (p || isPar t) S with
      | none => rw [hg] at h; cases h
      | some y => rw [hg] at h; cases h; simp
theorem grp_two {t : Tok} {S : List Tok} {x : Nat × Bool} (ht : t.cat = 1) (h : grp 0 false (t :: S) = some x) : 2 ≤ x.1 := by
  have hs : stepD 0 t = 1 := by simp [stepD, ht]
  rw [grp, if_neg (by rw [hs]; omega)] at h
  cases hg : grp (stepD 0 t) (false || isPar t) S with
  | none => rw [hg] at h; cases h
  | some y => rw [hg] at h; cases h; have := grp_pos _ _ _ _ hg; simp; omega

set_option maxRecDepth 100000 in
set_option maxHeartbeats 4000000 in
theorem aloneR_any (L : List Tok) (v : Value) (i : Nat) (long : Bool) (w : World) (hv : RdT w v L) (hi : i ≤ L.length) (hn9 : L.length ≤ 4000000000) :
    Calls Try.prog 51 #[v, .int .i64 i, .bool long] w (ArgR w v L i (plainM long (L.drop i))) := by
  obtain ⟨n, hn⟩ : ∃ n, L.length = n := ⟨_, rfl⟩
  obtain ⟨a, c, hv', hcap⟩ := hv.capd
  rw [hn] at hv' hcap hn9 hi
  subst hv'
  obtain ⟨r, hr⟩ : ∃ r, plainM long (L.drop i) = r := ⟨_, rfl⟩
  rw [hr]
  have HR := Lib.hid hr
  have HN := Lib.hid hn
  have HV := Lib.hid hv
  clear hr hv hn
  go_enter Try.func51, Try.ntmps51
  go_wp2_with fail
  go_loopw [1] (fun sv wr => ∃ s j : Nat, s = i + j ∧ s ≤ n ∧ sv = .int .i64 s ∧ spaces (L.drop s) + j = spaces (L.drop i) ∧ w = wr) (fun sv _ => n - (intOf sv).toNat)
  case atStart => exact ⟨i, 0, rfl, hi, rfl, rfl, rfl⟩
  case round =>
    obtain ⟨s, j, hs, hij, rfl, ha, rfl⟩ := hrel
    have HS0 := Lib.hid hs
    have HA := Lib.hid ha
    clear ha hs
    by_cases hlt : s < n
    · have hlt' : s < L.length := by rw [HN.out]; exact hlt
      obtain ⟨b', off, rfl, ⟨c0, c1, c2⟩, hb'⟩ := HV.out.at hlt'
      have lt3 : (s : Int) < (n : Int) := by omega
      by_cases h10 : L[s].cat = 10
      · have e1 : (L[s].cat == 10) = true := by simp [h10]
        have HA2 := Lib.hid (show spaces (L.drop (s + 1)) + (j + 1) = spaces (L.drop i) by have := spaces_drop L s hlt' h10; have h2 := HA.out; omega)
        generalize L[s] = t at *
        clear h10
        go_wp2
        go_roundw
        case rel => exact ⟨s + 1, j + 1, by rw [HS0.out, Nat.add_assoc], by omega, by go_num, HA2.out, trivial⟩
        case measure => simp [intOf]; omega
      · have e0 : (L[s].cat == 10) = false := by simp [h10]
        have HSP := Lib.hid (show spaces (L.drop i) = j by have := spaces_stop L s hlt' h10; have h2 := HA.out; omega)
        have HRT := Lib.hid (show plainT long j (L[s] :: L.drop (s + 1)) = r by
          rw [← HR.out, plainM_T, HSP.out, List.drop_drop, ← HS0.out, List.drop_eq_getElem_cons hlt'])
        have HGC := Lib.hid (show L[s].cat = 1 → ∀ w', RdT w' (.slice (some ⟨b', off, none⟩) n c) L → Calls Try.prog 61 #[.slice (some ⟨b', off, none⟩) n c, .int .i64 s, .bool long] w' fun e w'' => e = .returned (groupV s long (grp 0 false (L[s] :: L.drop (s + 1)))) ∧ Ext w' w'' from fun hc w' h => by
          have := groupR_any L _ s long w' h hlt' hc (by rw [HN.out]; exact hn9)
          rwa [List.drop_eq_getElem_cons hlt'] at this)
        have HDL := Lib.hid (List.drop_eq_getElem_cons hlt')
        have hdl : (L.drop (s + 1)).length = n - (s + 1) := by rw [List.length_drop, HN.out]
        have HDLL := Lib.hid hdl
        clear hdl
        generalize L[s] = t at *
        clear h10
        have e1 : ((s : Int) + 1).toNat = s + 1 := by omega
        by_cases hc2 : t.cat = 2
        · have q1 : (t.cat == 2) = true := by simp [hc2]
          have q0 : (t.cat == 1) = false := by simp [hc2]
          have HE := Lib.hid (show r = .error 173 by rw [← HRT.out]; simp [plainT, hc2])
          clear hc2
          go_wp2_with (go_at_call 43; refine (shut_any _ _).mono ?_; rintro e w' ⟨rfl, rfl⟩)
          (try simp only [Exit.inBlock, Exit.then])
          refine bodyPost_ret (v := .tuple #[.slice none 0 0, .int .i64 0, .int .i64 173]) (by unfold results; go_simp) rfl ?_
          exact ArgR.no HE.out (Ext.refl _).alloc
        have q1 : (t.cat == 2) = false := by simp [hc2]
        by_cases hc1 : t.cat = 1
        · have q2 : (t.cat == 1) = true := by simp [hc1]
          obtain ⟨G, hG⟩ : ∃ G, grp 0 false (t :: L.drop (s + 1)) = G := ⟨_, rfl⟩
          have HE := Lib.hid (show r = grpE long j (L.drop (s + 1)) G by rw [← HRT.out, ← hG]; simp [plainT, hc1])
          have HGC2 := Lib.hid (HGC.out hc1)
          rw [hG] at HGC2
          cases G with
          | none =>
            have HEE := Lib.hid (show r = .error 172 by rw [HE.out]; rfl)
            clear hc1 hc2 hG
            go_wp2_with (first | (go_at_call 42; refine (open_any _ _).mono ?_; rintro e w' ⟨rfl, rfl⟩) | (go_at_call 43; refine (shut_any _ _).mono ?_; rintro e w' ⟨rfl, rfl⟩))
            refine Calls.mono (HGC2.out _ (HV.out.ext ((Ext.refl _).alloc.alloc))) ?_
            rintro e w3 ⟨rfl, hx⟩
            have HX := Lib.hid (((Ext.refl _).alloc.alloc).trans hx)
            clear hx
            simp only [groupV]
            have i1 : (s : Int) + 1 ≤ (c : Int) := by omega
            go_wp2
            all_goals
              (try simp only [Exit.inBlock, Exit.then])
              refine bodyPost_ret (v := .tuple #[_, .int .i64 1, .int .i64 172]) (by unfold results; go_simp; rfl) rfl ?_
              exact ArgR.no HEE.out HX.out
          | some x =>
            have h2 := grp_two hc1 hG
            have hle := grp_le _ _ _ _ hG
            rw [List.length_cons, HDLL.out] at hle
            obtain ⟨x1, x2⟩ := x
            simp only at h2 hle
            clear hc1 hc2 hG
            cases hx2 : (x2 && !long)
            · have HEE := Lib.hid (show r = .ok ((L.drop (s + 1)).take (x1 - 2), j + x1) by rw [HE.out]; simp only [grpE, hx2]; rfl)
              have HVW := Lib.hid (View.mid (b := b') (off := off) (c := c) (i := s + 1) (m := x1 - 2) HN.out (by omega) (by omega))
              have HGV := Lib.hid (show groupV s long (some (x1, x2)) = .tuple #[.int .i64 ((s + x1 - 1 : Nat) : Int), .int .i64 0] by simp only [groupV, hx2]; rfl)
              rw [HGV.out] at HGC2
              obtain ⟨en, hen⟩ : ∃ en, s + x1 - 1 = en := ⟨_, rfl⟩
              rw [hen] at HGC2
              clear hx2 HGV
              go_wp2_with (first | (go_at_call 42; refine (open_any _ _).mono ?_; rintro e w' ⟨rfl, rfl⟩) | (go_at_call 43; refine (shut_any _ _).mono ?_; rintro e w' ⟨rfl, rfl⟩))
              refine Calls.mono (HGC2.out _ (HV.out.ext ((Ext.refl _).alloc.alloc))) ?_
              rintro e w3 ⟨rfl, hx⟩
              have HX := Lib.hid (((Ext.refl _).alloc.alloc).trans hx)
              clear hx
              have i1 : (s : Int) + 1 ≤ (en : Int) := by omega
              have i2 : (en : Int) ≤ (c : Int) := by omega
              have i3 : max (en : Int) ((s : Int) + 1) = (en : Int) := by omega
              have HEN := Lib.hid (show en - (s + 1) = x1 - 2 ∧ (en : Int) + 1 = (i + (j + x1) : Nat) by have := HS0.out; omega)
              have i5 : (en : Int) ≤ 4000000000 := by omega
              clear hen
              go_wp2
              all_goals
                (try simp only [Exit.inBlock, Exit.then])
                refine bodyPost_ret (v := .tuple #[.slice (some ⟨b', off + (s + 1) * 3, none⟩) (en - (s + 1)) (c - (s + 1)), .int .i64 ((en : Int) + 1), .int .i64 0]) (by unfold results; go_simp) rfl ?_
                exact ArgR.yes HEE.out (by rw [HEN.out.1]; exact HVW.out) HEN.out.2 HX.out
            · have HEE := Lib.hid (show r = .error 171 by rw [HE.out]; simp only [grpE, hx2]; rfl)
              have HGV := Lib.hid (show groupV s long (some (x1, x2)) = .tuple #[.int .i64 0, .int .i64 171] by simp only [groupV, hx2]; rfl)
              rw [HGV.out] at HGC2
              clear hx2 HGV
              go_wp2_with (first | (go_at_call 42; refine (open_any _ _).mono ?_; rintro e w' ⟨rfl, rfl⟩) | (go_at_call 43; refine (shut_any _ _).mono ?_; rintro e w' ⟨rfl, rfl⟩))
              refine Calls.mono (HGC2.out _ (HV.out.ext ((Ext.refl _).alloc.alloc))) ?_
              rintro e w3 ⟨rfl, hx⟩
              have HX := Lib.hid (((Ext.refl _).alloc.alloc).trans hx)
              clear hx
              have i1 : (s : Int) + 1 ≤ (c : Int) := by omega
              go_wp2
              all_goals
                (try simp only [Exit.inBlock, Exit.then])
                refine bodyPost_ret (v := .tuple #[_, .int .i64 1, .int .i64 171]) (by unfold results; go_simp; rfl) rfl ?_
                exact ArgR.no HEE.out HX.out
        · have q2 : (t.cat == 1) = false := by simp [hc1]
          obtain ⟨pu, hpu⟩ : ∃ pu, isPar t = pu := ⟨_, rfl⟩
          have HPU := Lib.hid (show ∀ w, Calls Try.prog 62 #[.agg #[.int .i64 t.cat, .int .u8 t.chr.toNat, .string t.name]] w fun e w' => e = .returned (.bool pu) ∧ w.alloc t.box = w' from fun w => hpu ▸ parR_any t w)
          have HE3 := Lib.hid (show r = if pu && !long then .error 171 else .ok ([t], j + 1) by rw [← HRT.out, ← hpu]; simp [plainT, hc1, hc2])
          have HVW := Lib.hid (show View (.slice (some ⟨b', off, none⟩) n c) L (.slice (some ⟨b', off + s * 3, none⟩) 1 (c - s)) [t] from by
            have := View.mid (b := b') (off := off) (c := c) (i := s) (m := 1) HN.out hlt (by omega)
            rw [HDL.out] at this
            exact this)
          clear hc1 hc2 hpu
          have i1 : (s : Int) + 1 ≤ (c : Int) := by omega
          cases pu <;> cases long
          all_goals
            go_wp2_with (first | (go_at_call 42; refine (open_any _ _).mono ?_; rintro e w' ⟨rfl, rfl⟩) | (go_at_call 43; refine (shut_any _ _).mono ?_; rintro e w' ⟨rfl, rfl⟩) | (go_at_call 62; refine (HPU.out _).mono ?_; rintro e w' ⟨rfl, rfl⟩))
            (try simp only [Exit.inBlock, Exit.then])
            first
              | (refine bodyPost_ret (v := .tuple #[.slice none 0 0, .int .i64 0, .int .i64 171]) (by unfold results; go_simp) rfl ?_
                 exact ArgR.no (by rw [HE3.out]; rfl) (Ext.refl _).alloc.alloc.alloc)
              | (refine bodyPost_ret (v := .tuple #[.slice (some ⟨b', off + s * 3, none⟩) 1 (c - s), .int .i64 ((s : Int) + 1), .int .i64 0]) (by unfold results; go_simp) rfl ?_
                 exact ArgR.yes (X := [t]) (n := j + 1) (by rw [HE3.out]; rfl) HVW.out (by have := HS0.out; omega) (Ext.refl _).alloc.alloc.alloc)
    · have e0 : L.drop s = [] := List.drop_of_length_le (by rw [HN.out]; omega)
      have e1 := HA.out
      rw [e0] at e1
      have HEE := Lib.hid (show r = .error 172 by
        have e2 : spaces (L.drop i) = j := by rw [← e1]; simp [spaces]
        rw [← HR.out, plainM_T, List.drop_drop, e2, ← HS0.out, e0]
        rfl)
      clear e0 e1
      obtain rfl : s = n := by omega
      go_wp2
      (try simp only [Exit.inBlock, Exit.then])
      refine bodyPost_ret (v := .tuple #[.slice none 0 0, .int .i64 0, .int .i64 172]) (by unfold results; go_simp) rfl ?_
      exact ArgR.no HEE.out (Ext.refl _)

end Go.Proofs.Ytlbebcioabfbgaa
