/-
  Count and Same, both. Conditions: those that each theorem names.
-/
import Derived.Test.YtlbebcioabfbgaaMacE
namespace Go.Proofs.Ytlbebcioabfbgaa
open Go.RowKit Go.Sp
variable {W w : World} {F : HProp}

def countP (i n : Nat) : List Tok → Nat
  | [] => n
  | t :: r => if i < 20000 ∧ n < 9 ∧ placeB t = true then countP (i + 1) (n + 1) r else countP (i + 1) n r

theorem countP_9 (L : List Tok) : ∀ i n, ¬ (i < 20000 ∧ n < 9) → countP i n L = n := by
  induction L with
  | nil => intros; rfl
  | cons t r ih =>
    intro i n h
    rw [countP, if_neg (by rintro ⟨a, b, _⟩; exact h ⟨a, b⟩)]
    exact ih _ _ (by omega)

theorem countP_drop (L : List Tok) (n k : Nat) (h : k < L.length) : countP k n (L.drop k) = if k < 20000 ∧ n < 9 ∧ placeB L[k] = true then countP (k + 1) (n + 1) (L.drop (k + 1)) else countP (k + 1) n (L.drop (k + 1)) := by
  rw [List.drop_eq_getElem_cons h, countP]

def count (P : List Tok) : Nat := countP 0 0 P

set_option maxHeartbeats 4000000 in
set_option maxRecDepth 100000 in
theorem count_macro (P : List Tok) (vp vb : Value) (long : Bool) (w : World) (hp : RdT w vp P) (hnP : P.length ≤ 4000000000) :
    Calls Try.prog 34 #[.agg #[vp, vb, .bool long]] w fun e w' => e = .returned (.int .i64 (count P)) ∧ Ext w w' := by
  obtain ⟨np, hnp⟩ : ∃ np, P.length = np := ⟨_, rfl⟩
  have HP := Lib.hid hp
  obtain ⟨ap, cp, hvp, hcp⟩ := hp.capd
  rw [hnp] at hvp hnP hcp
  subst hvp
  have NP := Lib.hid hnp
  clear hp hnp
  have h1 := (Sat.start w).alloc (.cells #[.slice ap np cp, vb, .bool long] 25)
  go_enter Try.func34, Try.ntmps34
  go_wp2
  generalize hbm : w.heap.size = bm at *
  clear hbm
  go_loopw [3, 9] (fun n i wr => ∃ k m : Nat, k ≤ np ∧ m ≤ k ∧ n = .int .i64 m ∧ i = .int .i64 k ∧ countP k m (P.drop k) = count P ∧ Ext w wr) (fun _ i _ => np - (intOf i).toNat)
  case atStart => exact ⟨0, 0, by omega, by omega, rfl, rfl, rfl, (Ext.refl _).alloc⟩
  case round =>
    obtain ⟨k, m, hk, hm, rfl, rfl, ha, hx⟩ := hrel
    have HA := Lib.hid ha
    have HX := Lib.hid hx
    clear ha hx
    by_cases hlt : k < np
    · obtain ⟨b, off, rfl, ⟨c0, c1, c2⟩, hb⟩ := (HP.out.ext HX.out).at (i := k) (by rw [NP.out]; exact hlt)
      have HR := Lib.hid (countP_drop P m k (by rw [NP.out]; exact hlt))
      generalize P[k]'(by rw [NP.out]; exact hlt) = t at *
      have lt1 : (k : Int) < (np : Int) := by omega
      have hby : (t.chr.toNat : Int) < 256 := by have := t.chr.toNat_lt; omega
      by_cases hc : k < 20000 ∧ m < 9 ∧ placeB t = true
      · have HR2 := Lib.hid (show countP k m (P.drop k) = countP (k + 1) (m + 1) (P.drop (k + 1)) by rw [HR.out, if_pos hc])
        obtain ⟨q1, q2, q3⟩ := hc
        have q1' : (k : Int) < 20000 := by omega
        have q2' : (m : Int) < 9 := by omega
        go_wp2_with (go_at_call 53; with_reducible refine Calls.mono (place_any _ _) ?_; rintro e w' ⟨rfl, rfl⟩)
        go_roundw
        case rel => exact ⟨k + 1, m + 1, by omega, by omega, by go_num, by go_num, by rw [← HA.out, HR2.out], HX.out.alloc.alloc⟩
        case measure => simp [intOf]; omega
      · have HR2 := Lib.hid (show countP k m (P.drop k) = countP (k + 1) m (P.drop (k + 1)) by rw [HR.out, if_neg hc])
        by_cases q1 : (k : Int) < 20000
        · by_cases q2 : (m : Int) < 9
          · have q3 : placeB t = false := by
              cases hz : placeB t
              · rfl
              · exact absurd ⟨by omega, by omega, hz⟩ hc
            clear hc
            go_wp2_with (go_at_call 53; with_reducible refine Calls.mono (place_any _ _) ?_; rintro e w' ⟨rfl, rfl⟩)
            go_roundw
            case rel => exact ⟨k + 1, m, by omega, by omega, rfl, by go_num, by rw [← HA.out, HR2.out], HX.out.alloc.alloc⟩
            case measure => simp [intOf]; omega
          · clear hc
            go_wp2
            go_roundw
            case rel => exact ⟨k + 1, m, by omega, by omega, rfl, by go_num, by rw [← HA.out, HR2.out], HX.out.alloc⟩
            case measure => simp [intOf]; omega
        · clear hc
          go_wp2
          go_roundw
          case rel => exact ⟨k + 1, m, by omega, by omega, rfl, by go_num, by rw [← HA.out, HR2.out], HX.out.alloc⟩
          case measure => simp [intOf]; omega
    · obtain rfl : k = np := by omega
      go_wp2
      go_ret
      exact ⟨by rw [← HA.out, List.drop_of_length_le (by rw [NP.out]; omega)]; rfl, HX.out⟩

set_option maxHeartbeats 4000000 in
set_option maxRecDepth 100000 in
theorem count_ref (P : List Tok) (vp vb : Value) (long : Bool) (w : World) (hp : RdT w vp P) (hnP : P.length ≤ 4000000000) :
    Calls Try.prog 35 #[.agg #[vp, vb, .bool long]] w fun e w' => e = .returned (.int .i64 (count P)) ∧ Ext w w' := by
  obtain ⟨np, hnp⟩ : ∃ np, P.length = np := ⟨_, rfl⟩
  have HP := Lib.hid hp
  obtain ⟨ap, cp, hvp, hcp⟩ := hp.capd
  rw [hnp] at hvp hnP hcp
  subst hvp
  have NP := Lib.hid hnp
  clear hp hnp
  have h1 := (Sat.start w).alloc (.cells #[.slice ap np cp, vb, .bool long] 29)
  go_enter Try.func35, Try.ntmps35
  go_wp2
  generalize hbm : w.heap.size = bm at *
  clear hbm
  go_loopw [3, 4] (fun n i wr => ∃ k m : Nat, k ≤ np ∧ m ≤ k ∧ n = .int .i64 m ∧ i = .int .i64 k ∧ countP k m (P.drop k) = count P ∧ Sat w (pts bm (.cells #[.slice ap np cp, vb, .bool long] 29 (0, 0)) * own w) wr) (fun _ i _ => np - (intOf i).toNat)
  case atStart => exact ⟨0, 0, by omega, by omega, rfl, rfl, rfl, h1⟩
  case round =>
    obtain ⟨k, m, hk, hm, rfl, rfl, ha, hx⟩ := hrel
    have HA := Lib.hid ha
    have HX := Lib.hid hx
    clear ha hx
    have m0 := HX.out.cell (i := 0) rfl
    have hbm := HX.out.lt
    by_cases hlt : k < np
    · obtain ⟨b, off, rfl, ⟨c0, c1, c2⟩, hb⟩ := (HP.out.ext HX.out.extR).at (i := k) (by rw [NP.out]; exact hlt)
      have HR := Lib.hid (countP_drop P m k (by rw [NP.out]; exact hlt))
      have H9 := Lib.hid (countP_9 (P.drop k) k m)
      generalize P[k]'(by rw [NP.out]; exact hlt) = t at *
      have lt1 : (k : Int) < (np : Int) := by omega
      have HP1 := Lib.hid (show 0 < placeN t → placeB t = true by intro h; cases hp : placeB t; (rw [placeN_no hp] at h; omega); rfl)
      have HP2 := Lib.hid (show ¬ 0 < placeN t → placeB t ≠ true by intro h hp; have := placeN_yes hp; omega)
      go_wp2_with (go_at_call 50; with_reducible refine Calls.mono (placeR_any _ _) ?_; rintro e w' ⟨rfl, rfl⟩)
      all_goals first
        | (go_roundw
           case rel => first
             | exact ⟨k + 1, m + 1, by omega, by omega, by go_num, by go_num, by rw [← HA.out, HR.out, if_pos ⟨by omega, by omega, HP1.out (by omega)⟩], HX.out.allocD⟩
             | exact ⟨k + 1, m, by omega, by omega, rfl, by go_num, by rw [← HA.out, HR.out, if_neg (fun h => HP2.out (by omega) h.2.2)], HX.out.allocD⟩
           case measure => simp [intOf]; omega)
        | (go_ret
           exact ⟨by rw [← HA.out, H9.out (by omega)]; rfl, HX.out.extR⟩)
    · obtain rfl : k = np := by omega
      go_wp2
      go_ret
      exact ⟨by rw [← HA.out, List.drop_of_length_le (by rw [NP.out]; omega)]; rfl, HX.out.extR⟩

theorem same_is {b : Bool} (xs ys : List Tok) (v u : Value) (w : World) (hb : decide (xs = ys) = b) (hv : RdT w v xs) (hu : RdT w u ys) :
    Calls Try.prog 55 #[v, u] w fun e w' => e = .returned (.bool b) ∧ ∃ q, w.drewN q = w' := hb ▸ same_any xs ys v u w hv hu
theorem sameT_is {b : Bool} (xs ys : List Tok) (v u : Value) (w : World) (hb : decide (xs = ys) = b) (hv : RdT w v xs) (hu : RdT w u ys) :
    Calls Try.prog 16 #[v, u] w fun e w' => e = .returned (.bool b) ∧ ∃ q, w.drewN q = w' := hb ▸ sameT_any xs ys v u w hv hu

def sameM (P B P' B' : List Tok) (l l' : Bool) : Bool := decide (P = P') && decide (B = B') && (l == l')

set_option maxHeartbeats 4000000 in
set_option maxRecDepth 100000 in
theorem same_macro (P B P' B' : List Tok) (vp vb vp' vb' : Value) (long long' : Bool) (w : World) (hp : RdT w vp P) (hb : RdT w vb B) (hp' : RdT w vp' P') (hb' : RdT w vb' B') :
    Calls Try.prog 36 #[.agg #[vp, vb, .bool long], .agg #[vp', vb', .bool long']] w fun e w' => e = .returned (.bool (sameM P B P' B' long long')) ∧ Ext w w' := by
  have HP := Lib.hid hp
  have HB := Lib.hid hb
  have HP' := Lib.hid hp'
  have HB' := Lib.hid hb'
  clear hp hb hp' hb'
  obtain ⟨b1, h1⟩ : ∃ b1, decide (P = P') = b1 := ⟨_, rfl⟩
  obtain ⟨b2, h2⟩ : ∃ b2, decide (B = B') = b2 := ⟨_, rfl⟩
  have HS := Lib.hid (show sameM P B P' B' long long' = (b1 && b2 && (long == long')) by rw [sameM, h1, h2])
  have H1 := Lib.hid h1
  have H2 := Lib.hid h2
  clear h1 h2
  have HX := Lib.hid (show Ext w ((w.alloc (.cells #[vp, vb, .bool long] 25)).alloc (.cells #[vp', vb', .bool long'] 25)) from (Ext.refl _).alloc.alloc)
  cases b1 <;> cases b2 <;> cases long <;> cases long'
  all_goals
    go_enter Try.func36, Try.ntmps36
    go_wp2_with first
      | (go_at_call 55; with_reducible refine Calls.mono (same_is P P' _ _ _ H1.out (HP.out.ext HX.out) (HP'.out.ext HX.out)) ?_; rintro e w' ⟨rfl, q, rfl⟩)
      | (go_at_call 55; with_reducible refine Calls.mono (same_is B B' _ _ _ H2.out (HB.out.ext HX.out) (HB'.out.ext HX.out)) ?_; rintro e w' ⟨rfl, q, rfl⟩)
      | (go_at_call 55; with_reducible refine Calls.mono (same_is B B' _ _ _ H2.out (HB.out.ext HX.out.drewN) (HB'.out.ext HX.out.drewN)) ?_; rintro e w' ⟨rfl, q2, rfl⟩)
    go_ret
    exact ⟨by rw [HS.out]; rfl, by first | exact HX.out | exact HX.out.drewN | exact HX.out.drewN.drewN⟩

set_option maxHeartbeats 4000000 in
set_option maxRecDepth 100000 in
theorem same_ref (P B P' B' : List Tok) (vp vb vp' vb' : Value) (long long' : Bool) (w : World) (hp : RdT w vp P) (hb : RdT w vb B) (hp' : RdT w vp' P') (hb' : RdT w vb' B') :
    Calls Try.prog 37 #[.agg #[vp, vb, .bool long], .agg #[vp', vb', .bool long']] w fun e w' => e = .returned (.bool (sameM P B P' B' long long')) ∧ Ext w w' := by
  have HP := Lib.hid hp
  have HB := Lib.hid hb
  have HP' := Lib.hid hp'
  have HB' := Lib.hid hb'
  clear hp hb hp' hb'
  obtain ⟨b1, h1⟩ : ∃ b1, decide (P = P') = b1 := ⟨_, rfl⟩
  obtain ⟨b2, h2⟩ : ∃ b2, decide (B = B') = b2 := ⟨_, rfl⟩
  have HS := Lib.hid (show sameM P B P' B' long long' = (b1 && b2 && (long == long')) by rw [sameM, h1, h2])
  have H1 := Lib.hid h1
  have H2 := Lib.hid h2
  clear h1 h2
  have HX := Lib.hid (show Ext w ((w.alloc (.cells #[vp, vb, .bool long] 29)).alloc (.cells #[vp', vb', .bool long'] 29)) from (Ext.refl _).alloc.alloc)
  cases b1 <;> cases b2 <;> cases long <;> cases long'
  all_goals
    go_enter Try.func37, Try.ntmps37
    go_wp2_with first
      | (go_at_call 16; with_reducible refine Calls.mono (sameT_is P P' _ _ _ H1.out (HP.out.ext HX.out) (HP'.out.ext HX.out)) ?_; rintro e w' ⟨rfl, q, rfl⟩)
      | (go_at_call 16; with_reducible refine Calls.mono (sameT_is B B' _ _ _ H2.out (HB.out.ext HX.out) (HB'.out.ext HX.out)) ?_; rintro e w' ⟨rfl, q, rfl⟩)
      | (go_at_call 16; with_reducible refine Calls.mono (sameT_is B B' _ _ _ H2.out (HB.out.ext HX.out.drewN) (HB'.out.ext HX.out.drewN)) ?_; rintro e w' ⟨rfl, q2, rfl⟩)
    go_ret
    exact ⟨by rw [HS.out]; rfl, by first | exact HX.out | exact HX.out.drewN | exact HX.out.drewN.drewN⟩

end Go.Proofs.Ytlbebcioabfbgaa
