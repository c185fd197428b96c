/-
  The reference's group, alone, stands, stripped, delimited. Conditions: those that each theorem names.
-/
import Derived.Test.YtlbebcioabfbgaaMacBA
import Derived.Test.YtlbebcioabfbgaaMacT
namespace Go.Proofs.Ytlbebcioabfbgaa
open Go.RowKit Go.Sp
variable {W w w' : World} {F : HProp}

theorem parR_any (t : Tok) (w : World) : Calls Try.prog 62 #[t.val] w fun e w' => e = .returned (.bool (isPar t)) ∧ w.alloc t.box = w' := by
  by_cases h : t.cat = 16
  · have hc : (t.cat == 16) = true := by simp [h]
    have HS := Lib.hid (show isPar t = (t.name.toList == [112, 97, 114]) by simp [isPar, h])
    clear h
    go_enter Try.func62, Try.ntmps62
    go_wp2
    go_ret
    exact ⟨by rw [HS.out]; rfl, rfl⟩
  · have hc : (t.cat == 16) = false := by simp [h]
    have HS := Lib.hid (show isPar t = false by simp [isPar, h])
    clear h
    go_enter Try.func62, Try.ntmps62
    go_wp2
    go_ret
    exact ⟨by rw [HS.out]; rfl, rfl⟩

/-- what group answers -/
def groupV (i : Nat) (long : Bool) : Option (Nat × Bool) → Value
  | none => .tuple #[.int .i64 0, .int .i64 172]
  | some x => if x.2 && !long then .tuple #[.int .i64 0, .int .i64 171] else .tuple #[.int .i64 ((i + x.1 - 1 : Nat) : Int), .int .i64 0]



set_option maxRecDepth 100000 in
set_option maxHeartbeats 4000000 in
theorem groupR_any (L : List Tok) (v : Value) (i : Nat) (long : Bool) (w : World) (hv : RdT w v L) (hi : i < L.length) (hc : L[i].cat = 1) (hn9 : L.length ≤ 4000000000) :
    Calls Try.prog 61 #[v, .int .i64 i, .bool long] w fun e w' => e = .returned (groupV i long (grp 0 false (L.drop i))) ∧ Ext w w' := by
  obtain ⟨n, hn⟩ : ∃ n, L.length = n := ⟨_, rfl⟩
  obtain ⟨a, c, hv', hcap⟩ := hv.capd
  rw [hn] at hv' hcap hn9
  subst hv'
  obtain ⟨G, hG⟩ : ∃ G, grp 0 false (L.drop i) = G := ⟨_, rfl⟩
  have HG0 := Lib.hid (show (grp 0 false (L.drop i)).map (fun y => (y.1 + 0, y.2)) = G by rw [hG]; cases G <;> rfl)
  rw [hG]
  have HN := Lib.hid hn
  have HV := Lib.hid hv
  have HC1 := Lib.hid (show ∀ p q, p = i + q → q = 0 → ∀ h : p < L.length, L[p].cat = 1 by
    intro p q h1 h2 h3
    subst h2
    simp only [Nat.add_zero] at h1
    subst h1
    exact hc)
  have hi2 : i < n := by omega
  clear hv hn hG hc hi
  go_enter Try.func61, Try.ntmps61
  go_wp2_with fail
  go_loopw [8, 9, 10] (fun dv pv kv wr => ∃ (p q : Nat) (d : Int) (pb : Bool), p = i + q ∧ p ≤ n ∧ 0 ≤ d ∧ d ≤ q ∧ (q = 0 ∨ 1 ≤ d) ∧ dv = .int .i64 d ∧ pv = .bool pb ∧ kv = .int .i64 p ∧ (grp d pb (L.drop p)).map (fun y => (y.1 + q, y.2)) = G ∧ Ext w wr) (fun _ _ kv _ => n - (intOf kv).toNat)
  case atStart => exact ⟨i, 0, 0, false, rfl, by omega, by omega, by omega, .inl rfl, rfl, rfl, rfl, HG0.out, Ext.refl _⟩
  case round =>
    obtain ⟨p, q, d, pb, hp, hq, hd0, hd1, hqd, rfl, rfl, rfl, ha, hx⟩ := hrel
    have HA3 := Lib.hid ha
    have HX3 := Lib.hid hx
    have HPQ := Lib.hid hp
    have hqp : q ≤ p := by omega
    clear ha hx
    by_cases hlt3 : p < n
    · have hlt3' : p < L.length := by rw [HN.out]; exact hlt3
      obtain ⟨b', off, rfl, ⟨c0, c1, c2⟩, hb'⟩ := (HV.out.ext HX3.out).at hlt3'
      have HGR := Lib.hid (show grp d pb (L.drop p) = if stepD d L[p] = 0 then some (1, pb || isPar L[p]) else (grp (stepD d L[p]) (pb || isPar L[p]) (L.drop (p + 1))).map fun x => (x.1 + 1, x.2) by rw [List.drop_eq_getElem_cons hlt3', grp])
      have hq1 := fun h => HC1.out p q hp h hlt3'
      generalize L[p] = u at *
      have lt3 : (p : Int) < (n : Int) := by omega
      clear hp
      by_cases h1 : u.cat = 1
      · have e1 : (u.cat == 1) = true := by simp [h1]
        have e2 : (u.cat == 2) = false := by simp [h1]
        have hs : stepD d u = d + 1 := by simp [stepD, h1]
        have hpu : isPar u = false := by simp [isPar, h1]
        have HPU := Lib.hid (show ∀ w, Calls Try.prog 62 #[.agg #[.int .i64 u.cat, .int .u8 u.chr.toNat, .string u.name]] w fun e w' => e = .returned (.bool false) ∧ w.alloc u.box = w' from fun w => hpu ▸ parR_any u w)
        have hg := HGR.out
        rw [hs, hpu, Bool.or_false, if_neg (by omega)] at hg
        have HG5 := Lib.hid (grp_step (X := grp (d + 1) pb (L.drop (p + 1))) (q := q) (G := G) (by rw [← HA3.out, hg]))
        have HD5 := Lib.hid (show 0 ≤ d + 1 ∧ d + 1 ≤ (q + 1 : Nat) ∧ (q + 1 = 0 ∨ 1 ≤ d + 1) by omega)
        have z1 : (d + 1 == 0) = false := by simp; omega
        clear h1 hs hpu hg hq1
        cases pb
        all_goals
          go_wp2_with (first | (go_at_call 42; refine (open_any _ _).mono ?_; rintro e w' ⟨rfl, rfl⟩) | (go_at_call 43; refine (shut_any _ _).mono ?_; rintro e w' ⟨rfl, rfl⟩) | (go_at_call 62; refine (HPU.out _).mono ?_; rintro e w' ⟨rfl, rfl⟩))
          first
            | (go_roundw
               case rel => exact ⟨p + 1, q + 1, _, _, by rw [HPQ.out, Nat.add_assoc], by omega, HD5.out.1, HD5.out.2.1, HD5.out.2.2, rfl, rfl, by go_num, HG5.out, by first | exact HX3.out.alloc.alloc.alloc | exact HX3.out.alloc.alloc⟩
               case measure => simp [intOf]; omega)
      · have hq0 : 1 ≤ d := by
          rcases hqd with h | h
          · exact absurd (hq1 h) h1
          · exact h
        have e1 : (u.cat == 1) = false := by simp [h1]
        by_cases h2 : u.cat = 2
        · have e2 : (u.cat == 2) = true := by simp [h2]
          have hs : stepD d u = d - 1 := by simp [stepD, h2]
          have hpu : isPar u = false := by simp [isPar, h2]
          have HPU := Lib.hid (show ∀ w, Calls Try.prog 62 #[.agg #[.int .i64 u.cat, .int .u8 u.chr.toNat, .string u.name]] w fun e w' => e = .returned (.bool false) ∧ w.alloc u.box = w' from fun w => hpu ▸ parR_any u w)
          have hg := HGR.out
          rw [hs, hpu, Bool.or_false] at hg
          by_cases hz : d - 1 = 0
          · obtain rfl : d = 1 := by omega
            rw [if_pos (by omega)] at hg
            have HG5 := Lib.hid (show G = some (q + 1, pb) by rw [← HA3.out, hg]; simp [Nat.add_comm])
            have HIP := Lib.hid (show i + (q + 1) - 1 = p by have := HPQ.out; omega)
            clear h1 h2 hs hpu hg hq1 hz
            cases pb <;> cases long
            all_goals
              go_wp2_with (first | (go_at_call 42; refine (open_any _ _).mono ?_; rintro e w' ⟨rfl, rfl⟩) | (go_at_call 43; refine (shut_any _ _).mono ?_; rintro e w' ⟨rfl, rfl⟩))
              go_ret2
              exact ⟨by rw [HG5.out]; simp only [groupV, HIP.out]; rfl, HX3.out.alloc.alloc⟩
          · rw [if_neg hz] at hg
            have HG5 := Lib.hid (grp_step (X := grp (d - 1) pb (L.drop (p + 1))) (q := q) (G := G) (by rw [← HA3.out, hg]))
            have HD5 := Lib.hid (show 0 ≤ d - 1 ∧ d - 1 ≤ (q + 1 : Nat) ∧ (q + 1 = 0 ∨ 1 ≤ d - 1) by omega)
            have z1 : (d - 1 == 0) = false := by simp; omega
            clear h1 h2 hs hpu hg hq1 hz
            cases pb
            all_goals
              go_wp2_with (first | (go_at_call 42; refine (open_any _ _).mono ?_; rintro e w' ⟨rfl, rfl⟩) | (go_at_call 43; refine (shut_any _ _).mono ?_; rintro e w' ⟨rfl, rfl⟩) | (go_at_call 62; refine (HPU.out _).mono ?_; rintro e w' ⟨rfl, rfl⟩))
              go_roundw
              case rel => exact ⟨p + 1, q + 1, _, _, by rw [HPQ.out, Nat.add_assoc], by omega, HD5.out.1, HD5.out.2.1, HD5.out.2.2, rfl, rfl, by go_num, HG5.out, by first | exact HX3.out.alloc.alloc.alloc | exact HX3.out.alloc.alloc⟩
              case measure => simp [intOf]; omega
        · have e2 : (u.cat == 2) = false := by simp [h2]
          have hs : stepD d u = d := by simp [stepD, h1, h2]
          obtain ⟨pu, hpu⟩ : ∃ pu, isPar u = pu := ⟨_, rfl⟩
          have HPU := Lib.hid (show ∀ w, Calls Try.prog 62 #[.agg #[.int .i64 u.cat, .int .u8 u.chr.toNat, .string u.name]] w fun e w' => e = .returned (.bool pu) ∧ w.alloc u.box = w' from fun w => hpu ▸ parR_any u w)
          have hg := HGR.out
          rw [hs, hpu, if_neg (by omega)] at hg
          have HG5 := Lib.hid (grp_step (X := grp d (pb || pu) (L.drop (p + 1))) (q := q) (G := G) (by rw [← HA3.out, hg]))
          have HD5 := Lib.hid (show 0 ≤ d ∧ d ≤ (q + 1 : Nat) ∧ (q + 1 = 0 ∨ 1 ≤ d) by omega)
          have z1 : (d == 0) = false := by simp; omega
          clear h1 h2 hs hpu hg hq1
          cases pb
          all_goals
            go_wp2_with (first | (go_at_call 42; refine (open_any _ _).mono ?_; rintro e w' ⟨rfl, rfl⟩) | (go_at_call 43; refine (shut_any _ _).mono ?_; rintro e w' ⟨rfl, rfl⟩) | (go_at_call 62; refine (HPU.out _).mono ?_; rintro e w' ⟨rfl, rfl⟩))
            go_roundw
            case rel => exact ⟨p + 1, q + 1, _, _, by rw [HPQ.out, Nat.add_assoc], by omega, HD5.out.1, HD5.out.2.1, HD5.out.2.2, rfl, rfl, by go_num, HG5.out, by first | exact HX3.out.alloc.alloc.alloc | exact HX3.out.alloc.alloc⟩
            case measure => simp [intOf]; omega
    · have e0 : L.drop p = [] := List.drop_of_length_le (by rw [HN.out]; omega)
      have e1 := HA3.out
      rw [e0] at e1
      have HGN := Lib.hid (show G = none by rw [← e1]; rfl)
      clear e0 e1
      obtain rfl : p = n := by omega
      go_wp2
      go_ret2
      exact ⟨by rw [HGN.out]; rfl, HX3.out⟩

end Go.Proofs.Ytlbebcioabfbgaa
