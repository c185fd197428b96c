/-
  The reference's made. Conditions: those that each theorem names.
-/
import Derived.Test.YtkfobimigiaknaaDoorCodRD
namespace Go.Proofs.YtkfobimigiaknaaDoor
open Go.RowKit Go.Sp
variable {W w w' : World} {F F' : HProp}

/-- what is behind the first m bytes -/
theorem rowM_tail {g cap n m : Nat} {l : List UInt8} (h : Sat W (rowM (.slice (some ⟨g, 0, none⟩) n cap) l * F) w) (hm : m ≤ l.length) (hl : l.length ≤ 1000000) (o c' : Nat) (ho : l.length = m ∨ o = m) :
    Rd w (.slice (some ⟨g, o, none⟩) (l.length - m) c') (l.length - m) 1 (bytesB (l.drop m)) := by
  obtain ⟨a', cap', e1, _, _, e2⟩ := h.rowM_val
  simp only [Value.slice.injEq] at e1
  refine ⟨by simp [bytesB], by simp [maxLen]; omega, _, _, rfl, fun j u hu => ⟨g, o, rfl, ?_⟩⟩
  have hj : j < l.length - m := by
    have := (List.getElem?_eq_some_iff.1 hu).1
    simpa [bytesB] using this
  rcases ho with ho | rfl
  · omega
  · obtain ⟨g', e3, e4, _, _⟩ := e2 (o + j) (by omega)
    rw [← e1.1] at e3
    cases e3
    have hu2 : u = .int .u8 (l[o + j]'(by omega)).toNat := by
      simp only [bytesB, List.getElem?_map, List.getElem?_drop] at hu
      rw [List.getElem?_eq_getElem (by omega)] at hu
      simpa using hu.symm
    rw [hu2]
    exact e4

theorem rowM_at {g cap n : Nat} {l : List UInt8} (h : Sat W (rowM (.slice (some ⟨g, 0, none⟩) n cap) l * F) w) (j : Nat) (hj : j < l.length) : w.cell? ⟨g, j, none⟩ = some (.int .u8 l[j].toNat) := by
  obtain ⟨a', cap', h1, _, _, h4⟩ := h.rowM_val
  simp only [Value.slice.injEq] at h1
  obtain ⟨g', e1, e2, -, -⟩ := h4 j hj
  rw [← h1.1] at e1
  cases e1
  exact e2

theorem tailRd {g cap n m : Nat} {l l' : List UInt8} {ob : Obj} (h : Sat W (rowM (.slice (some ⟨g, 0, none⟩) n cap) l * F) w) (hn : l.length = n) (hc : n ≤ cap) (hd : l.drop m = l') (hm : m ≤ n) (h6 : n ≤ 1000000) :
    ∃ o c', (cap = m → o = 0 ∧ c' = 0) ∧ (¬ cap = m → o = m ∧ c' = cap - m) ∧ Rd (w.alloc ob) (.slice (some ⟨g, o, none⟩) (n - m) c') (n - m) 1 (bytesB l') := by
  subst hn hd
  by_cases hk : cap = m
  · exact ⟨0, 0, fun _ => ⟨rfl, rfl⟩, fun h => absurd hk h, rowM_tail h.allocD hm h6 _ _ (.inl (by omega))⟩
  · exact ⟨m, cap - m, fun h => absurd h hk, fun _ => ⟨rfl, rfl⟩, rowM_tail h.allocD hm h6 _ _ (.inr rfl)⟩

theorem hexI_yes {c : UInt8} (h : hexB c = true) : hexI c = (hexN c : Int) := by rw [hexI, if_pos h]
theorem hexI_no {c : UInt8} (h : hexB c = false) : hexI c = -1 := by rw [hexI, h]; rfl

theorem xor_low : ∀ n : Nat, n < 64 → ((UInt8.ofNat n) ^^^ 64).toNat = n + 64 := by decide +kernel
theorem xor_high : ∀ n : Nat, n < 64 → ((UInt8.ofNat (n + 64)) ^^^ 64).toNat = n := by decide +kernel
theorem xor_lo (c : UInt8) (h : c.toNat < 64) : (c ^^^ 64).toNat = c.toNat + 64 := by
  have := xor_low c.toNat h
  simpa using this
theorem xor_hi (c : UInt8) (h : 64 ≤ c.toNat) (h2 : c.toNat < 128) : (c ^^^ 64).toNat = c.toNat - 64 := by
  have := xor_high (c.toNat - 64) (by omega)
  rw [Nat.sub_add_cancel h] at this
  simpa using this

def MadePost (W : World) (F : HProp) (l : List UInt8) (e : Ending) (w' : World) : Prop := ∃ v', e = .returned v' ∧ Sat W (rowM v' l * F) w'


theorem hexR_yes (c : UInt8) (h : hexB c = true) (w : World) : Calls Tryd.prog 39 #[.int .u8 c.toNat] w fun e w' => e = .returned (.int .i64 (hexN c)) ∧ w = w' := by
  have := hexR_any c w
  rwa [hexI_yes h] at this
theorem hexR_no (c : UInt8) (h : hexB c = false) (w : World) : Calls Tryd.prog 39 #[.int .u8 c.toNat] w fun e w' => e = .returned (.int .i64 (-1)) ∧ w = w' := by
  have := hexR_any c w
  rwa [hexI_no h] at this



set_option maxRecDepth 100000 in
set_option maxHeartbeats 8000000 in
theorem madeR_any (C : List Int) (hC : C.length = 256) {l0 : List UInt8} {v : Value} (hl0 : l0.length ≤ 1000000) (h : Sat W (rowM v l0 * F) w) :
    Calls Tryd.prog 33 #[v, codesV C] w (MadePost W F (made C l0)) := by
  obtain ⟨i0, hi, hz0, hz1, hz2⟩ := info_parts3B info_u8B
  have HI := Lib.hid hi
  have HZ0 := Lib.hid hz0
  have HZ1 := Lib.hid hz1
  have HZ2 := Lib.hid hz2
  clear hi hz0 hz1 hz2
  obtain ⟨a0, cap0, rfl, hcap0, -, -⟩ := h.rowM_val
  have H0 := Lib.hid (h.alloc (codesO C 22))
  have HC := Lib.hid hC
  clear h hC
  go_enter Tryd.func33, Tryd.ntmps33
  go_wp2
  go_loopw [0] (fun s0 wr => ∃ l a n cap, s0 = .slice a n cap ∧ l.length = n ∧ n ≤ cap ∧ n ≤ 1000000 ∧ made C l = made C l0 ∧ Sat W (rowM (.slice a n cap) l * (pts w.heap.size (codesO C 22) * F)) wr) (fun s0 _ => match s0 with | .slice _ n _ => n | _ => 0)
  case atStart => exact ⟨l0, a0, l0.length, cap0, rfl, rfl, hcap0, hl0, rfl, H0.out.rot⟩
  case round =>
    obtain ⟨l, av, n, cv, rfl, hn, hcv, hn6, hl, hs⟩ := hrel
    have HS := Lib.hid hs
    have HL := Lib.hid hl
    obtain ⟨a', c', hav, -, -, hcell⟩ := hs.rowM_val
    simp only [Value.slice.injEq] at hav
    obtain ⟨rfl, -, rfl⟩ := hav
    have HCL := Lib.hid hcell
    clear hs hl hcell
    have HN := Lib.hid hn
    by_cases h3 : n < 3
    · have E1 := Lib.hid (step1_short C (l := l) (by omega))
      have q1 : decide ((2 : Int) < (n : Int)) = false := by simp; omega
      have q2 : ¬ (2 : Int) < (n : Int) := by omega
      clear hn h3
      go_wp2
      go_quiet (fail)
      go_wp2
      go_ret
      exact ⟨_, rfl, by rw [← HL.out, made_none C E1.out]; exact (HS.out.drewN.of_eq (show _ = pts w.heap.size (codesO C 22) * (rowM _ _ * F) by ac_rfl)).r⟩
    · obtain ⟨c, d, e, r, rfl⟩ : ∃ c d e r, l = c :: d :: e :: r := by
        match l, hn with
        | [], hn => simp at hn; omega
        | [_], hn => simp at hn; omega
        | [_, _], hn => simp at hn; omega
        | c :: d :: e :: r, _ => exact ⟨c, d, e, r, rfl⟩
      obtain ⟨g, rfl, k0, -, -⟩ := HCL.out 0 (by simp)
      obtain ⟨g1, hg1, k1, -, -⟩ := HCL.out 1 (by simp)
      obtain ⟨g2, hg2, k2, -, -⟩ := HCL.out 2 (by simp)
      cases hg1
      cases hg2
      simp only [List.getElem_cons_zero, List.getElem_cons_succ] at k0 k1 k2
      have q1 : (2 : Int) < (n : Int) := by omega
      have q1' : decide ((2 : Int) < (n : Int)) = true := by simp; omega
      have q3 : (1 : Int) < (n : Int) := by omega
      have q4 : (0 : Int) < (n : Int) := by omega
      have j1 : 2 < n := by omega
      have j2 : 1 < n := by omega
      have j3 : 0 < n := by omega
      have lc : (c.toNat : Int) < 256 := by have := c.toNat_lt; omega
      have hcc := codes_cell HS.out.r HC.out c
      have lbc := HS.out.r.lt
      clear hn h3
      by_cases h7 : codeAt C c = 7
      · have q7 : (codeAt C c == 7) = true := by simp [h7]
        have H7 := Lib.hid h7
        clear h7
        by_cases hdc : d = c
        · by_cases he8 : e.toNat < 128
          · subst hdc
            have i8 : (e.toNat : Int) < 128 := by omega
            clear q1'
            go_upto_region 1 with fail
            go_cut [32] from 7 to 33 (fun s32 wx => s32 = .bool true ∧ Sat W (rowM (.slice (some ⟨g, 0, none⟩) n cv) (d :: d :: e :: r) * (pts w.heap.size (codesO C 22) * F)) wx)
            case first => as_aux_lemma =>
              go_quiet (fail)
              go_wp2_with fail
              go_meet
              exact ⟨rfl, HS.out.drewN⟩
            case rest => as_aux_lemma =>
              obtain ⟨rfl, h2⟩ := hcut
              have H2 := Lib.hid h2
              clear k0 k1 k2 hcc lbc
              have k2 := rowM_at h2 2 (by simp)
              simp only [List.getElem_cons_zero, List.getElem_cons_succ] at k2
              by_cases hr0 : r = []
              · have hn3 : n = 3 := by have := HN.out; rw [hr0] at this; simpa using this.symm
                have i3 : ¬ (3 : Int) < (n : Int) := by omega
                have HHS := Lib.hid (show hexS e r = (e ^^^ 64) :: r by rw [hr0]; rfl)
                clear h2 hr0 hn3
                rcases Nat.lt_or_ge e.toNat 64 with h64 | h64
                · have i9 : ¬ (64 : Int) ≤ (e.toNat : Int) := by omega
                  have HX := Lib.hid (show (((e ^^^ 64 : UInt8).toNat : Nat) : Int) = (e.toNat : Int) + 64 from (by have := xor_lo e h64; omega))
                  have HRd := Lib.hid (tailRd (m := 3) (l' := r) (ob := .cells #[.int .u8 ((e.toNat : Int) + 64)] 5) H2.out HN.out hcv (by first | rfl | (rw [HFS.out]; rfl)) (by omega) hn6)
                  have HA := Lib.hid ((H2.out.alloc (.cells #[.int .u8 ((e.toNat : Int) + 64)] 5)).row_whole 1 (size := 1) (by simp [maxLen]) rfl)
                  go_wp2_with (first | (fail) | (at_builtin; refine wpList_append_rd rfl _ _ 53 rfl i0 _ 1 Tryd.underlying53 HI.out HZ0.out HZ1.out HZ2.out rfl (by decide) rfl HA.out _ (n - 3) (bytesB r) rfl ?_ (bytesB_one _) ?_ ?_ ?_))
                  all_goals try (first | (simp only [maxLen]; omega) | omega)
                  all_goals try (obtain ⟨o, c', k1, k2, hrd⟩ := HRd.out; first | (obtain ⟨rfl, rfl⟩ := k1 (by omega); exact hrd) | (obtain ⟨rfl, rfl⟩ := k2 (by omega); exact hrd))
                  all_goals intro v' w4 h6
                  all_goals
                    have hlr : (r : List UInt8).length = n - 3 := by first | (have := HN.out; simp only [List.length_cons] at this; omega) | (have := HN.out; rw [HFS.out] at this; simp only [List.length_cons] at this; omega)
                    have H6 := Lib.hid (rowB_M (show Sat W (rowB v' ((e ^^^ 64) :: (r)) * _) w4 from rowB_app (acc := [e ^^^ 64]) (l := r) h6 (by simp; omega) (by rw [show bytesB [(e ^^^ 64 : UInt8)] = [.int .u8 (((e ^^^ 64 : UInt8).toNat : Nat) : Int)] from rfl, HX.out]; rfl)))
                    clear h6
                    obtain ⟨av, cw, rfl, hcw, -, -⟩ := H6.out.rowM_val
                    go_wp2_with fail
                    go_roundw
                    case rel => exact ⟨(e ^^^ 64) :: (r), av, _, cw, rfl, rfl, hcw, by simp only [List.length_cons]; omega, by rw [← HL.out, made_some C (step1_yes C H7.out he8), HHS.out], H6.out.rot.r⟩
                    case measure => simp only [List.length_cons]; omega
                · have i9 : (64 : Int) ≤ (e.toNat : Int) := by omega
                  have HX := Lib.hid (show (((e ^^^ 64 : UInt8).toNat : Nat) : Int) = (e.toNat : Int) - 64 from (by have := xor_hi e h64 he8; omega))
                  have HRd := Lib.hid (tailRd (m := 3) (l' := r) (ob := .cells #[.int .u8 ((e.toNat : Int) - 64)] 5) H2.out HN.out hcv (by first | rfl | (rw [HFS.out]; rfl)) (by omega) hn6)
                  have HA := Lib.hid ((H2.out.alloc (.cells #[.int .u8 ((e.toNat : Int) - 64)] 5)).row_whole 1 (size := 1) (by simp [maxLen]) rfl)
                  go_wp2_with (first | (fail) | (at_builtin; refine wpList_append_rd rfl _ _ 53 rfl i0 _ 1 Tryd.underlying53 HI.out HZ0.out HZ1.out HZ2.out rfl (by decide) rfl HA.out _ (n - 3) (bytesB r) rfl ?_ (bytesB_one _) ?_ ?_ ?_))
                  all_goals try (first | (simp only [maxLen]; omega) | omega)
                  all_goals try (obtain ⟨o, c', k1, k2, hrd⟩ := HRd.out; first | (obtain ⟨rfl, rfl⟩ := k1 (by omega); exact hrd) | (obtain ⟨rfl, rfl⟩ := k2 (by omega); exact hrd))
                  all_goals intro v' w4 h6
                  all_goals
                    have hlr : (r : List UInt8).length = n - 3 := by first | (have := HN.out; simp only [List.length_cons] at this; omega) | (have := HN.out; rw [HFS.out] at this; simp only [List.length_cons] at this; omega)
                    have H6 := Lib.hid (rowB_M (show Sat W (rowB v' ((e ^^^ 64) :: (r)) * _) w4 from rowB_app (acc := [e ^^^ 64]) (l := r) h6 (by simp; omega) (by rw [show bytesB [(e ^^^ 64 : UInt8)] = [.int .u8 (((e ^^^ 64 : UInt8).toNat : Nat) : Int)] from rfl, HX.out]; rfl)))
                    clear h6
                    obtain ⟨av, cw, rfl, hcw, -, -⟩ := H6.out.rowM_val
                    go_wp2_with fail
                    go_roundw
                    case rel => exact ⟨(e ^^^ 64) :: (r), av, _, cw, rfl, rfl, hcw, by simp only [List.length_cons]; omega, by rw [← HL.out, made_some C (step1_yes C H7.out he8), HHS.out], H6.out.rot.r⟩
                    case measure => simp only [List.length_cons]; omega
              · obtain ⟨f, s, hfs⟩ : ∃ f s, r = f :: s := by
                  cases r with
                  | nil => exact absurd rfl hr0
                  | cons f s => exact ⟨f, s, rfl⟩
                have i3 : (3 : Int) < (n : Int) := by have := HN.out; rw [hfs] at this; simp at this; omega
                have i3' : 3 < n := by omega
                have k3 := rowM_at (H2.out.of_eq (show _ = rowM (.slice (some ⟨g, 0, none⟩) n cv) (d :: d :: e :: f :: s) * (pts w.heap.size (codesO C 22) * F) by rw [hfs])) 3 (by simp)
                simp only [List.getElem_cons_zero, List.getElem_cons_succ] at k3
                have HFS := Lib.hid hfs
                clear h2 hr0 hfs
                by_cases hbe : hexB e = true
                · by_cases hbf : hexB f = true
                  · have hx15 := hexN_le e
                    have hy15 := hexN_le f
                    have HE1 := Lib.hid (hexR_yes e hbe)
                    have HE2 := Lib.hid (hexR_yes f hbf)
                    have HHS := Lib.hid (show hexS e r = UInt8.ofNat (16 * hexN e + hexN f) :: s by rw [HFS.out]; exact hexS_yes hbe hbf)
                    clear hbe hbf
                    generalize hexN e = x at *
                    generalize hexN f = y at *
                    go_upto_region 3 with (go_at_call 39; (first | (with_reducible refine Calls.mono (HE1.out _) ?_) | (with_reducible refine Calls.mono (HE2.out _) ?_)); rintro e' w' ⟨rfl, rfl⟩)
                    go_cut [5] from 50 to 61 (fun s5 wx => s5 = .int .u8 (16 * (x : Int) + (y : Int)) ∧ Sat W (rowM (.slice (some ⟨g, 0, none⟩) n cv) (d :: d :: e :: r) * (pts w.heap.size (codesO C 22) * F)) wx)
                    case first => as_aux_lemma =>
                      have hw1 : IntKind.i64.wrap (16 * (x : Int)) = 16 * (x : Int) := IntWalk.i64_in _ (by omega)
                      have hw2 : IntKind.i64.wrap (16 * (x : Int) + (y : Int)) = 16 * (x : Int) + (y : Int) := IntWalk.i64_in _ (by omega)
                      have hw3 : IntKind.u8.wrap (16 * (x : Int) + (y : Int)) = 16 * (x : Int) + (y : Int) := IntWalk.u8_in _ (by omega)
                      go_quiet ((go_at_call 39; (first | (with_reducible refine Calls.mono (HE1.out _) ?_) | (with_reducible refine Calls.mono (HE2.out _) ?_)); exact fun _ _ h => ⟨h.1, _, h.2.symm⟩))
                      go_wp2_with fail
                      go_meet
                      exact ⟨rfl, H2.out.drewN⟩
                    case rest => as_aux_lemma =>
                      obtain ⟨rfl, h3⟩ := hcut
                      clear H2 k2 k3
                      have H2 := Lib.hid h3
                      clear h3
                      have HX := Lib.hid (show (((UInt8.ofNat (16 * x + y) : UInt8).toNat : Nat) : Int) = 16 * (x : Int) + (y : Int) from (by simp [UInt8.toNat_ofNat']; omega))
                      have HRd := Lib.hid (tailRd (m := 4) (l' := s) (ob := .cells #[.int .u8 (16 * (x : Int) + (y : Int))] 5) H2.out HN.out hcv (by first | rfl | (rw [HFS.out]; rfl)) (by omega) hn6)
                      have HA := Lib.hid ((H2.out.alloc (.cells #[.int .u8 (16 * (x : Int) + (y : Int))] 5)).row_whole 1 (size := 1) (by simp [maxLen]) rfl)
                      go_wp2_with (first | (fail) | (at_builtin; refine wpList_append_rd rfl _ _ 53 rfl i0 _ 1 Tryd.underlying53 HI.out HZ0.out HZ1.out HZ2.out rfl (by decide) rfl HA.out _ (n - 4) (bytesB s) rfl ?_ (bytesB_one _) ?_ ?_ ?_))
                      all_goals try (first | (simp only [maxLen]; omega) | omega)
                      all_goals try (obtain ⟨o, c', k1, k2, hrd⟩ := HRd.out; first | (obtain ⟨rfl, rfl⟩ := k1 (by omega); exact hrd) | (obtain ⟨rfl, rfl⟩ := k2 (by omega); exact hrd))
                      all_goals intro v' w4 h6
                      all_goals
                        have hlr : (s : List UInt8).length = n - 4 := by first | (have := HN.out; simp only [List.length_cons] at this; omega) | (have := HN.out; rw [HFS.out] at this; simp only [List.length_cons] at this; omega)
                        have H6 := Lib.hid (rowB_M (show Sat W (rowB v' ((UInt8.ofNat (16 * x + y)) :: (s)) * _) w4 from rowB_app (acc := [UInt8.ofNat (16 * x + y)]) (l := s) h6 (by simp; omega) (by rw [show bytesB [(UInt8.ofNat (16 * x + y) : UInt8)] = [.int .u8 (((UInt8.ofNat (16 * x + y) : UInt8).toNat : Nat) : Int)] from rfl, HX.out]; rfl)))
                        clear h6
                        obtain ⟨av, cw, rfl, hcw, -, -⟩ := H6.out.rowM_val
                        go_wp2_with fail
                        go_roundw
                        case rel => exact ⟨(UInt8.ofNat (16 * x + y)) :: (s), av, _, cw, rfl, rfl, hcw, by simp only [List.length_cons]; omega, by rw [← HL.out, made_some C (step1_yes C H7.out he8), HHS.out], H6.out.rot.r⟩
                        case measure => simp only [List.length_cons]; omega
                  · have hbf' : hexB f = false := by simpa using hbf
                    have HHS := Lib.hid (show hexS e r = (e ^^^ 64) :: r by rw [HFS.out]; exact hexS_no2 hbf')
                    have HE1 := Lib.hid (hexR_yes e hbe)
                    have HE2 := Lib.hid (hexR_no f hbf')
                    clear hbe hbf hbf'
                    generalize hexN e = x at *
                    rcases Nat.lt_or_ge e.toNat 64 with h64 | h64
                    · have i9 : ¬ (64 : Int) ≤ (e.toNat : Int) := by omega
                      have HX := Lib.hid (show (((e ^^^ 64 : UInt8).toNat : Nat) : Int) = (e.toNat : Int) + 64 from (by have := xor_lo e h64; omega))
                      have HRd := Lib.hid (tailRd (m := 3) (l' := r) (ob := .cells #[.int .u8 ((e.toNat : Int) + 64)] 5) H2.out HN.out hcv (by first | rfl | (rw [HFS.out]; rfl)) (by omega) hn6)
                      have HA := Lib.hid ((H2.out.alloc (.cells #[.int .u8 ((e.toNat : Int) + 64)] 5)).row_whole 1 (size := 1) (by simp [maxLen]) rfl)
                      go_wp2_with (first | (go_at_call 39; (try (with_reducible refine Calls.mono (HE1.out _) ?_)); (try (with_reducible refine Calls.mono (HE2.out _) ?_)); rintro e' w' ⟨rfl, rfl⟩) | (at_builtin; refine wpList_append_rd rfl _ _ 53 rfl i0 _ 1 Tryd.underlying53 HI.out HZ0.out HZ1.out HZ2.out rfl (by decide) rfl HA.out _ (n - 3) (bytesB r) rfl ?_ (bytesB_one _) ?_ ?_ ?_))
                      all_goals try (first | (simp only [maxLen]; omega) | omega)
                      all_goals try (obtain ⟨o, c', k1, k2, hrd⟩ := HRd.out; first | (obtain ⟨rfl, rfl⟩ := k1 (by omega); exact hrd) | (obtain ⟨rfl, rfl⟩ := k2 (by omega); exact hrd))
                      all_goals intro v' w4 h6
                      all_goals
                        have hlr : (r : List UInt8).length = n - 3 := by first | (have := HN.out; simp only [List.length_cons] at this; omega) | (have := HN.out; rw [HFS.out] at this; simp only [List.length_cons] at this; omega)
                        have H6 := Lib.hid (rowB_M (show Sat W (rowB v' ((e ^^^ 64) :: (r)) * _) w4 from rowB_app (acc := [e ^^^ 64]) (l := r) h6 (by simp; omega) (by rw [show bytesB [(e ^^^ 64 : UInt8)] = [.int .u8 (((e ^^^ 64 : UInt8).toNat : Nat) : Int)] from rfl, HX.out]; rfl)))
                        clear h6
                        obtain ⟨av, cw, rfl, hcw, -, -⟩ := H6.out.rowM_val
                        go_wp2_with fail
                        go_roundw
                        case rel => exact ⟨(e ^^^ 64) :: (r), av, _, cw, rfl, rfl, hcw, by simp only [List.length_cons]; omega, by rw [← HL.out, made_some C (step1_yes C H7.out he8), HHS.out], H6.out.rot.r⟩
                        case measure => simp only [List.length_cons]; omega
                    · have i9 : (64 : Int) ≤ (e.toNat : Int) := by omega
                      have HX := Lib.hid (show (((e ^^^ 64 : UInt8).toNat : Nat) : Int) = (e.toNat : Int) - 64 from (by have := xor_hi e h64 he8; omega))
                      have HRd := Lib.hid (tailRd (m := 3) (l' := r) (ob := .cells #[.int .u8 ((e.toNat : Int) - 64)] 5) H2.out HN.out hcv (by first | rfl | (rw [HFS.out]; rfl)) (by omega) hn6)
                      have HA := Lib.hid ((H2.out.alloc (.cells #[.int .u8 ((e.toNat : Int) - 64)] 5)).row_whole 1 (size := 1) (by simp [maxLen]) rfl)
                      go_wp2_with (first | (go_at_call 39; (try (with_reducible refine Calls.mono (HE1.out _) ?_)); (try (with_reducible refine Calls.mono (HE2.out _) ?_)); rintro e' w' ⟨rfl, rfl⟩) | (at_builtin; refine wpList_append_rd rfl _ _ 53 rfl i0 _ 1 Tryd.underlying53 HI.out HZ0.out HZ1.out HZ2.out rfl (by decide) rfl HA.out _ (n - 3) (bytesB r) rfl ?_ (bytesB_one _) ?_ ?_ ?_))
                      all_goals try (first | (simp only [maxLen]; omega) | omega)
                      all_goals try (obtain ⟨o, c', k1, k2, hrd⟩ := HRd.out; first | (obtain ⟨rfl, rfl⟩ := k1 (by omega); exact hrd) | (obtain ⟨rfl, rfl⟩ := k2 (by omega); exact hrd))
                      all_goals intro v' w4 h6
                      all_goals
                        have hlr : (r : List UInt8).length = n - 3 := by first | (have := HN.out; simp only [List.length_cons] at this; omega) | (have := HN.out; rw [HFS.out] at this; simp only [List.length_cons] at this; omega)
                        have H6 := Lib.hid (rowB_M (show Sat W (rowB v' ((e ^^^ 64) :: (r)) * _) w4 from rowB_app (acc := [e ^^^ 64]) (l := r) h6 (by simp; omega) (by rw [show bytesB [(e ^^^ 64 : UInt8)] = [.int .u8 (((e ^^^ 64 : UInt8).toNat : Nat) : Int)] from rfl, HX.out]; rfl)))
                        clear h6
                        obtain ⟨av, cw, rfl, hcw, -, -⟩ := H6.out.rowM_val
                        go_wp2_with fail
                        go_roundw
                        case rel => exact ⟨(e ^^^ 64) :: (r), av, _, cw, rfl, rfl, hcw, by simp only [List.length_cons]; omega, by rw [← HL.out, made_some C (step1_yes C H7.out he8), HHS.out], H6.out.rot.r⟩
                        case measure => simp only [List.length_cons]; omega
                · have hbe' : hexB e = false := by simpa using hbe
                  have HHS := Lib.hid (show hexS e r = (e ^^^ 64) :: r from hexS_no hbe')
                  have HE1 := Lib.hid (hexR_no e hbe')
                  clear hbe hbe'
                  rcases Nat.lt_or_ge e.toNat 64 with h64 | h64
                  · have i9 : ¬ (64 : Int) ≤ (e.toNat : Int) := by omega
                    have HX := Lib.hid (show (((e ^^^ 64 : UInt8).toNat : Nat) : Int) = (e.toNat : Int) + 64 from (by have := xor_lo e h64; omega))
                    have HRd := Lib.hid (tailRd (m := 3) (l' := r) (ob := .cells #[.int .u8 ((e.toNat : Int) + 64)] 5) H2.out HN.out hcv (by first | rfl | (rw [HFS.out]; rfl)) (by omega) hn6)
                    have HA := Lib.hid ((H2.out.alloc (.cells #[.int .u8 ((e.toNat : Int) + 64)] 5)).row_whole 1 (size := 1) (by simp [maxLen]) rfl)
                    go_wp2_with (first | ((go_at_call 39; with_reducible refine Calls.mono (HE1.out _) ?_; rintro e' w' ⟨rfl, rfl⟩)) | (at_builtin; refine wpList_append_rd rfl _ _ 53 rfl i0 _ 1 Tryd.underlying53 HI.out HZ0.out HZ1.out HZ2.out rfl (by decide) rfl HA.out _ (n - 3) (bytesB r) rfl ?_ (bytesB_one _) ?_ ?_ ?_))
                    all_goals try (first | (simp only [maxLen]; omega) | omega)
                    all_goals try (obtain ⟨o, c', k1, k2, hrd⟩ := HRd.out; first | (obtain ⟨rfl, rfl⟩ := k1 (by omega); exact hrd) | (obtain ⟨rfl, rfl⟩ := k2 (by omega); exact hrd))
                    all_goals intro v' w4 h6
                    all_goals
                      have hlr : (r : List UInt8).length = n - 3 := by first | (have := HN.out; simp only [List.length_cons] at this; omega) | (have := HN.out; rw [HFS.out] at this; simp only [List.length_cons] at this; omega)
                      have H6 := Lib.hid (rowB_M (show Sat W (rowB v' ((e ^^^ 64) :: (r)) * _) w4 from rowB_app (acc := [e ^^^ 64]) (l := r) h6 (by simp; omega) (by rw [show bytesB [(e ^^^ 64 : UInt8)] = [.int .u8 (((e ^^^ 64 : UInt8).toNat : Nat) : Int)] from rfl, HX.out]; rfl)))
                      clear h6
                      obtain ⟨av, cw, rfl, hcw, -, -⟩ := H6.out.rowM_val
                      go_wp2_with fail
                      go_roundw
                      case rel => exact ⟨(e ^^^ 64) :: (r), av, _, cw, rfl, rfl, hcw, by simp only [List.length_cons]; omega, by rw [← HL.out, made_some C (step1_yes C H7.out he8), HHS.out], H6.out.rot.r⟩
                      case measure => simp only [List.length_cons]; omega
                  · have i9 : (64 : Int) ≤ (e.toNat : Int) := by omega
                    have HX := Lib.hid (show (((e ^^^ 64 : UInt8).toNat : Nat) : Int) = (e.toNat : Int) - 64 from (by have := xor_hi e h64 he8; omega))
                    have HRd := Lib.hid (tailRd (m := 3) (l' := r) (ob := .cells #[.int .u8 ((e.toNat : Int) - 64)] 5) H2.out HN.out hcv (by first | rfl | (rw [HFS.out]; rfl)) (by omega) hn6)
                    have HA := Lib.hid ((H2.out.alloc (.cells #[.int .u8 ((e.toNat : Int) - 64)] 5)).row_whole 1 (size := 1) (by simp [maxLen]) rfl)
                    go_wp2_with (first | ((go_at_call 39; with_reducible refine Calls.mono (HE1.out _) ?_; rintro e' w' ⟨rfl, rfl⟩)) | (at_builtin; refine wpList_append_rd rfl _ _ 53 rfl i0 _ 1 Tryd.underlying53 HI.out HZ0.out HZ1.out HZ2.out rfl (by decide) rfl HA.out _ (n - 3) (bytesB r) rfl ?_ (bytesB_one _) ?_ ?_ ?_))
                    all_goals try (first | (simp only [maxLen]; omega) | omega)
                    all_goals try (obtain ⟨o, c', k1, k2, hrd⟩ := HRd.out; first | (obtain ⟨rfl, rfl⟩ := k1 (by omega); exact hrd) | (obtain ⟨rfl, rfl⟩ := k2 (by omega); exact hrd))
                    all_goals intro v' w4 h6
                    all_goals
                      have hlr : (r : List UInt8).length = n - 3 := by first | (have := HN.out; simp only [List.length_cons] at this; omega) | (have := HN.out; rw [HFS.out] at this; simp only [List.length_cons] at this; omega)
                      have H6 := Lib.hid (rowB_M (show Sat W (rowB v' ((e ^^^ 64) :: (r)) * _) w4 from rowB_app (acc := [e ^^^ 64]) (l := r) h6 (by simp; omega) (by rw [show bytesB [(e ^^^ 64 : UInt8)] = [.int .u8 (((e ^^^ 64 : UInt8).toNat : Nat) : Int)] from rfl, HX.out]; rfl)))
                      clear h6
                      obtain ⟨av, cw, rfl, hcw, -, -⟩ := H6.out.rowM_val
                      go_wp2_with fail
                      go_roundw
                      case rel => exact ⟨(e ^^^ 64) :: (r), av, _, cw, rfl, rfl, hcw, by simp only [List.length_cons]; omega, by rw [← HL.out, made_some C (step1_yes C H7.out he8), HHS.out], H6.out.rot.r⟩
                      case measure => simp only [List.length_cons]; omega
          · have i8 : ¬ (e.toNat : Int) < 128 := by omega
            have hq : ((d.toNat : Int) == (c.toNat : Int)) = true := by simp [hdc]
            have E1 := Lib.hid (step1_other C (c := c) (d := d) (e := e) (r := r) (.inr (by omega)))
            clear hdc he8
            go_wp2
            go_quiet (fail)
            go_wp2
            go_ret
            exact ⟨_, rfl, by rw [← HL.out, made_none C E1.out]; exact (HS.out.drewN.of_eq (show _ = pts w.heap.size (codesO C 22) * (rowM _ _ * F) by ac_rfl)).r⟩
        · have E1 := Lib.hid (step1_other C (c := c) (d := d) (e := e) (r := r) (.inl hdc))
          have q5 : ((d.toNat : Int) == (c.toNat : Int)) = false := by
            rw [beq_eq_false_iff_ne]
            intro h
            exact hdc (UInt8.toNat_inj.1 (by exact_mod_cast h))
          clear hdc
          go_wp2
          go_quiet (fail)
          go_wp2
          go_ret
          exact ⟨_, rfl, by rw [← HL.out, made_none C E1.out]; exact (HS.out.drewN.of_eq (show _ = pts w.heap.size (codesO C 22) * (rowM _ _ * F) by ac_rfl)).r⟩
      · have E1 := Lib.hid (step1_code C (c := c) (r := d :: e :: r) h7)
        have q7 : (codeAt C c == 7) = false := by simp [h7]
        clear h7
        go_wp2
        go_quiet (fail)
        go_wp2
        go_ret
        exact ⟨_, rfl, by rw [← HL.out, made_none C E1.out]; exact (HS.out.drewN.of_eq (show _ = pts w.heap.size (codesO C 22) * (rowM _ _ * F) by ac_rfl)).r⟩
end Go.Proofs.YtkfobimigiaknaaDoor
