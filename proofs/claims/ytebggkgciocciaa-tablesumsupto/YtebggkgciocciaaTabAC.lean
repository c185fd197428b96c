
/-
  The law of sums and products in registers. Conditions: those that each theorem names.
-/
import Derived.Test.YtebggkgciocciaaTabAB
namespace Go.Proofs.Ytebggkgciocciaa
open Go.RowKit Go.Sp
variable {W w w' : World} {F A : HProp}

theorem idxS (i : Int) : ∃ k : Nat, k < 256 ∧ (wrap64 (i.tmod 256 + 256)).tmod 256 = (k : Int) := by
  have h1 : i.tmod 256 < 256 := Int.tmod_lt_of_pos i (by decide)
  have h2 : -256 < i.tmod 256 := Int.lt_tmod_of_pos i (by decide)
  rw [IntWalk.wrap64_in _ (by omega), Int.tmod_eq_emod_of_nonneg (by omega)]
  exact ⟨((i.tmod 256 + 256) % 256).toNat, by omega, by omega⟩

theorem setE_right {c i : Nat} {v : RegS} (h : setE c i v = 0) : rightM (c : Int) v = true := by
  rw [setE] at h
  split at h
  · rename_i h1; exact absurd h h1
  · split at h
    · assumption
    · cases h
theorem setT_regs {S : TabS} {c i : Nat} {v : RegS} {g : Bool} (h : setE c i v = 0) : (setT S c i v g).regs = setS S.regs (c * 256 + i) v := by
  rw [setT, if_pos h, putS_regs, Int.toNat_natCast, Int.toNat_natCast]


set_option maxRecDepth 100000 in
set_option maxHeartbeats 8000000 in
theorem sums_law (i a b n : Int) (W : World) : Calls Try.prog 4 #[.int .i64 i, .int .i64 a, .int .i64 b, .int .i64 n] W fun e w' => e = .returned (.bool true) ∧ Ext W w' := by
  have HNEW := Lib.hid (new_any (Sat.start W))
  obtain ⟨k, hk, hik⟩ := idxS i
  have hrd : ∀ w', Sat W (own W) w' → RdT w' (.slice none 0 0) [] := fun w' _ => RdT.empty w' none 0
  have KSET := Lib.hid (show ∀ (c : Int) S p w, TabAt W (own W) p 0 S w → Calls Try.prog 15 #[.pointer (some ⟨p, 0, none⟩), .int .i64 c, .int .i64 k, .agg #[.int .i64 a, .int .i64 0, .int .i64 0, .int .i64 0, .int .i64 0, .int .i64 0, .slice none 0 0], .bool false] w fun e w' => e = .returned (.int .i64 (setE c k (kv a))) ∧ TabAt W (own W) p 0 (setT S c k (kv a) false) w' from
    fun c S p w h => set_any c (k : Nat) (v := kv a) (s := .slice none 0 0) false hrd h)
  have KADV := Lib.hid (show ∀ (c x : Int) S p w, TabAt W (own W) p 0 S w → Calls Try.prog 16 #[.pointer (some ⟨p, 0, none⟩), .int .i64 c, .int .i64 k, .agg #[.int .i64 x, .int .i64 0, .int .i64 0, .int .i64 0, .int .i64 0, .int .i64 0, .slice none 0 0], .bool false] w fun e w' => ∃ E S', e = .returned (.int .i64 E) ∧ ArithR S S' c k false E (fun y => wrap64 (y + (kv x).n)) (advOK c k (kv x)) 0 ∧ TabAt W (own W) p 0 S' w' from
    fun c x S p w h => advance_any c (k : Nat) (v := kv x) (s := .slice none 0 0) false hrd h)
  have KMUL := Lib.hid (show ∀ (c : Int) S p w, TabAt W (own W) p 0 S w → _ from fun c S p w h => multiply_any c (k : Int) n false h)
  have KDIV := Lib.hid (show ∀ (c : Int) S p w, TabAt W (own W) p 0 S w → _ from fun c S p w h => divide_any c (k : Int) n false h)
  have KGET := Lib.hid (show ∀ (c : Nat) S p w, TabAt W (own W) p 0 S w → 1 ≤ c ∧ c ≤ 5 → _ from fun c S p w h hc => get_any (c := c) (i := k) hc hk h)
  have KN := Lib.hid (show ∀ S p w, TabAt W (own W) p 0 S w → _ from fun S p w h => knows_tab h)
  have HK := Lib.hid hk
  clear hk hrd
  go_enter Try.func4, Try.ntmps4
  go_wp2_with fail
  refine Calls.mono HNEW.out ?_
  rintro e w1 ⟨p, rfl, h1⟩
  have H1 := Lib.hid h1
  clear h1 HNEW hik
  go_wp2_with fail
  refine Calls.mono (KSET.out 1 _ _ _ H1.out) ?_
  rintro e w2 ⟨rfl, h2⟩
  by_cases e1 : setE 1 (k : Int) (kv a) = 0
  · rw [e1]
    have R1 := Lib.hid (setT_regs (S := newS) (c := 1) (i := k) (v := kv a) (g := false) e1)
    have Q1 := Lib.hid (setE_right (c := 1) (i := k) (v := kv a) e1)
    have H2 := Lib.hid h2
    clear h2 H1 e1
    go_wp2_with (go_at_call 8; with_reducible refine Calls.mono (num_any _ _) ?_; rintro e w' ⟨rfl, rfl⟩)
    refine Calls.mono (KSET.out 2 _ _ _ H2.out) ?_
    rintro e w3 ⟨rfl, h3⟩
    by_cases e2 : setE 2 (k : Int) (kv a) = 0
    · rw [e2]
      have R2 := Lib.hid (setT_regs (S := setT newS 1 k (kv a) false) (c := 2) (i := k) (v := kv a) (g := false) e2)
      have Q2 := Lib.hid (setE_right (c := 2) (i := k) (v := kv a) e2)
      obtain ⟨S2, hS2⟩ : ∃ S2, setT (setT newS 1 k (kv a) false) 2 k (kv a) false = S2 := ⟨_, rfl⟩
      have hreg : ∀ c : Nat, 1 ≤ c → c ≤ 2 → S2.regs (c * 256 + k) = kv a := by
        have r2 := R2.out
        have r1 := R1.out
        rw [← hS2]
        intro c h1 h2
        have : (setT (setT newS 1 k (kv a) false) 2 k (kv a) false).regs = setS (setS newS.regs (1 * 256 + k) (kv a)) (2 * 256 + k) (kv a) := by
          rw [← r1]; exact r2
        rw [this]
        have : c = 1 ∨ c = 2 := by omega
        rcases this with rfl | rfl <;> simp [setS]
      have HREG := Lib.hid hreg
      rw [hS2] at h3
      have H3 := Lib.hid h3
      clear h3 H2 e2 hreg hS2 R1 R2
      go_wp2_with (go_at_call 8; with_reducible refine Calls.mono (num_any _ _) ?_; rintro e w' ⟨rfl, rfl⟩)
      refine Calls.mono (KN.out _ _ _ H3.out) ?_
      rintro e w4 ⟨rfl, h4⟩
      have H4 := Lib.hid h4
      clear h4 H3
      go_wp2_with fail
      go_loopg [10] 2 (fun gg s10 wx => ∃ (c : Nat) (S : TabS), 1 ≤ c ∧ c ≤ 3 ∧ gg = 3 - c ∧ s10 = .int .i64 c ∧ (∀ c' : Nat, c ≤ c' → c' ≤ 2 → S.regs (c' * 256 + k) = kv a) ∧ TabAt W (own W) p 0 S wx)
      case atStart => exact ⟨1, S2, by omega, by omega, rfl, by go_num, HREG.out, H4.out⟩
      case round =>
        obtain ⟨c, S, hc1, hc3, rfl, rfl, hreg, hx⟩ := hrel
        have HX := Lib.hid hx
        have HREG := Lib.hid hreg
        clear hx hreg H4
        by_cases hlt : c ≤ 2
        · have hcc : c = 1 ∨ c = 2 := by omega
          have HCC := Lib.hid hcc
          have i2 : (c : Int) ≤ 2 := by omega
          have HQ := Lib.hid (show rightM (c : Int) (kv a) = true by rcases hcc with rfl | rfl; exact Q1.out; exact Q2.out)
          have HRC := Lib.hid (HREG.out c (by omega) hlt)
          clear hcc
          go_wp2_with fail
          refine Calls.mono (KADV.out c b _ _ _ HX.out) ?_
          rintro e w5 ⟨E, S5, rfl, hA5, h5⟩
          by_cases hE : E = 0
          · subst hE
            have HA5 := Lib.hid hA5
            have H5 := Lib.hid h5
            clear hA5 h5 HX
            go_wp2_with (go_at_call 8; with_reducible refine Calls.mono (num_any _ _) ?_; rintro e w' ⟨rfl, rfl⟩)
            refine Calls.mono (KADV.out c (wrap64 (-b)) _ _ _ H5.out) ?_
            rintro e w6 ⟨E2, S6, rfl, hA6, h6⟩
            obtain ⟨rfl, hr6⟩ := add_back HCC.out HRC.out HQ.out rfl HA5.out hA6
            have HR6 := Lib.hid hr6
            have H6 := Lib.hid h6
            clear hA6 h6 hr6 HA5 H5
            go_wp2_with (go_at_call 8; with_reducible refine Calls.mono (num_any _ _) ?_; rintro e w' ⟨rfl, rfl⟩)
            refine Calls.mono (KMUL.out c _ _ _ H6.out) ?_
            rintro e w7 ⟨G, S7, rfl, hA7, h7⟩
            have HR6a := Lib.hid (show S6.regs (c * 256 + k) = kv a by rw [HR6.out]; exact HRC.out)
            have HR6b := Lib.hid (show ∀ c' : Nat, c + 1 ≤ c' → c' ≤ 2 → S6.regs (c' * 256 + k) = kv a from fun c' h1 h2 => by rw [HR6.out]; exact HREG.out c' (by omega) h2)
            by_cases hG : G = 0
            · subst hG
              by_cases hn : n = 0
              · subst hn
                obtain ⟨-, -, hs7⟩ := mul_plain HCC.out HR6a.out HQ.out rfl hA7
                have HS7 := Lib.hid hs7
                have H7 := Lib.hid h7
                clear hA7 h7 hs7
                have HJ : S7.regs (c * 256 + k) = kv 0 := (by rw [HS7.out]; simp [setS])
                have hget := KGET.out c _ _ _ H7.out (by omega)
                rw [HJ] at hget
                simp only [kv, valA] at hget
                have HGET := Lib.hid hget
                have HKEEP := Lib.hid (show ∀ c' : Nat, c + 1 ≤ c' → c' ≤ 2 → S7.regs (c' * 256 + k) = kv a from (fun c' h1 h2 => by rw [HS7.out, setS, if_neg (by omega)]; exact HR6b.out c' h1 h2))
                clear hget HJ
                go_wp2_with (go_at_call 8; with_reducible refine Calls.mono (num_any _ _) ?_; rintro e w' ⟨rfl, rfl⟩)
                refine Calls.mono HGET.out ?_
                rintro e w9 ⟨u, rfl, h9⟩
                obtain ⟨ua, uc, rfl⟩ := h9.sat.rowT_value
                simp only [List.length_nil]
                have h10 := h9.less.allocX (.cells #[.int .i64 0, .int .i64 0, .int .i64 0, .int .i64 0, .int .i64 0, .int .i64 0, .slice ua 0 uc] 40)
                have d0 := h10.sat.cell (i := 0) rfl
                have ld := h10.sat.lt
                have H10 := Lib.hid h10.less
                clear h9 h10 HGET
                by_cases ha : a = 0
                · subst ha
                  go_wp2_with (go_at_call 8; with_reducible refine Calls.mono (num_any _ _) ?_; rintro e w' ⟨rfl, rfl⟩)
                  go_roundg (3 - (c + 1))
                  case measure => omega
                  case rel => exact ⟨c + 1, _, by omega, by omega, rfl, by go_num, HKEEP.out, H10.out⟩
                · have qa : (0 == a) = false := by rw [beq_eq_false_iff_ne]; exact fun h => ha h.symm
                  have qb : (0 != a) = true := by rw [bne_iff_ne]; exact fun h => ha h.symm
                  go_wp2_with (go_at_call 8; with_reducible refine Calls.mono (num_any _ _) ?_; rintro e w' ⟨rfl, rfl⟩)
                  go_roundg (3 - (c + 1))
                  case measure => omega
                  case rel => exact ⟨c + 1, _, by omega, by omega, rfl, by go_num, HKEEP.out, H10.out⟩
              · have qn : (n == 0) = false := by rw [beq_eq_false_iff_ne]; exact hn
                have qm : (n != 0) = true := by rw [bne_iff_ne]; exact hn
                have H7 := Lib.hid h7
                have HA7 := Lib.hid hA7
                clear hA7 h7
                go_wp2_with (go_at_call 8; with_reducible refine Calls.mono (num_any _ _) ?_; rintro e w' ⟨rfl, rfl⟩)
                refine Calls.mono (KDIV.out c _ _ _ H7.out) ?_
                rintro e w8 ⟨G2, S8, rfl, hA8, h8⟩
                obtain ⟨rfl, hs8⟩ := mul_back HCC.out HR6a.out HQ.out rfl hn HA7.out hA8
                have HS8 := Lib.hid hs8
                have H8 := Lib.hid h8
                clear hA8 h8 hs8 hn
                go_wp2_with (go_at_call 8; with_reducible refine Calls.mono (num_any _ _) ?_; rintro e w' ⟨rfl, rfl⟩)
                have HJ : S8.regs (c * 256 + k) = kv a := (by rw [HS8.out]; exact HR6a.out)
                have hget := KGET.out c _ _ _ H8.out (by omega)
                rw [HJ] at hget
                simp only [kv, valA] at hget
                have HGET := Lib.hid hget
                have HKEEP := Lib.hid (show ∀ c' : Nat, c + 1 ≤ c' → c' ≤ 2 → S8.regs (c' * 256 + k) = kv a from (fun c' h1 h2 => by rw [HS8.out]; exact HR6b.out c' h1 h2))
                clear hget HJ
                go_wp2_with (go_at_call 8; with_reducible refine Calls.mono (num_any _ _) ?_; rintro e w' ⟨rfl, rfl⟩)
                refine Calls.mono HGET.out ?_
                rintro e w9 ⟨u, rfl, h9⟩
                obtain ⟨ua, uc, rfl⟩ := h9.sat.rowT_value
                simp only [List.length_nil]
                have h10 := h9.less.allocX (.cells #[.int .i64 a, .int .i64 0, .int .i64 0, .int .i64 0, .int .i64 0, .int .i64 0, .slice ua 0 uc] 40)
                have d0 := h10.sat.cell (i := 0) rfl
                have ld := h10.sat.lt
                have H10 := Lib.hid h10.less
                clear h9 h10 HGET
                go_wp2_with (go_at_call 8; with_reducible refine Calls.mono (num_any _ _) ?_; rintro e w' ⟨rfl, rfl⟩)
                go_roundg (3 - (c + 1))
                case measure => omega
                case rel => exact ⟨c + 1, _, by omega, by omega, rfl, by go_num, HKEEP.out, H10.out⟩
            · have qg : (G == 0) = false := by rw [beq_eq_false_iff_ne]; exact hG
              obtain ⟨-, h76⟩ : G ≠ 0 ∧ S7 = S6 := by
                rcases arith_plain HCC.out hA7 with h | ⟨h, _⟩
                · exact h
                · exact absurd h hG
              have H7 := Lib.hid h7
              have H76 := Lib.hid h76
              clear hA7 h7 hG h76
              have HJ : S7.regs (c * 256 + k) = kv a := (by rw [H76.out]; exact HR6a.out)
              have hget := KGET.out c _ _ _ H7.out (by omega)
              rw [HJ] at hget
              simp only [kv, valA] at hget
              have HGET := Lib.hid hget
              have HKEEP := Lib.hid (show ∀ c' : Nat, c + 1 ≤ c' → c' ≤ 2 → S7.regs (c' * 256 + k) = kv a from (by rw [H76.out]; exact HR6b.out))
              clear hget HJ
              go_wp2_with (go_at_call 8; with_reducible refine Calls.mono (num_any _ _) ?_; rintro e w' ⟨rfl, rfl⟩)
              refine Calls.mono HGET.out ?_
              rintro e w9 ⟨u, rfl, h9⟩
              obtain ⟨ua, uc, rfl⟩ := h9.sat.rowT_value
              simp only [List.length_nil]
              have h10 := h9.less.allocX (.cells #[.int .i64 a, .int .i64 0, .int .i64 0, .int .i64 0, .int .i64 0, .int .i64 0, .slice ua 0 uc] 40)
              have d0 := h10.sat.cell (i := 0) rfl
              have ld := h10.sat.lt
              have H10 := Lib.hid h10.less
              clear h9 h10 HGET
              go_wp2_with (go_at_call 8; with_reducible refine Calls.mono (num_any _ _) ?_; rintro e w' ⟨rfl, rfl⟩)
              go_roundg (3 - (c + 1))
              case measure => omega
              case rel => exact ⟨c + 1, _, by omega, by omega, rfl, by go_num, HKEEP.out, H10.out⟩
          · have qe : (E == 0) = false := by rw [beq_eq_false_iff_ne]; exact hE
            obtain ⟨-, h56⟩ : E ≠ 0 ∧ S5 = S := by
              rcases arith_plain HCC.out hA5 with h | ⟨h, _⟩
              · exact h
              · exact absurd h hE
            have HR6 := Lib.hid (show S5.regs = S.regs by rw [h56])
            have H6 := Lib.hid h5
            clear hA5 h5 hE HX h56
            go_wp2_with (go_at_call 8; with_reducible refine Calls.mono (num_any _ _) ?_; rintro e w' ⟨rfl, rfl⟩)
            refine Calls.mono (KMUL.out c _ _ _ H6.out) ?_
            rintro e w7 ⟨G, S7, rfl, hA7, h7⟩
            have HR6a := Lib.hid (show S5.regs (c * 256 + k) = kv a by rw [HR6.out]; exact HRC.out)
            have HR6b := Lib.hid (show ∀ c' : Nat, c + 1 ≤ c' → c' ≤ 2 → S5.regs (c' * 256 + k) = kv a from fun c' h1 h2 => by rw [HR6.out]; exact HREG.out c' (by omega) h2)
            by_cases hG : G = 0
            · subst hG
              by_cases hn : n = 0
              · subst hn
                obtain ⟨-, -, hs7⟩ := mul_plain HCC.out HR6a.out HQ.out rfl hA7
                have HS7 := Lib.hid hs7
                have H7 := Lib.hid h7
                clear hA7 h7 hs7
                have HJ : S7.regs (c * 256 + k) = kv 0 := (by rw [HS7.out]; simp [setS])
                have hget := KGET.out c _ _ _ H7.out (by omega)
                rw [HJ] at hget
                simp only [kv, valA] at hget
                have HGET := Lib.hid hget
                have HKEEP := Lib.hid (show ∀ c' : Nat, c + 1 ≤ c' → c' ≤ 2 → S7.regs (c' * 256 + k) = kv a from (fun c' h1 h2 => by rw [HS7.out, setS, if_neg (by omega)]; exact HR6b.out c' h1 h2))
                clear hget HJ
                go_wp2_with (go_at_call 8; with_reducible refine Calls.mono (num_any _ _) ?_; rintro e w' ⟨rfl, rfl⟩)
                refine Calls.mono HGET.out ?_
                rintro e w9 ⟨u, rfl, h9⟩
                obtain ⟨ua, uc, rfl⟩ := h9.sat.rowT_value
                simp only [List.length_nil]
                have h10 := h9.less.allocX (.cells #[.int .i64 0, .int .i64 0, .int .i64 0, .int .i64 0, .int .i64 0, .int .i64 0, .slice ua 0 uc] 40)
                have d0 := h10.sat.cell (i := 0) rfl
                have ld := h10.sat.lt
                have H10 := Lib.hid h10.less
                clear h9 h10 HGET
                by_cases ha : a = 0
                · subst ha
                  go_wp2_with (go_at_call 8; with_reducible refine Calls.mono (num_any _ _) ?_; rintro e w' ⟨rfl, rfl⟩)
                  go_roundg (3 - (c + 1))
                  case measure => omega
                  case rel => exact ⟨c + 1, _, by omega, by omega, rfl, by go_num, HKEEP.out, H10.out⟩
                · have qa : (0 == a) = false := by rw [beq_eq_false_iff_ne]; exact fun h => ha h.symm
                  have qb : (0 != a) = true := by rw [bne_iff_ne]; exact fun h => ha h.symm
                  go_wp2_with (go_at_call 8; with_reducible refine Calls.mono (num_any _ _) ?_; rintro e w' ⟨rfl, rfl⟩)
                  go_roundg (3 - (c + 1))
                  case measure => omega
                  case rel => exact ⟨c + 1, _, by omega, by omega, rfl, by go_num, HKEEP.out, H10.out⟩
              · have qn : (n == 0) = false := by rw [beq_eq_false_iff_ne]; exact hn
                have qm : (n != 0) = true := by rw [bne_iff_ne]; exact hn
                have H7 := Lib.hid h7
                have HA7 := Lib.hid hA7
                clear hA7 h7
                go_wp2_with (go_at_call 8; with_reducible refine Calls.mono (num_any _ _) ?_; rintro e w' ⟨rfl, rfl⟩)
                refine Calls.mono (KDIV.out c _ _ _ H7.out) ?_
                rintro e w8 ⟨G2, S8, rfl, hA8, h8⟩
                obtain ⟨rfl, hs8⟩ := mul_back HCC.out HR6a.out HQ.out rfl hn HA7.out hA8
                have HS8 := Lib.hid hs8
                have H8 := Lib.hid h8
                clear hA8 h8 hs8 hn
                go_wp2_with (go_at_call 8; with_reducible refine Calls.mono (num_any _ _) ?_; rintro e w' ⟨rfl, rfl⟩)
                have HJ : S8.regs (c * 256 + k) = kv a := (by rw [HS8.out]; exact HR6a.out)
                have hget := KGET.out c _ _ _ H8.out (by omega)
                rw [HJ] at hget
                simp only [kv, valA] at hget
                have HGET := Lib.hid hget
                have HKEEP := Lib.hid (show ∀ c' : Nat, c + 1 ≤ c' → c' ≤ 2 → S8.regs (c' * 256 + k) = kv a from (fun c' h1 h2 => by rw [HS8.out]; exact HR6b.out c' h1 h2))
                clear hget HJ
                go_wp2_with (go_at_call 8; with_reducible refine Calls.mono (num_any _ _) ?_; rintro e w' ⟨rfl, rfl⟩)
                refine Calls.mono HGET.out ?_
                rintro e w9 ⟨u, rfl, h9⟩
                obtain ⟨ua, uc, rfl⟩ := h9.sat.rowT_value
                simp only [List.length_nil]
                have h10 := h9.less.allocX (.cells #[.int .i64 a, .int .i64 0, .int .i64 0, .int .i64 0, .int .i64 0, .int .i64 0, .slice ua 0 uc] 40)
                have d0 := h10.sat.cell (i := 0) rfl
                have ld := h10.sat.lt
                have H10 := Lib.hid h10.less
                clear h9 h10 HGET
                go_wp2_with (go_at_call 8; with_reducible refine Calls.mono (num_any _ _) ?_; rintro e w' ⟨rfl, rfl⟩)
                go_roundg (3 - (c + 1))
                case measure => omega
                case rel => exact ⟨c + 1, _, by omega, by omega, rfl, by go_num, HKEEP.out, H10.out⟩
            · have qg : (G == 0) = false := by rw [beq_eq_false_iff_ne]; exact hG
              obtain ⟨-, h76⟩ : G ≠ 0 ∧ S7 = S5 := by
                rcases arith_plain HCC.out hA7 with h | ⟨h, _⟩
                · exact h
                · exact absurd h hG
              have H7 := Lib.hid h7
              have H76 := Lib.hid h76
              clear hA7 h7 hG h76
              have HJ : S7.regs (c * 256 + k) = kv a := (by rw [H76.out]; exact HR6a.out)
              have hget := KGET.out c _ _ _ H7.out (by omega)
              rw [HJ] at hget
              simp only [kv, valA] at hget
              have HGET := Lib.hid hget
              have HKEEP := Lib.hid (show ∀ c' : Nat, c + 1 ≤ c' → c' ≤ 2 → S7.regs (c' * 256 + k) = kv a from (by rw [H76.out]; exact HR6b.out))
              clear hget HJ
              go_wp2_with (go_at_call 8; with_reducible refine Calls.mono (num_any _ _) ?_; rintro e w' ⟨rfl, rfl⟩)
              refine Calls.mono HGET.out ?_
              rintro e w9 ⟨u, rfl, h9⟩
              obtain ⟨ua, uc, rfl⟩ := h9.sat.rowT_value
              simp only [List.length_nil]
              have h10 := h9.less.allocX (.cells #[.int .i64 a, .int .i64 0, .int .i64 0, .int .i64 0, .int .i64 0, .int .i64 0, .slice ua 0 uc] 40)
              have d0 := h10.sat.cell (i := 0) rfl
              have ld := h10.sat.lt
              have H10 := Lib.hid h10.less
              clear h9 h10 HGET
              go_wp2_with (go_at_call 8; with_reducible refine Calls.mono (num_any _ _) ?_; rintro e w' ⟨rfl, rfl⟩)
              go_roundg (3 - (c + 1))
              case measure => omega
              case rel => exact ⟨c + 1, _, by omega, by omega, rfl, by go_num, HKEEP.out, H10.out⟩
        · obtain rfl : c = 3 := by omega
          go_wp2
          go_ret
          exact ⟨rfl, HX.out.sat.toExt⟩
    · have q1 : (setE 2 (k : Int) (kv a) == 0) = false := by rw [beq_eq_false_iff_ne]; exact e2
      have q2 : (setE 2 (k : Int) (kv a) != 0) = true := by rw [bne_iff_ne]; exact e2
      generalize setE 2 (k : Int) (kv a) = er at *
      have H3 := Lib.hid h3
      clear h3 H2 e2
      go_wp2_with (go_at_call 8; with_reducible refine Calls.mono (num_any _ _) ?_; rintro e w' ⟨rfl, rfl⟩)
      refine Calls.mono (KN.out _ _ _ H3.out) ?_
      rintro e w4 ⟨rfl, h4⟩
      have H4 := Lib.hid h4
      clear h4
      go_wp2
      go_ret
      exact ⟨rfl, H4.out.sat.toExt⟩
  · have q1 : (setE 1 (k : Int) (kv a) == 0) = false := by rw [beq_eq_false_iff_ne]; exact e1
    have q2 : (setE 1 (k : Int) (kv a) != 0) = true := by rw [bne_iff_ne]; exact e1
    generalize setE 1 (k : Int) (kv a) = er at *
    have H2 := Lib.hid h2
    clear h2 H1 e1
    go_wp2_with (go_at_call 8; with_reducible refine Calls.mono (num_any _ _) ?_; rintro e w' ⟨rfl, rfl⟩)
    refine Calls.mono (KN.out _ _ _ H2.out) ?_
    rintro e w3 ⟨rfl, h3⟩
    have H3 := Lib.hid h3
    clear h3
    go_wp2
    go_ret
    exact ⟨rfl, H3.out.sat.toExt⟩

end Go.Proofs.Ytebggkgciocciaa
