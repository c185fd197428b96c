/-
  The law CodesEnds, walked. Conditions: those that each theorem names.
-/
import Derived.Test.YtkfobimigiaknaaDoorCodT
namespace Go.Proofs.YtkfobimigiaknaaDoor
open Go.RowKit Go.Sp
variable {W w w' : World} {F F' : HProp}

theorem good_rd (C : List Int) (hC : C.length = 256) {b : Nat} {R : Rs} (h : RdAt W F b R w) : Calls Tryd.prog 18 #[codesV C] w fun e w' => e = .returned (.bool (goodC C)) ∧ RdAt W F b R w' := by
  obtain ⟨u, xs, at_, h1, h2, h3, hs⟩ := h
  exact (good_any C hC hs).mono fun e w' ⟨he, hw⟩ => ⟨he, u, xs, at_, h1, h2, h3, hw⟩
theorem kind_rd (C : List Int) (hC : C.length = 256) (t : Tok) (hk : KindOK C t) (hb : t.name.size ≤ 1000000) {b : Nat} {R : Rs} (h : RdAt W F b R w) :
    Calls Tryd.prog 22 #[Tok.val t, codesV C] w fun e w' => e = .returned (.bool true) ∧ RdAt W F b R w' := by
  obtain ⟨u, xs, at_, h1, h2, h3, hs⟩ := h
  exact (kind_any C hC t hk hb hs).mono fun e w' ⟨he, hw⟩ => ⟨he, u, xs, at_, h1, h2, h3, hw⟩

theorem phi_new (text : List UInt8) : (newR text).phi ≤ text.length + 1 := by
  by_cases h : text = []
  · subst h; simp [Rs.phi, newR]
  · simp [Rs.phi, newR, h]

set_option maxRecDepth 1000000 in
set_option maxHeartbeats 8000000 in
theorem ends_any (C : List Int) (hC : C.length = 256) (endl : Int) (text : List UInt8) (h : Sat W F w) :
    Calls Tryd.prog 7 #[(.string ⟨text.toArray⟩), codesV C, .int .i64 endl] w fun e w' => e = .returned (.bool true) ∧ Sat W F w' := by
  have h0 := h.alloc (codesO C 22)
  have H0 := Lib.hid h0
  have HC := Lib.hid hC
  have HL := Lib.hid (fun w' (h : Sat W F w') => live_any h)
  obtain ⟨bc, hbc⟩ : ∃ bc, w.heap.size = bc := ⟨_, rfl⟩
  rw [hbc] at H0
  by_cases ht : 65536 < text.length
  · have HN := Lib.hid (fun w => new_no text w ht)
    clear h h0 hC ht
    generalize (⟨text.toArray⟩ : ByteArray) = s at *
    go_enter Tryd.func7, Tryd.ntmps7
    go_wp2_with fail
    refine Calls.mono (HN.out _) ?_
    rintro e w1 ⟨rfl, rfl⟩
    go_wp2_with (go_at_call 16; refine Calls.mono (num_any _ _) ?_; rintro e w' ⟨rfl, rfl⟩)
    refine Calls.mono (HL.out _ H0.out.r) ?_
    rintro e w2 ⟨rfl, h2⟩
    go_wp2
    go_ret
    exact ⟨rfl, h2⟩
  · have HN := Lib.hid (new_any text H0.out (by omega))
    have HTX := Lib.hid (show text.length ≤ 65536 by omega)
    have HPH := Lib.hid (phi_new text)
    have HG1 := Lib.hid (fun (b : Nat) (R : Rs) (w' : World) (h : RdAt W (pts bc (codesO C 22) * F) b R w') => good_rd C hC h)
    obtain ⟨gd, hgd⟩ : ∃ gd, goodC C = gd := ⟨_, rfl⟩
    rw [hgd] at HG1
    have HG := Lib.hid hgd
    have hsz : (⟨text.toArray⟩ : ByteArray).size = text.length := str_size text
    have HGET := Lib.hid (fun (i : Nat) (h : i < (⟨text.toArray⟩ : ByteArray).size) => Lib.getElem_mk text i h)
    obtain ⟨n, hn⟩ : ∃ n, text.length = n := ⟨_, rfl⟩
    rw [hn] at hsz
    rw [hn] at HPH HTX
    have hn65 : n ≤ 65536 := HTX.out
    have HNT := Lib.hid (show (newR text).text.length ≤ 65536 ∧ (newR text).number + (newR text).text.length ≤ 1000000 by simp only [newR]; omega)
    have HNN := Lib.hid (show (newR text).number = 0 from rfl)
    generalize newR text = R0 at *
    have HNL := Lib.hid hn
    clear h h0 hC ht hgd hn
    generalize (⟨text.toArray⟩ : ByteArray) = s at *
    go_enter Tryd.func7, Tryd.ntmps7
    go_wp2_with fail
    refine Calls.mono HN.out ?_
    rintro e w1 ⟨b, rfl, hx⟩
    have HX := Lib.hid hx
    have hblk := hx.sat.blk
    clear hx hbc
    go_wp2_with (go_at_call 16; refine Calls.mono (num_any _ _) ?_; rintro e w' ⟨rfl, rfl⟩)
    refine wp_load_row 22 (.tmp 4) (by rfl) bc (by rfl) _ _ _ _ hblk Tryd.underlying22 (by rfl) ?_ ?_
    · rw [size_codes]; simp [HC.out]
    clear hblk
    go_wp2_with fail
    refine Calls.mono (HG1.out _ _ _ HX.out) ?_
    rintro e w2 ⟨rfl, hx⟩
    have HX2 := Lib.hid hx
    clear hx
    cases gd
    · go_wp2_with (go_at_call 16; refine Calls.mono (num_any _ _) ?_; rintro e w' ⟨rfl, rfl⟩)
      refine Calls.mono (HL.out _ HX2.out.sat.r) ?_
      rintro e w3 ⟨rfl, h2⟩
      go_wp2
      go_ret
      exact ⟨rfl, h2⟩
    · go_wp2_with fail
      go_loopg [9, 10] n (fun g s9 s10 wx => ∃ i m : Nat, i ≤ n ∧ m ≤ i ∧ g = n - i ∧ s10 = .int .i64 i ∧ s9 = .int .i64 (((n + 1 + m : Nat) : Int)) ∧ wx = w2)
      case atStart => exact ⟨0, 0, by omega, by omega, rfl, rfl, rfl, rfl⟩
      case round =>
        obtain ⟨i, m, hi, hm, rfl, rfl, rfl, rfl⟩ := hrel
        obtain ⟨q, hq⟩ : ∃ q : Nat, n + 1 + m = q := ⟨_, rfl⟩
        have HQ := Lib.hid hq
        rw [hq]
        have hq9 : q ≤ 200000 := by omega
        clear hq
        by_cases hlt : i < n
        · have j1 : (i : Int) < (n : Int) := by omega
          have hget := HGET.out i (by omega)
          obtain ⟨c, hc⟩ : ∃ c, s[i]'(by omega) = c := ⟨_, rfl⟩
          clear hget
          by_cases h10 : c = 10
          · have q1 : ((c.toNat : Int) == 10) = true := by simp [h10]
            clear h10
            go_wp2
            go_roundg (n - (i + 1))
            case measure => omega
            case rel => exact ⟨i + 1, m + 1, by omega, by omega, rfl, by go_num, by have := HQ.out; go_num, rfl⟩
          · have q1 : ((c.toNat : Int) == 10) = false := by
              rw [beq_eq_false_iff_ne]; intro h; exact h10 (UInt8.toNat_inj.1 (by exact_mod_cast h))
            clear h10
            go_wp2
            go_roundg (n - (i + 1))
            case measure => omega
            case rel => exact ⟨i + 1, m, by omega, by omega, rfl, by go_num, by rw [HQ.out], rfl⟩
        · have j1 : ¬ (i : Int) < (n : Int) := by omega
          have hqn : n + 1 ≤ q := by have := HQ.out; omega
          have HX3 := HX2
          clear hlt hm HQ hi
          go_wp2_with fail
          go_loopg [11, 12] (R0.phi + 1) (fun g s11 s12 wx => ∃ (R : Rs) (k : Nat), g = R.phi + 1 ∧ s12 = .int .i64 k ∧ s11 = .int .i64 R.number ∧ R.phi + k ≤ n + 1 ∧ R.text.length ≤ 65536 ∧ R.number + R.text.length ≤ 1000000 ∧ RdAt W (pts bc (codesO C 22) * F) b R wx)
          case atStart => exact ⟨R0, 0, rfl, rfl, by rw [HNN.out]; rfl, HPH.out, HNT.out.1, HNT.out.2, HX3.out⟩
          case round =>
            obtain ⟨R, k, rfl, rfl, rfl, hphi, htx, hnum, hx⟩ := hrel
            have j2 : (k : Int) ≤ (q : Int) := by omega
            have hN := next_any C HC.out endl R b hx htx hnum
            have hok := nextM_ok HC.out HG.out endl R
            have hle := nextM_le C endl R
            obtain ⟨⟨t, e, R'⟩, hqq⟩ : ∃ q, nextM C endl R = q := ⟨_, rfl⟩
            rw [hqq] at hN hok hle
            have HNX := Lib.hid hN
            have HOK := Lib.hid hok
            have HLE := Lib.hid (show R'.text.length ≤ 65536 ∧ R'.number + R'.text.length ≤ 1000000 from ⟨Nat.le_trans hle.1 htx, Nat.le_trans hle.2 hnum⟩)
            have HPI := Lib.hid hphi
            have hblk := hx.sat.blk
            have hmono : ¬ (R'.number : Int) < (R.number : Int) := by have := hok.num; simp only at this; omega
            have hR' : R'.number ≤ 1000000 := by have := HLE.out.2; omega
            clear hqq hN hok hle hx htx hphi
            go_wp2_with fail
            refine wp_load_row 22 (.tmp 4) (by rfl) bc (by rfl) _ _ _ _ hblk Tryd.underlying22 (by rfl) ?_ ?_
            · rw [size_codes]; simp [HC.out]
            clear hblk
            go_wp2_with fail
            refine Calls.mono HNX.out ?_
            rintro e' w3 ⟨rfl, hx⟩
            have HX4 := Lib.hid (hx.alloc (.cells #[.int .i64 t.cat, .int .u8 t.chr.toNat, .string t.name] 31))
            clear hx
            go_wp2_with fail
            refine Calls.mono (line_any HX4.out) ?_
            rintro e' w4 ⟨rfl, rfl⟩
            go_wp2_with fail
            refine Calls.mono (line_any HX4.out) ?_
            rintro e' w4 ⟨rfl, rfl⟩
            have hz := HX4.out
            generalize w3.alloc (.cells #[.int .i64 t.cat, .int .u8 t.chr.toNat, .string t.name] 31) = w4 at *
            generalize w3.heap.size = bt at *
            have HX5 := Lib.hid hz
            have y0 := hz.sat.cell (i := 0) rfl
            have y1 := hz.sat.cell (i := 1) rfl
            have y2 := hz.sat.cell (i := 2) rfl
            have ly := hz.sat.lt
            have hblk := hz.sat.r.blk
            clear hz HX4 HNX
            have herr := HOK.out.err
            simp only at herr
            rcases herr with rfl | rfl | rfl
            · have HK := Lib.hid (kind_rd C HC.out t (HOK.out.kind rfl) (by have h1 := HOK.out.nlen; have h2 := HPI.out; simp only at h1; omega) HX5.out)
              have HPH2 := Lib.hid (show R'.phi + 1 ≤ R.phi from HOK.out.less (show (0 : Int) ≠ 3 by decide))
              go_wp2_with (go_at_call 16; refine Calls.mono (num_any _ _) ?_; rintro e w' ⟨rfl, rfl⟩)
              refine wp_load_row 22 (.tmp 4) (by rfl) bc (by rfl) _ _ _ _ hblk Tryd.underlying22 (by rfl) ?_ ?_
              · rw [size_codes]; simp [HC.out]
              clear hblk
              go_wp2_with fail
              refine Calls.mono HK.out ?_
              rintro e' w5 ⟨rfl, hx⟩
              have HX6 := Lib.hid hx
              clear hx
              go_wp2_with fail
              go_roundg (R'.phi + 1)
              case measure => have := HPH2.out; omega
              case rel => exact ⟨R', k + 1, rfl, by go_num, rfl, by have h1 := HPH2.out; have h2 := HPI.out; omega, HLE.out.1, HLE.out.2, HX6.out.drop⟩
            · obtain ⟨ht0, hen⟩ := HOK.out.fin rfl
              simp only at ht0 hen
              subst ht0
              have hN := next_any C HC.out endl R' b HX5.out HLE.out.1 HLE.out.2
              rw [nextM_ended HG.out endl hen] at hN
              have HNX := Lib.hid (show Calls Tryd.prog 20 #[.pointer (some ⟨b, 0, none⟩), codesV C, .int .i64 endl] w4 fun e w' => e = .returned (.tuple #[.agg #[.int .i64 0, .int .u8 0, .string ⟨#[]⟩], .int .i64 3]) ∧ RdAt W (pts bt (.cells #[.int .i64 0, .int .u8 0, .string ⟨#[]⟩] 31) * (pts bc (codesO C 22) * F)) b R' w' from hN)
              clear hN hen
              go_wp2_with (go_at_call 16; refine Calls.mono (num_any _ _) ?_; rintro e w' ⟨rfl, rfl⟩)
              refine wp_load_row 22 (.tmp 4) (by rfl) bc (by rfl) _ _ _ _ hblk Tryd.underlying22 (by rfl) ?_ ?_
              · rw [size_codes]; simp [HC.out]
              clear hblk
              go_wp2_with fail
              refine Calls.mono HNX.out ?_
              rintro e' w5 ⟨rfl, hx⟩
              have HX6 := Lib.hid hx
              have z0 := hx.sat.cell (i := 0) rfl
              have z1 := hx.sat.cell (i := 1) rfl
              have z2 := hx.sat.cell (i := 2) rfl
              have lz := hx.sat.lt
              clear y0 y1 y2 ly hx
              have HX7 := Lib.hid (HX6.out.sat.r.r.allocD (o := .cells #[.int .i64 0, .int .u8 0, .string ⟨#[]⟩] 31))
              go_wp2_with (go_at_call 16; refine Calls.mono (num_any _ _) ?_; rintro e w' ⟨rfl, rfl⟩)
              refine Calls.mono (HL.out _ HX7.out) ?_
              rintro e' w6 ⟨rfl, h6⟩
              go_wp2
              go_ret
              exact ⟨rfl, h6⟩
            · have HPH2 := Lib.hid (show R'.phi + 1 ≤ R.phi from HOK.out.less (show (160 : Int) ≠ 3 by decide))
              go_wp2_with (go_at_call 16; refine Calls.mono (num_any _ _) ?_; rintro e w' ⟨rfl, rfl⟩)
              go_roundg (R'.phi + 1)
              case measure => have := HPH2.out; omega
              case rel => exact ⟨R', k + 1, rfl, by go_num, rfl, by have h1 := HPH2.out; have h2 := HPI.out; omega, HLE.out.1, HLE.out.2, HX5.out.drop⟩

end Go.Proofs.YtkfobimigiaknaaDoor
