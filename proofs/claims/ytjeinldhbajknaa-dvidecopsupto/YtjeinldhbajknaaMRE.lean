import Derived.Test.YtjeinldhbajknaaMRB
import Derived.Deep.LoopGhost
import Derived.Deep.DeepCutAuto
/-
  The document's numbers: number, width, texts. Conditions: those that each theorem names.
-/
namespace Go.Proofs.Ytjeinldhbajknaa
open Go.RowKit Go.Sp Go.Conc
variable {W w w' : World} {A : HProp}

theorem foldB_snoc (bs : List UInt8) (b : UInt8) : ∀ v, foldB v (bs ++ [b]) = foldB v bs * 256 + b.toNat := by
  induction bs with
  | nil => intro v; rfl
  | cons c bs ih => intro v; rw [List.cons_append, foldB, foldB, ih]
theorem foldB_lt (bs : List UInt8) : foldB 0 bs < 256 ^ bs.length := by
  obtain ⟨r, h1, h2⟩ := foldB_eq bs 0
  rw [h2, Nat.zero_mul, Nat.zero_add]
  exact h1
/-- a number of the document's: signed where the size is below 0 -/
def refNum (z : Int) (bs : List UInt8) : Int := if z < 0 ∧ 2 ^ (8 * z.natAbs - 1) ≤ foldB 0 bs then (foldB 0 bs : Int) - 2 ^ (8 * z.natAbs) else foldB 0 bs

theorem width_any (z : Int) (hz : -100 ≤ z ∧ z ≤ 100) : Calls Try.prog 66 #[.int .i64 z] w fun e w' => e = .returned (.int .i64 z.natAbs) ∧ w = w' := by
  by_cases h : z < 0
  · have e : (z.natAbs : Int) = -z := by omega
    rw [e]
    have hw : IntKind.i64.wrap (-z) = -z := IntWalk.i64_in _ (by omega)
    go_enter Try.func66, Try.ntmps66
    go_wp2
    go_ret
    exact ⟨rfl, rfl⟩
  · have e : (z.natAbs : Int) = z := by omega
    rw [e]
    go_enter Try.func66, Try.ntmps66
    go_wp2
    go_ret
    exact ⟨rfl, rfl⟩

theorem wrap64_big {x : Int} (h1 : -40000000000 ≤ x) (h2 : x ≤ 40000000000) : wrap64 x = x := by unfold wrap64; omega
set_option maxRecDepth 100000 in
set_option maxHeartbeats 4000000 in
theorem number_ref {g off cap : Nat} {bs : List UInt8} (z : Int) (hz : z ≠ 0 ∧ -4 ≤ z ∧ z ≤ 4) (hl : bs.length = z.natAbs) (hv : Rd w (.slice (some ⟨g, off, none⟩) bs.length cap) bs.length 1 (bs.map byteV)) :
    Calls Try.prog 67 #[.slice (some ⟨g, off, none⟩) bs.length cap, .int .i64 z] w fun e w' => e = .returned (.int .i64 (refNum z bs)) ∧ w = w' := by
  obtain ⟨n, hn⟩ : ∃ n, bs.length = n := ⟨_, rfl⟩
  have hzn : z.natAbs = n := by omega
  have HV := Lib.hid hv
  have HN := Lib.hid hn
  obtain ⟨T, hT⟩ : ∃ T, T = refNum z bs := ⟨_, rfl⟩
  have hn4 : 1 ≤ n ∧ n ≤ 4 := by omega
  rw [hn]
  clear hv hl
  have HT := Lib.hid hT
  by_cases hneg : z < 0
  · have hzz : z = -(n : Int) := by omega
    have hn0 : 0 < n := by omega
    have hwn : wrap64 (n : Int) = (n : Int) := wrap64_big (by omega) (by omega)
    have hzn2 : z < 0 := hneg
    rw [← hT]
    subst hzz
    clear hz hT hzn
    go_enter Try.func67, Try.ntmps67
    go_wp2_with fail
    go_loopg [6, 7] n (fun gg s6 s7 wx => ∃ k : Nat, k ≤ n ∧ gg = n - k ∧ s7 = .int .i64 k ∧ s6 = .int .i64 (foldB 0 (bs.take k)) ∧ wx = w)
    case atStart => exact ⟨0, by omega, rfl, rfl, by simp [foldB], rfl⟩
    case round =>
      obtain ⟨k, hk, rfl, rfl, rfl, rfl⟩ := hrel
      have HXX := Lib.hid (show foldB 0 (bs.take k) < 256 ^ k from by
        have h := foldB_lt (bs.take k)
        rw [List.length_take, Nat.min_eq_left (by rw [HN.out]; exact hk)] at h
        exact h)
      by_cases hlt : k < n
      · obtain ⟨_, _, a', c', e, h3⟩ := HV.out
        obtain ⟨b, hb⟩ : ∃ b, bs[k]? = some b := ⟨_, List.getElem?_eq_getElem (by rw [HN.out]; exact hlt)⟩
        obtain ⟨g', o', e1, y0⟩ := h3 k (byteV b) (by rw [List.getElem?_map, hb]; rfl)
        cases e
        cases e1
        have hfs : foldB 0 (bs.take (k + 1)) = foldB 0 (bs.take k) * 256 + b.toNat := by
          rw [List.take_add_one, hb]
          exact foldB_snoc _ _ _
        have HFS := Lib.hid hfs
        have hx3 : foldB 0 (bs.take k) < 16777216 := by
          have h1 := HXX.out
          have h2 : 256 ^ k ≤ 256 ^ 3 := Nat.pow_le_pow_right (by omega) (by omega)
          omega
        have hbt := b.toNat_lt
        clear hfs hb h3 HXX
        obtain ⟨x, hx⟩ : ∃ x, foldB 0 (bs.take k) = x := ⟨_, rfl⟩
        rw [hx] at hx3 HFS ⊢
        have i1 : (k : Int) < (n : Int) := by omega
        have i2 : (0 : Int) ≤ (k : Int) := by omega
        have e3 : 256 * (x : Int) = ((x * 256 : Nat) : Int) := by omega
        have w1 : wrap64 (256 * (x : Int)) = 256 * (x : Int) := wrap64_big (by omega) (by omega)
        have w2 : wrap64 (256 * (x : Int) + (b.toNat : Int)) = 256 * (x : Int) + (b.toNat : Int) := wrap64_big (by omega) (by omega)
        have w3 : wrap64 ((k : Int) + 1) = (k : Int) + 1 := wrap64_big (by omega) (by omega)
        have HXE := Lib.hid hx
        clear e3 hx w3
        go_upto_region 7 with fail
        clear w1 w2
        go_wp2
        go_roundg (n - (k + 1))
        case measure => omega
        case rel => exact ⟨k + 1, by omega, rfl, by go_num, by rw [HFS.out]; congr 1; omega, rfl⟩
      · obtain rfl : n = k := by omega
        have htk : bs.take n = bs := List.take_of_length_le (by rw [HN.out]; exact Nat.le_refl _)
        have hxx := HXX.out
        rw [htk] at hxx ⊢
        obtain ⟨x, hx⟩ : ∃ x, foldB 0 bs = x := ⟨_, rfl⟩
        rw [hx] at hxx ⊢
        have HX := Lib.hid hx
        clear htk hx HXX hlt hk
        obtain rfl | rfl | rfl | rfl : n = 1 ∨ n = 2 ∨ n = 3 ∨ n = 4 := by omega
        · skip
          by_cases hge : 128 ≤ x
          · have i1 : (128 : Int) ≤ (x : Int) := by omega
            have hrn : T = (x : Int) - 256 := by rw [HT.out]; unfold refNum; rw [HX.out]; simp [hge]
            have w3 : wrap64 ((x : Int) - 256) = (x : Int) - 256 := wrap64_big (by omega) (by omega)
            clear hge
            go_wp2
            go_ret
            exact ⟨by first | (rw [hrn]; rfl) | rfl, rfl⟩
          · have i1 : ¬ (128 : Int) ≤ (x : Int) := by omega
            have hrn : T = (x : Int) := by rw [HT.out]; unfold refNum; rw [HX.out]; simp [hge]
            clear hge
            go_wp2
            go_ret
            exact ⟨by first | (rw [hrn]; rfl) | rfl, rfl⟩
        · skip
          by_cases hge : 32768 ≤ x
          · have i1 : (32768 : Int) ≤ (x : Int) := by omega
            have hrn : T = (x : Int) - 65536 := by rw [HT.out]; unfold refNum; rw [HX.out]; simp [hge]
            have w3 : wrap64 ((x : Int) - 65536) = (x : Int) - 65536 := wrap64_big (by omega) (by omega)
            clear hge
            go_wp2
            go_ret
            exact ⟨by first | (rw [hrn]; rfl) | rfl, rfl⟩
          · have i1 : ¬ (32768 : Int) ≤ (x : Int) := by omega
            have hrn : T = (x : Int) := by rw [HT.out]; unfold refNum; rw [HX.out]; simp [hge]
            clear hge
            go_wp2
            go_ret
            exact ⟨by first | (rw [hrn]; rfl) | rfl, rfl⟩
        · skip
          by_cases hge : 8388608 ≤ x
          · have i1 : (8388608 : Int) ≤ (x : Int) := by omega
            have hrn : T = (x : Int) - 16777216 := by rw [HT.out]; unfold refNum; rw [HX.out]; simp [hge]
            have w3 : wrap64 ((x : Int) - 16777216) = (x : Int) - 16777216 := wrap64_big (by omega) (by omega)
            clear hge
            go_wp2
            go_ret
            exact ⟨by first | (rw [hrn]; rfl) | rfl, rfl⟩
          · have i1 : ¬ (8388608 : Int) ≤ (x : Int) := by omega
            have hrn : T = (x : Int) := by rw [HT.out]; unfold refNum; rw [HX.out]; simp [hge]
            clear hge
            go_wp2
            go_ret
            exact ⟨by first | (rw [hrn]; rfl) | rfl, rfl⟩
        · skip
          by_cases hge : 2147483648 ≤ x
          · have i1 : (2147483648 : Int) ≤ (x : Int) := by omega
            have hrn : T = (x : Int) - 4294967296 := by rw [HT.out]; unfold refNum; rw [HX.out]; simp [hge]
            have w3 : wrap64 ((x : Int) - 4294967296) = (x : Int) - 4294967296 := wrap64_big (by omega) (by omega)
            clear hge
            go_wp2
            go_ret
            exact ⟨by first | (rw [hrn]; rfl) | rfl, rfl⟩
          · have i1 : ¬ (2147483648 : Int) ≤ (x : Int) := by omega
            have hrn : T = (x : Int) := by rw [HT.out]; unfold refNum; rw [HX.out]; simp [hge]
            clear hge
            go_wp2
            go_ret
            exact ⟨by first | (rw [hrn]; rfl) | rfl, rfl⟩
  · have hzz : z = (n : Int) := by omega
    rw [← hT]
    subst hzz
    clear hz hT hzn
    go_enter Try.func67, Try.ntmps67
    go_wp2_with fail
    go_loopg [6, 7] n (fun gg s6 s7 wx => ∃ k : Nat, k ≤ n ∧ gg = n - k ∧ s7 = .int .i64 k ∧ s6 = .int .i64 (foldB 0 (bs.take k)) ∧ wx = w)
    case atStart => exact ⟨0, by omega, rfl, rfl, by simp [foldB], rfl⟩
    case round =>
      obtain ⟨k, hk, rfl, rfl, rfl, rfl⟩ := hrel
      have HXX := Lib.hid (show foldB 0 (bs.take k) < 256 ^ k from by
        have h := foldB_lt (bs.take k)
        rw [List.length_take, Nat.min_eq_left (by rw [HN.out]; exact hk)] at h
        exact h)
      by_cases hlt : k < n
      · obtain ⟨_, _, a', c', e, h3⟩ := HV.out
        obtain ⟨b, hb⟩ : ∃ b, bs[k]? = some b := ⟨_, List.getElem?_eq_getElem (by rw [HN.out]; exact hlt)⟩
        obtain ⟨g', o', e1, y0⟩ := h3 k (byteV b) (by rw [List.getElem?_map, hb]; rfl)
        cases e
        cases e1
        have hfs : foldB 0 (bs.take (k + 1)) = foldB 0 (bs.take k) * 256 + b.toNat := by
          rw [List.take_add_one, hb]
          exact foldB_snoc _ _ _
        have HFS := Lib.hid hfs
        have hx3 : foldB 0 (bs.take k) < 16777216 := by
          have h1 := HXX.out
          have h2 : 256 ^ k ≤ 256 ^ 3 := Nat.pow_le_pow_right (by omega) (by omega)
          omega
        have hbt := b.toNat_lt
        clear hfs hb h3 HXX
        obtain ⟨x, hx⟩ : ∃ x, foldB 0 (bs.take k) = x := ⟨_, rfl⟩
        rw [hx] at hx3 HFS ⊢
        have i1 : (k : Int) < (n : Int) := by omega
        have i2 : (0 : Int) ≤ (k : Int) := by omega
        have e3 : 256 * (x : Int) = ((x * 256 : Nat) : Int) := by omega
        have w1 : wrap64 (256 * (x : Int)) = 256 * (x : Int) := wrap64_big (by omega) (by omega)
        have w2 : wrap64 (256 * (x : Int) + (b.toNat : Int)) = 256 * (x : Int) + (b.toNat : Int) := wrap64_big (by omega) (by omega)
        have w3 : wrap64 ((k : Int) + 1) = (k : Int) + 1 := wrap64_big (by omega) (by omega)
        have HXE := Lib.hid hx
        clear e3 hx w3
        go_upto_region 7 with fail
        clear w1 w2
        go_wp2
        go_roundg (n - (k + 1))
        case measure => omega
        case rel => exact ⟨k + 1, by omega, rfl, by go_num, by rw [HFS.out]; congr 1; omega, rfl⟩
      · obtain rfl : n = k := by omega
        have htk : bs.take n = bs := List.take_of_length_le (by rw [HN.out]; exact Nat.le_refl _)
        have hxx := HXX.out
        rw [htk] at hxx ⊢
        obtain ⟨x, hx⟩ : ∃ x, foldB 0 bs = x := ⟨_, rfl⟩
        rw [hx] at hxx ⊢
        have HX := Lib.hid hx
        clear htk hx HXX hlt hk
        obtain rfl | rfl | rfl | rfl : n = 1 ∨ n = 2 ∨ n = 3 ∨ n = 4 := by omega
        · skip
          have hrn : T = (x : Int) := by rw [HT.out]; unfold refNum; rw [HX.out]; simp
          go_wp2
          go_ret
          exact ⟨by first | (rw [hrn]; rfl) | rfl, rfl⟩
        · skip
          have hrn : T = (x : Int) := by rw [HT.out]; unfold refNum; rw [HX.out]; simp
          go_wp2
          go_ret
          exact ⟨by first | (rw [hrn]; rfl) | rfl, rfl⟩
        · skip
          have hrn : T = (x : Int) := by rw [HT.out]; unfold refNum; rw [HX.out]; simp
          go_wp2
          go_ret
          exact ⟨by first | (rw [hrn]; rfl) | rfl, rfl⟩
        · skip
          have hrn : T = (x : Int) := by rw [HT.out]; unfold refNum; rw [HX.out]; simp
          go_wp2
          go_ret
          exact ⟨by first | (rw [hrn]; rfl) | rfl, rfl⟩

/-- how many bytes of text a command has -/
def textsM (c : Nat) (xs : List Int) : Int := (textN c xs).getD 0
set_option maxRecDepth 100000 in
set_option maxHeartbeats 4000000 in
theorem texts_any {a : Option Addr} {cap : Nat} {xs : List Int} (c : Nat) (hl : xs.length = (refSizes c).length) (h45 : 243 ≤ c → c ≤ 246 → (0 ≤ xs.getD 4 0 ∧ xs.getD 4 0 ≤ 255) ∧ (0 ≤ xs.getD 5 0 ∧ xs.getD 5 0 ≤ 255))
    (hv : Rd w (.slice a xs.length cap) xs.length 1 (intsL xs)) : Calls Try.prog 68 #[.int .i64 c, .slice a xs.length cap] w fun e w' => e = .returned (.int .i64 (textsM c xs)) ∧ Ext w w' := by
  rcases Nat.lt_or_ge c 239 with hc | hc
  · have e : textsM c xs = 0 := by unfold textsM textN; rw [if_neg (by omega), if_neg (by omega), if_neg (by omega)]; rfl
    have g1 : ¬ (239 : Int) ≤ (c : Int) := by omega
    have g2 : ¬ (243 : Int) ≤ (c : Int) := by omega
    have e1 : ((c : Int) == 247) = false := by rw [beq_eq_false_iff_ne]; omega
    have e2 : ¬ ((c : Int) = 247) := by omega
    have HE := Lib.hid e
    clear e hv
    go_enter Try.func68, Try.ntmps68
    go_wp2
    go_ret
    exact ⟨by rw [HE.out]; rfl, Ext.refl w⟩
  rcases Nat.lt_or_ge 242 c with hc2 | hc2
  rotate_left
  · have hl1 : 0 < xs.length := by
      rw [hl]
      obtain h | h | h | h : c = 239 ∨ c = 240 ∨ c = 241 ∨ c = 242 := by omega
      all_goals (rw [h]; decide)
    obtain ⟨g, off, ha, y0⟩ := rd_arg hv 0 hl1
    subst ha
    rw [Nat.add_zero] at y0
    have e : textsM c xs = xs.getD 0 0 := by unfold textsM textN; rw [if_pos (by omega)]; rfl
    rw [e]
    generalize xs.getD 0 0 = x at *
    have g1 : (239 : Int) ≤ (c : Int) := by omega
    have g2 : (c : Int) ≤ (242 : Int) := by omega
    have hl2 : (0 : Int) < (xs.length : Int) := by omega
    clear e hv hl h45
    go_enter Try.func68, Try.ntmps68
    go_wp2
    go_ret
    exact ⟨rfl, Ext.refl w⟩
  rcases Nat.lt_or_ge 246 c with hc3 | hc3
  rotate_left
  · have hl1 : 5 < xs.length := by
      rw [hl]
      obtain h | h | h | h : c = 243 ∨ c = 244 ∨ c = 245 ∨ c = 246 := by omega
      all_goals (rw [h]; decide)
    obtain ⟨g, off, ha, y4⟩ := rd_arg hv 4 (by omega)
    subst ha
    obtain ⟨g', off', ha, y5⟩ := rd_arg hv 5 (by omega)
    cases ha
    have e : textsM c xs = xs.getD 4 0 + xs.getD 5 0 := by unfold textsM textN; rw [if_neg (by omega), if_pos (by omega)]; rfl
    rw [e]
    have h45' := h45 (by omega) hc3
    generalize xs.getD 4 0 = x at *
    generalize xs.getD 5 0 = y at *
    have g1 : (239 : Int) ≤ (c : Int) := by omega
    have g2 : ¬ (c : Int) ≤ (242 : Int) := by omega
    have g3 : (243 : Int) ≤ (c : Int) := by omega
    have g4 : (c : Int) ≤ (246 : Int) := by omega
    have hl2 : (4 : Int) < (xs.length : Int) := by omega
    have hl3 : (5 : Int) < (xs.length : Int) := by omega
    have hw : IntKind.i64.wrap (x + y) = x + y := IntWalk.i64_in _ (by omega)
    have z4 := (Ext.refl w).drew.cell y4
    have z5 := (Ext.refl w).drew.cell y5
    have HEX := Lib.hid (Ext.refl w).drew
    clear e hv hl h45
    go_enter Try.func68, Try.ntmps68
    go_upto_region 4 with fail
    refine wp_region_tail (fun w' => w' = w.drew) 7 (by kernel_rfl) (by kernel_rfl) rfl ?_
    simp only [List.take_succ_cons, List.take_zero, List.drop_succ_cons, List.drop_zero]
    obtain ⟨W9, hW9⟩ : ∃ W9, w.drew = W9 := ⟨_, rfl⟩
    rw [hW9] at z4 z5 HEX
    rw [hW9]
    clear hW9
    refine wpQuiet_val (v := ?_) ?_
    rotate_left 1
    intro K hK
    refine ⟨by kernel_rfl, fun w9 hw9 => ?_, ?_⟩
    · subst hw9; go_simp; try with_reducible rfl
    go_simp
    refine hK _ ?_
    clear hK K
    refine wpQuiet_val (v := ?_) ?_
    rotate_left 1
    intro K hK
    refine ⟨by kernel_rfl, fun w9 hw9 => ?_, ?_⟩
    · subst hw9; go_simp; try with_reducible rfl
    go_simp
    refine hK _ ?_
    clear hK K
    refine wpQuiet_val (v := ?_) ?_
    rotate_left 1
    intro K hK
    refine ⟨by kernel_rfl, fun w9 hw9 => ?_, ?_⟩
    · subst hw9; go_simp; try with_reducible rfl
    go_simp
    refine hK _ ?_
    clear hK K
    refine wpQuiet_val (v := ?_) ?_
    rotate_left 1
    intro K hK
    refine ⟨by kernel_rfl, fun w9 hw9 => ?_, ?_⟩
    · subst hw9; go_simp; try with_reducible rfl
    go_simp
    refine hK _ ?_
    clear hK K
    refine wpQuiet_val (v := ?_) ?_
    rotate_left 1
    intro K hK
    refine ⟨by kernel_rfl, fun w9 hw9 => ?_, ?_⟩
    · subst hw9; go_simp; try with_reducible rfl
    go_simp
    refine hK _ ?_
    clear hK K
    refine wpQuiet_val (v := ?_) ?_
    rotate_left 1
    intro K hK
    refine ⟨by kernel_rfl, fun w9 hw9 => ?_, ?_⟩
    · subst hw9; go_simp; try with_reducible rfl
    go_simp
    refine hK _ ?_
    clear hK K
    refine wpQuiet_val (v := ?_) ?_
    rotate_left 1
    intro K hK
    refine ⟨by kernel_rfl, fun w9 hw9 => ?_, ?_⟩
    · subst hw9; go_simp; try with_reducible rfl
    go_simp
    refine hK _ ?_
    clear hK K
    refine wpQuiet_nil ?_
    clear z4 z5 hw
    rintro w17 rfl
    go_wp2
    go_ret
    exact ⟨rfl, HEX.out⟩
  · by_cases h7 : c = 247
    · subst h7
      have hl1 : 4 < xs.length := by rw [hl]; decide
      obtain ⟨g, off, ha, y0⟩ := rd_arg hv 4 hl1
      subst ha
      have e : textsM 247 xs = xs.getD 4 0 := rfl
      rw [e]
      generalize xs.getD 4 0 = x at *
      have hl2 : (4 : Int) < (xs.length : Int) := by omega
      clear e hv hl h45
      go_enter Try.func68, Try.ntmps68
      go_wp2
      go_ret
      exact ⟨rfl, Ext.refl w⟩
    · have e : textsM c xs = 0 := by unfold textsM textN; rw [if_neg (by omega), if_neg (by omega), if_neg h7]; rfl
      have g1 : (239 : Int) ≤ (c : Int) := by omega
      have g2 : ¬ (c : Int) ≤ (242 : Int) := by omega
      have g3 : (243 : Int) ≤ (c : Int) := by omega
      have g4 : ¬ (c : Int) ≤ (246 : Int) := by omega
      have e1 : ((c : Int) == 247) = false := by rw [beq_eq_false_iff_ne]; omega
      have e2 : ¬ ((c : Int) = 247) := by omega
      have HE := Lib.hid e
      clear e hv
      go_enter Try.func68, Try.ntmps68
      go_wp2
      go_ret
      exact ⟨by rw [HE.out]; rfl, Ext.refl w⟩

end Go.Proofs.Ytjeinldhbajknaa

/-
  A command of the document's, as a value. Conditions: none.
-/
namespace Go.Proofs.Ytjeinldhbajknaa
open Go.RowKit Go.Sp Go.Conc

theorem num_short : ∀ (k v : Nat) (f : Fd), f.l.length < k → (f.num k v).2.lost = true
  | 0, _, _, h => by omega
  | k + 1, v, f, h => by
    rw [Fd.num]
    cases hl : f.l with
    | nil =>
      refine num_lost k _ _ ?_
      unfold Fd.next
      rw [hl]
    | cons x l =>
      refine num_short k _ _ ?_
      unfold Fd.next
      rw [hl]
      rw [hl, List.length_cons] at h
      simp only
      omega
theorem num_enough : ∀ (k v : Nat) (f : Fd), k ≤ f.l.length → f.num k v = (foldB v (f.l.take k), ⟨f.l.drop k, f.at_ + k, f.lost⟩)
  | 0, v, f, _ => by simp [Fd.num, foldB]
  | k + 1, v, f, h => by
    rw [Fd.num]
    cases hl : f.l with
    | nil => rw [hl] at h; simp at h
    | cons x l =>
      have e : f.next = (x.toNat, ⟨l, f.at_ + 1, f.lost⟩) := by unfold Fd.next; rw [hl]
      rw [hl, List.length_cons] at h
      rw [e, num_enough k _ _ (by simp only; omega), List.take_succ_cons, List.drop_succ_cons, foldB]
      simp only
      rw [show f.at_ + 1 + k = f.at_ + (k + 1) by omega]
/-- the document's size of a size -/
def canon (z : Int) : Int := if z = 4 then -4 else z
theorem canon_abs (z : Int) : (canon z).natAbs = z.natAbs := by
  unfold canon
  split
  · rename_i h; rw [h]; rfl
  · rfl
theorem refNum_sgn (z : Int) (bs : List UInt8) : refNum (canon z) bs = sgnV z.natAbs (decide (z < 0)) (foldB 0 bs) := by
  unfold refNum sgnV
  rw [canon_abs]
  have e : canon z < 0 ↔ (z < 0 ∨ z.natAbs = 4) := by
    unfold canon
    split <;> omega
  by_cases h1 : 2 ^ (8 * z.natAbs - 1) ≤ foldB 0 bs
  · by_cases h2 : canon z < 0
    · rw [if_pos ⟨h2, h1⟩, if_pos ⟨by simpa using e.1 h2, h1⟩]
    · rw [if_neg (fun h => h2 h.1), if_neg (fun h => h2 (e.2 (by simpa using h.1)))]
  · rw [if_neg (fun h => h1 h.2), if_neg (fun h => h1 h.2)]
theorem args_step (z : Int) (zs acc : List Int) (f : Fd) (h : z.natAbs ≤ f.l.length) : f.args (z :: zs) acc = Fd.args zs (acc ++ [refNum (canon z) (f.l.take z.natAbs)]) ⟨f.l.drop z.natAbs, f.at_ + z.natAbs, f.lost⟩ := by
  rw [Fd.args, num_enough _ _ _ h, refNum_sgn]
theorem args_short (z : Int) (zs acc : List Int) (f : Fd) (h : f.l.length < z.natAbs) : (f.args (z :: zs) acc).2.lost = true := by
  rw [Fd.args]
  exact args_lost zs _ _ (num_short _ _ _ h)
theorem refSizes_canon (c : Nat) : refSizes c = (sizesM c).map canon := rfl
/-- a feed that stands at a place in a text -/
def feedAt (l : List UInt8) (n : Nat) : Fd := ⟨l.drop n, n, false⟩
theorem byte_pair (f : Fd) (c : Nat) (h : f.cmd.1.code = c) (h1 : 243 ≤ c) (h2 : c ≤ 246) : (0 ≤ f.cmd.1.args.getD 4 0 ∧ f.cmd.1.args.getD 4 0 ≤ 255) ∧ (0 ≤ f.cmd.1.args.getD 5 0 ∧ f.cmd.1.args.getD 5 0 ≤ 255) := by
  have hz : sizesM f.next.1 = [(f.next.1 : Int) - 242, 4, 4, 4, 1, 1] := by
    have : f.next.1 = c := h
    unfold sizesM
    repeat (first | rw [if_pos (by omega)] | rw [if_neg (by omega)])
  have e : f.cmd.1.args = (f.next.2.args (sizesM f.next.1) []).1 := rfl
  rw [e, hz]
  simp only [Fd.args, List.nil_append, List.cons_append, List.getD_cons_succ, List.getD_cons_zero, show (1 : Int).natAbs = 1 from rfl, Fd.num]
  have hs : ∀ g : Fd, 0 ≤ sgnV 1 (decide ((1 : Int) < 0)) (0 * 256 + g.next.1) ∧ sgnV 1 (decide ((1 : Int) < 0)) (0 * 256 + g.next.1) ≤ 255 := fun g => by
    have := g.next_lt
    unfold sgnV
    rw [if_neg (by simp)]
    omega
  exact ⟨hs _, hs _⟩

/-- what stands behind the numbers, as the document reads it -/
theorem tail_ref (c : Nat) (xs : List Int) (l : List UInt8) (p : Nat) (hc : c ≤ 249) :
    ((textsM c xs < 0 ∨ ((l.length - p : Nat) : Int) < textsM c xs) → ((feedAt l p).tail c xs).2.lost = true) ∧
    (¬ (textsM c xs < 0 ∨ ((l.length - p : Nat) : Int) < textsM c xs) → (feedAt l p).tail c xs = ((l.drop p).take (textsM c xs).toNat, feedAt l (p + (textsM c xs).toNat))) := by
  have hl : (feedAt l p).l.length = l.length - p := by unfold feedAt; rw [List.length_drop]
  unfold Fd.tail textsM
  cases h : textN c xs with
  | none =>
    simp only [Option.getD_none]
    refine ⟨fun h => by omega, fun _ => ?_⟩
    rw [if_neg (by omega)]
    simp
  | some n =>
    simp only [Option.getD_some]
    unfold Fd.txt
    rw [hl]
    refine ⟨fun h => by rw [if_pos h], fun h => ?_⟩
    rw [if_neg h]
    unfold feedAt
    simp only [List.drop_drop]

end Go.Proofs.Ytjeinldhbajknaa
