/-
  The law LogsWidth: plain law and walk. Conditions: those that each theorem names.
-/
import Derived.Test.YtlfekbmcegbhoaaDoorLogG
namespace Go.Proofs.YtlfekbmcegbhoaaDoor
open Go.RowKit Go.Sp
variable {W w w' : World} {F F' : HProp}

/-- what the law looks at, byte by byte -/
def scanStep (width : Nat) : Option (Nat × List UInt8) → UInt8 → Option (Nat × List UInt8)
  | none, _ => none
  | some (n, back), c => if c = 10 then (if n = width then some (0, back) else none) else if n + 1 ≤ width then some (n + 1, back ++ [c]) else none
def scan (width : Nat) (l : List UInt8) : Option (Nat × List UInt8) := l.foldl (scanStep width) (some (0, []))

theorem scan_none (width : Nat) (l : List UInt8) : l.foldl (scanStep width) none = none := by
  induction l with
  | nil => rfl
  | cons c l ih => exact ih
theorem scan_app (width : Nat) (a b : List UInt8) : scan width (a ++ b) = b.foldl (scanStep width) (scan width a) := by simp [scan, List.foldl_append]
theorem scan_take {width : Nat} {l : List UInt8} (h : scan width l ≠ none) (k : Nat) : scan width (l.take k) ≠ none := by
  intro h2
  apply h
  rw [← List.take_append_drop k l, scan_app, h2, scan_none]

/-- a byte that shows as itself -/
def plainB (c : UInt8) : Prop := 32 ≤ c.toNat ∧ c.toNat ≤ 126
theorem shown_plain {c : UInt8} (h : plainB c) : shownB c = [c] := by
  have h127 : c ≠ 127 := by rintro rfl; exact absurd h.2 (by decide)
  rw [shownB, if_neg (by have := h.2; omega), if_neg (by rintro (h1 | h1); exact h127 h1; have := h.1; omega)]
theorem plain_ne {c : UInt8} (h : plainB c) : c ≠ 10 := by rintro rfl; exact absurd h.1 (by decide)

theorem add_scan {width : Nat} (hw : 1 ≤ width) (l : List UInt8) (h : ∀ c ∈ l, plainB c) : ∀ k, k ≤ l.length → scan width (addM width 0 (l.take k)).1 = some ((addM width 0 (l.take k)).2, l.take k) ∧ (addM width 0 (l.take k)).2 ≤ width := by
  intro k
  induction k with
  | zero => intro _; exact ⟨rfl, Nat.zero_le _⟩
  | succ k ih =>
    intro hk
    obtain ⟨i1, i2⟩ := ih (by omega)
    have hp := h l[k] (List.getElem_mem _)
    have hs := shown_plain hp
    have hne := plain_ne hp
    rw [addM_succ width 0 l k (by omega)]
    obtain ⟨⟨more, co⟩, hq⟩ : ∃ q, addM width 0 (l.take k) = q := ⟨_, rfl⟩
    rw [hq] at i1 i2 ⊢
    simp only at i1 i2
    have ht : l.take (k + 1) = l.take k ++ [l[k]] := List.take_succ_eq_append_getElem (by omega)
    rw [addStep, if_neg hne, hs]
    simp only [List.length_singleton]
    split
    · rename_i hc
      have hco : co = width := by omega
      refine ⟨?_, by omega⟩
      simp only
      rw [scan_app, scan_app, i1, ht]
      simp [scanStep, hco, hne, hw]
    · rename_i hc
      have hco : co + 1 ≤ width := by omega
      refine ⟨?_, by omega⟩
      simp only
      rw [scan_app, i1, ht]
      simp [scanStep, hne, hco]

theorem width_scan {width : Nat} (hw : 1 ≤ width) (l : List UInt8) (h : ∀ c ∈ l, plainB c) : ∃ n, scan width (addM width 0 l).1 = some (n, l) := by
  have := (add_scan hw l h l.length (Nat.le_refl _)).1
  rw [List.take_length] at this
  exact ⟨_, this⟩

/-- the law's bytes -/
def wideB (c : UInt8) : UInt8 := UInt8.ofNat (32 + c.toNat % 95)
theorem wide_plain (c : UInt8) : plainB (wideB c) := by
  have : (wideB c).toNat = 32 + c.toNat % 95 := by
    simp [wideB, UInt8.toNat_ofNat']
    omega
  unfold plainB
  rw [this]
  omega
theorem wide_wrap (c : UInt8) : IntKind.u8.wrap (32 + (c.toNat : Int).tmod 95) = ((wideB c).toNat : Int) := by
  have h1 : (wideB c).toNat = 32 + c.toNat % 95 := by
    simp [wideB, UInt8.toNat_ofNat']
    omega
  rw [h1, Int.tmod_eq_emod_of_nonneg (by omega), IntWalk.u8_in _ (by omega)]
  omega

theorem wide_val (c : UInt8) : 32 + (c.toNat : Int) % 95 = ((wideB c).toNat : Int) := by
  have h1 : (wideB c).toNat = 32 + c.toNat % 95 := by
    simp [wideB, UInt8.toNat_ofNat']
    omega
  rw [h1]
  omega

theorem width_rem (x : Int) : ∃ k : Nat, 4 ≤ k ∧ k ≤ 203 ∧ 4 + (x.tmod 200 + 200).tmod 200 = (k : Int) ∧ -200 < x.tmod 200 ∧ x.tmod 200 < 200 ∧ 0 ≤ (x.tmod 200 + 200).tmod 200 ∧ (x.tmod 200 + 200).tmod 200 < 200 := by
  have h1 : -200 < x.tmod 200 ∧ x.tmod 200 < 200 := by
    rcases Int.le_total 0 x with h | h
    · rw [Int.tmod_eq_emod_of_nonneg h]; omega
    · obtain ⟨y, rfl⟩ : ∃ y, x = -y := ⟨-x, by omega⟩
      rw [Int.neg_tmod, Int.tmod_eq_emod_of_nonneg (by omega)]; omega
  have h2 : (x.tmod 200 + 200).tmod 200 = (x.tmod 200 + 200) % 200 := Int.tmod_eq_emod_of_nonneg (by omega)
  refine ⟨(4 + (x.tmod 200 + 200) % 200).toNat, by omega, by omega, by omega, h1.1, h1.2, by omega, by omega⟩

set_option maxRecDepth 1000000 in
set_option maxHeartbeats 8000000 in
theorem width_any (x : Int) (l : List UInt8) (hl : l.length ≤ 2000000) (h : Sat W F w) : Calls Tryd.prog 3 #[.int .i64 x, (.string ⟨l.toArray⟩)] w fun e w' => e = .returned (.bool true) ∧ Sat W F w' := by
  obtain ⟨i0, hi, hz0, hz1, hz2⟩ := info_parts3B info_u8B
  have HI := Lib.hid hi
  have HZ0 := Lib.hid hz0
  have HZ1 := Lib.hid hz1
  have HZ2 := Lib.hid hz2
  clear hi hz0 hz1 hz2
  obtain ⟨wd, hd1, hd2, hd3, hd4, hd5, hd6, hd7⟩ := width_rem x
  obtain ⟨r1, hr1⟩ : ∃ r, x.tmod 200 = r := ⟨_, rfl⟩
  rw [hr1] at hd3 hd4 hd5 hd6 hd7
  obtain ⟨r2, hr2⟩ : ∃ r, (r1 + 200).tmod 200 = r := ⟨_, rfl⟩
  rw [hr2] at hd3 hd6 hd7
  have H0 := Lib.hid h
  have hsz : (⟨l.toArray⟩ : ByteArray).size = l.length := by simp [ByteArray.size]
  have HGET := Lib.hid (fun (i : Nat) (h : i < (⟨l.toArray⟩ : ByteArray).size) => Lib.getElem_mk l i h)
  obtain ⟨n, hn⟩ : ∃ n, l.length = n := ⟨_, rfl⟩
  rw [hn] at hsz hl
  have HN := Lib.hid hn
  generalize (⟨l.toArray⟩ : ByteArray) = sl at *
  have HTB := Lib.hid (show ∀ k, (h : k < l.length) → (l.map wideB).take (k + 1) = (l.map wideB).take k ++ [wideB l[k]] from fun k h => by
    rw [List.take_succ_eq_append_getElem (by simpa using h)]
    simp)
  have HPL := Lib.hid (show ∀ c ∈ l.map wideB, plainB c by
    intro c hc
    obtain ⟨d, _, rfl⟩ := List.mem_map.1 hc
    exact wide_plain d)
  have HBL := Lib.hid (show (l.map wideB).length = n by rw [List.length_map]; exact hn)
  generalize l.map wideB = B at *
  clear h hn
  go_enter Tryd.func3, Tryd.ntmps3
  go_wp2_with fail
  go_loopg [5, 6] n (fun g s5 s6 wx => ∃ k : Nat, k ≤ n ∧ g = n - k ∧ s6 = .int .i64 k ∧ Sat W (rowB s5 (B.take k) * F) wx)
  case atStart => exact ⟨0, by omega, rfl, rfl, Sat.row_nil (e := 5) (size := 1) H0.out⟩
  case round =>
    obtain ⟨k, hk, rfl, rfl, hx⟩ := hrel
    have HX := Lib.hid hx
    clear hx
    by_cases hlt : k < n
    · have i1 : (k : Int) < (n : Int) := by omega
      have hkl : k < l.length := by rw [HN.out]; exact hlt
      have hget : sl[k]'(by omega) = l[k] := by
        have := HGET.out k (by omega)
        rw [List.getElem?_eq_getElem hkl] at this
        exact (Option.some.inj this).symm
      have HTK := Lib.hid (HTB.out k hkl)
      have HLN := Lib.hid (show (B.take k).length = k by have := HBL.out; simp; omega)
      obtain ⟨c, hc⟩ : ∃ c, l[k] = c := ⟨_, rfl⟩
      rw [hc] at hget HTK
      have hwr := wide_val c
      clear hc hkl
      generalize wideB c = d at *
      go_wp2_with (at_builtin; refine wpList_append_sep rfl _ _ 22 rfl i0 _ 1 Tryd.underlying22 HI.out HZ0.out HZ1.out HZ2.out rfl rfl HX.out.allocD ⟨wr.heap.size, 0, none⟩ 1 1 [.int .u8 d.toNat] rfl rfl ?_ ?_ ?_ ?_ ?_)
      · exact new_cellB _ d _
      · simp [Value.oneCell']
      · rw [HLN.out]; simp [maxLen]; omega
      · rw [HLN.out]; omega
      intro v3 w3 h6
      have H6 := Lib.hid (rowB_snoc (acc := B.take k) (c := d) h6 (by first | rfl | (simp; done) | (simp; omega)) (by first | rfl | simp))
      clear h6
      go_wp2
      go_roundg (n - (k + 1))
      case measure => omega
      case rel => exact ⟨k + 1, by omega, rfl, by go_num, by rw [HTK.out]; exact H6.out⟩
    · have hkn : n = k := by omega
      subst hkn
      have htk : B.take n = B := List.take_of_length_le (by rw [HBL.out]; exact Nat.le_refl _)
      have hx := HX.out
      rw [htk] at hx
      clear htk HX hlt HGET
      have hcv := conv_row hx
      obtain ⟨va, vc, rfl, hvc, -⟩ := rowB_val hx
      have HX2 := Lib.hid hx
      have HNW := Lib.hid (new_any wd (by omega) (by omega) hx)
      obtain ⟨ms, hms⟩ : ∃ ms, (addM wd 0 B).1 = ms := ⟨_, rfl⟩
      obtain ⟨mc, hmc⟩ : ∃ mc, (addM wd 0 B).2 = mc := ⟨_, rfl⟩
      obtain ⟨sn, hsn⟩ := width_scan (width := wd) (by omega) B HPL.out
      rw [hms] at hsn
      have HSN := Lib.hid hsn
      have HAD := Lib.hid (fun (b : Nat) (w' : World) (h : LgAt W (rowB (.slice va B.length vc) B * F) b wd [] 0 w') => add_any B (by rw [HBL.out]; omega) h)
      unfold AddPost at HAD
      rw [hms, hmc] at HAD
      simp only [List.length_nil, Nat.zero_add, List.nil_append] at HAD
      obtain ⟨SB, hSB⟩ : ∃ SB, (⟨B.toArray⟩ : ByteArray) = SB := ⟨_, rfl⟩
      rw [hSB] at hcv HAD
      have HSB := Lib.hid hSB
      clear hx hms hmc hsn hSB
      go_wp2_with fail
      refine Calls.mono HNW.out ?_
      rintro e w1 ⟨b, rfl, h1⟩
      have hcv2 := conv_row h1.sat
      rw [HSB.out] at hcv2
      have HAD2 := Lib.hid (HAD.out b w1 h1)
      clear h1 hcv HAD HNW
      go_wp2_with fail
      refine Calls.mono HAD2.out ?_
      intro e w2 hp
      by_cases hfit : ms.length ≤ 1048576
      · rw [if_pos hfit] at hp
        obtain ⟨rfl, h2⟩ := hp
        obtain ⟨lv, g1, g2, g3, g4, hs⟩ := h2
        have hs2 := hs.of_eq (show _ = (pts b (lgO lv wd mc) * rowB lv ms) * (rowB (.slice va B.length vc) B * F) by ac_rfl)
        -- what is read of the log's text
        have HLG := Lib.hid hs
        clear hs hs2
        go_wp2_with (go_at_call 9; refine Calls.mono (num_any _ _) ?_; rintro e w' ⟨rfl, rfl⟩)
        refine Calls.mono (knows_any HLG.out) ?_
        rintro e w3 ⟨rfl, h3⟩
        have HL3 := Lib.hid (show LgAt W (rowB (.slice va B.length vc) B * F) b wd ms mc w3 from ⟨lv, g1, g2, g3, g4, h3⟩)
        have HTX := Lib.hid (text_any HL3.out)
        have HB3 := Lib.hid HL3.out.sat
        have hms : (⟨ms.toArray⟩ : ByteArray).size = ms.length := by simp [ByteArray.size]
        have HMG := Lib.hid (fun (i : Nat) (h : i < (⟨ms.toArray⟩ : ByteArray).size) => Lib.getElem_mk ms i h)
        obtain ⟨m, hm⟩ : ∃ m, ms.length = m := ⟨_, rfl⟩
        rw [hm] at hms hfit
        have HM := Lib.hid hm
        generalize (⟨ms.toArray⟩ : ByteArray) = sm at *
        clear h3 hm HLG
        go_wp2_with fail
        refine Calls.mono HTX.out ?_
        rintro e w4 ⟨rfl, rfl⟩
        go_wp2_with fail
        go_loopg [11, 12, 13] m (fun g s11 s12 s13 wx => ∃ (k c : Nat) (back : List UInt8), k ≤ m ∧ g = m - k ∧ s13 = .int .i64 k ∧ s12 = .int .i64 c ∧ c ≤ 2000000 ∧ back.length ≤ k ∧ scan wd (ms.take k) = some (c, back) ∧ Sat W (rowB s11 back * (rowB (.slice va B.length vc) B * F)) wx)
        case atStart => exact ⟨0, 0, [], by omega, rfl, rfl, rfl, by omega, by simp, rfl, Sat.row_nil (e := 5) (size := 1) HB3.out⟩
        case round =>
          obtain ⟨k, c, back, hk, rfl, rfl, rfl, hc9, hbk, hsc, hx⟩ := hrel
          have HX := Lib.hid hx
          have HSC := Lib.hid hsc
          clear hx hsc
          by_cases hlt : k < m
          · have i1 : (k : Int) < (m : Int) := by omega
            have hkl : k < ms.length := by rw [HM.out]; exact hlt
            have hget : sm[k]'(by omega) = ms[k] := by
              have := HMG.out k (by omega)
              rw [List.getElem?_eq_getElem hkl] at this
              exact (Option.some.inj this).symm
            have HST := Lib.hid (show scan wd (ms.take (k + 1)) = scanStep wd (some (c, back)) ms[k] by
              rw [List.take_succ_eq_append_getElem hkl, scan_app, HSC.out]
              rfl)
            have HNE := Lib.hid (scan_take (width := wd) (l := ms) (by rw [HSN.out]; simp) (k + 1))
            obtain ⟨d, hd⟩ : ∃ d, ms[k] = d := ⟨_, rfl⟩
            rw [hd] at hget HST
            clear hd hkl
            by_cases h10 : d = 10
            · have q1 : ((d.toNat : Int) == 10) = true := by simp [h10]
              have HST2 := Lib.hid (show c = wd ∧ scan wd (ms.take (k + 1)) = some (0, back) by
                have h1 := HST.out
                have h2 := HNE.out
                rw [h1, scanStep, if_pos h10] at h2
                rw [scanStep, if_pos h10] at h1
                by_cases hcw : c = wd
                · rw [if_pos hcw] at h1; exact ⟨hcw, h1⟩
                · rw [if_neg hcw] at h2; exact absurd rfl h2)
              have q2 : ((c : Int) != (wd : Int)) = false := by rw [HST2.out.1]; simp
              clear h10
              go_wp2
              go_roundg (m - (k + 1))
              case measure => omega
              case rel => exact ⟨k + 1, 0, back, by omega, rfl, by go_num, rfl, by omega, by omega, HST2.out.2, HX.out⟩
            · have q1 : ((d.toNat : Int) == 10) = false := by
                rw [beq_eq_false_iff_ne]; intro h; exact h10 (UInt8.toNat_inj.1 (by simp; omega))
              have HST2 := Lib.hid (show c + 1 ≤ wd ∧ scan wd (ms.take (k + 1)) = some (c + 1, back ++ [d]) by
                have h1 := HST.out
                have h2 := HNE.out
                rw [h1, scanStep, if_neg h10] at h2
                rw [scanStep, if_neg h10] at h1
                by_cases hcw : c + 1 ≤ wd
                · rw [if_pos hcw] at h1; exact ⟨hcw, h1⟩
                · rw [if_neg hcw] at h2; exact absurd rfl h2)
              have q2 : ¬ (wd : Int) < (c : Int) + 1 := by have := HST2.out.1; omega
              have hc2 : c + 1 ≤ 2000 := by have := HST2.out.1; omega
              clear h10
              go_wp2_with (at_builtin; refine wpList_append_sep rfl _ _ 22 rfl i0 _ 1 Tryd.underlying22 HI.out HZ0.out HZ1.out HZ2.out rfl rfl HX.out.allocD ⟨wr.heap.size, 0, none⟩ 1 1 [.int .u8 d.toNat] rfl rfl ?_ ?_ ?_ ?_ ?_)
              · simp [Value.oneCell']
              · simp [maxLen]; omega
              · omega
              intro v5 w5 h6
              have H6 := Lib.hid (rowB_snoc (acc := back) (c := d) h6 (by first | rfl | (simp; done) | (simp; omega)) (by first | rfl | simp))
              clear h6
              go_wp2
              go_roundg (m - (k + 1))
              case measure => omega
              case rel => exact ⟨k + 1, c + 1, back ++ [d], by omega, rfl, by go_num, by go_num, by omega, by simp; omega, HST2.out.2, H6.out⟩
          · have hkm : m = k := by omega
            subst hkm
            have htk : ms.take m = ms := List.take_of_length_le (by rw [HM.out]; exact Nat.le_refl _)
            have hb : back = B := by
              have h1 := HSC.out
              rw [htk, HSN.out] at h1
              simp only [Option.some.injEq, Prod.mk.injEq] at h1
              exact h1.2.symm
            subst hb
            have hcvA := conv_row HX.out
            have hcvB := conv_row HX.out.r
            obtain ⟨ba, bc, rfl, -, -⟩ := rowB_val HX.out
            rw [HSB.out] at hcvA hcvB
            have HF := Lib.hid HX.out.r.r
            clear htk HX
            go_wp2
            go_ret
            exact ⟨rfl, HF.out⟩
      · rw [if_neg hfit] at hp
        obtain ⟨rfl, h2⟩ := hp
        have H2 := Lib.hid h2.sat.r
        clear h2
        go_wp2_with (go_at_call 9; refine Calls.mono (num_any _ _) ?_; rintro e w' ⟨rfl, rfl⟩)
        refine Calls.mono (knows_any H2.out) ?_
        rintro e w3 ⟨rfl, h3⟩
        go_wp2
        go_ret
        exact ⟨rfl, h3⟩

end Go.Proofs.YtlfekbmcegbhoaaDoor
