import Derived.Test.YticljfpippbkkaaMNU
import Derived.Laws.RangeString
import Derived.Laws.Runes
import Derived.Lib.TrimByte
import Derived.Deep.LoopGhost
/-
  The digits behind a point, as a text. Conditions: those that each theorem names.
-/
namespace Go.Proofs.Yticljfpippbkkaa
open Go.RowKit Go.Sp
variable {W w w' : World} {A : HProp} {bx bs bt N : Nat} {L : List Tok} {S : TabS}

def Digs (l : List UInt8) : Prop := ∀ c ∈ l, 48 ≤ c.toNat ∧ c.toNat ≤ 57
set_option maxRecDepth 100000 in
set_option maxHeartbeats 4000000 in
theorem sdigits_any (l : List UInt8) (hd : Digs l) (w : World) : Calls Try.prog 102 #[(.string ⟨l.toArray⟩)] w fun e w' => e = .returned (.bool true) ∧ Ext w w' := by
  have hsz : (⟨l.toArray⟩ : ByteArray).size = l.length := by simp [ByteArray.size]
  have HGET := Lib.hid (fun (i : Nat) (h : i < (⟨l.toArray⟩ : ByteArray).size) => Lib.getElem_mk l i h)
  obtain ⟨n, hn⟩ : ∃ n, l.length = n := ⟨_, rfl⟩
  rw [hn] at hsz
  have HN := Lib.hid hn
  have HD := Lib.hid hd
  have HX := Lib.hid (show ∀ o, Ext w (w.alloc o) from fun o => (Ext.refl w).alloc)
  generalize (⟨l.toArray⟩ : ByteArray) = s at *
  have hrg := fun w => run_range_string (P := Try.prog) w 9 s Try.underlying9
  clear hn hd
  go_enter Try.func102, Try.ntmps102
  go_wp2_with fail
  clear hrg
  go_loopg [4] n (fun gg _ wx => ∃ k : Nat, k ≤ n ∧ gg = n - k ∧ wx = w.iter s k)
  case atStart => exact ⟨0, by omega, rfl, rfl⟩
  case round =>
    obtain ⟨k, hk, hg, rfl⟩ := hrel
    by_cases hlt : k < n
    · have hks : k < s.size := by omega
      have hkl : k < l.length := by rw [HN.out]; exact hlt
      obtain ⟨c, hc⟩ : ∃ c, l[k] = c := ⟨_, rfl⟩
      have hget : s[k]'hks = c := by
        have := HGET.out k hks
        rw [List.getElem?_eq_getElem hkl, hc] at this
        exact (Option.some.inj this).symm
      have hcd := HD.out c (by rw [← hc]; exact List.getElem_mem _)
      have hnx := fun ty => run_next_ascii (P := Try.prog) w s k ty hks (by rw [hget]; omega)
      rw [hget] at hnx
      have i1 : (48 : Int) ≤ (c.toNat : Int) := by omega
      have i2 : (c.toNat : Int) ≤ 57 := by omega
      clear hc hcd hkl hget
      go_wp2
      go_roundg (n - (k + 1))
      case measure => omega
      case rel => exact ⟨k + 1, by omega, rfl, rfl⟩
    · have hnx := fun ty => run_next_end (P := Try.prog) w s k ty (by omega)
      go_wp2
      go_ret
      exact ⟨rfl, HX.out _⟩

theorem decGo_bd : ∀ (l : List UInt8), Digs l → 0 ≤ decGo l ∧ decGo l ≤ 131072
  | [], _ => by simp [decGo]
  | c :: l, h => by
    have h1 := decGo_bd l fun x hx => h x (List.mem_cons_of_mem _ hx)
    have h2 := h c (List.mem_cons_self ..)
    rw [decGo, Int.tdiv_eq_ediv_of_nonneg (by omega)]
    omega
theorem u8_sub48 (c : UInt8) (h : 48 ≤ c.toNat) : IntKind.u8.wrap ((c.toNat : Int) - 48) = (c.toNat : Int) - 48 := by
  have := c.toNat_lt
  unfold IntKind.wrap
  simp [IntKind.bits, IntKind.signed]
  omega
set_option maxRecDepth 100000 in
set_option maxHeartbeats 4000000 in
theorem sdecimals_any (l : List UInt8) (hd : Digs l) (hl : l.length ≤ 1000000000) (w : World) : Calls Try.prog 103 #[(.string ⟨l.toArray⟩)] w fun e w' => e = .returned (.int .i64 (decsM l)) ∧ w = w' := by
  have hsz : (⟨l.toArray⟩ : ByteArray).size = l.length := by simp [ByteArray.size]
  have HGET := Lib.hid (fun (i : Nat) (h : i < (⟨l.toArray⟩ : ByteArray).size) => Lib.getElem_mk l i h)
  obtain ⟨n, hn⟩ : ∃ n, l.length = n := ⟨_, rfl⟩
  rw [hn] at hsz hl
  obtain ⟨m, hm⟩ : ∃ m, min n 17 = m := ⟨_, rfl⟩
  have hmn : m ≤ n ∧ m ≤ 17 := by omega
  have HN := Lib.hid hn
  have HD := Lib.hid hd
  obtain ⟨R, hR⟩ : ∃ R, decsM l = R := ⟨_, rfl⟩
  rw [hR]
  have HR := Lib.hid hR
  have HM := Lib.hid (show (l.take 17).length = m by rw [List.length_take, hn]; omega)
  have hmin : (if (17 : Int) < (n : Int) then 17 else (n : Int)) = (m : Int) := by split <;> omega
  generalize (⟨l.toArray⟩ : ByteArray) = s at *
  have wm : wrap64 ((m : Int) - 1) = (m : Int) - 1 := wrap64_id _ (by omega) (by omega)
  clear hn hd hR hm
  go_enter Try.func103, Try.ntmps103
  go_wp2_with fail
  clear wm hmin
  go_loopg [3, 4] m (fun gg s3 s4 wx => ∃ (k : Nat) (a : Int), k ≤ m ∧ gg = k ∧ s3 = .int .i64 a ∧ s4 = .int .i64 ((k : Int) - 1) ∧ a = decGo ((l.take 17).drop k) ∧ wx = w)
  case atStart => exact ⟨m, 0, Nat.le_refl _, rfl, rfl, by go_num, by rw [List.drop_of_length_le (by rw [HM.out]; exact Nat.le_refl _)]; rfl, rfl⟩
  case round =>
    obtain ⟨k, a, hk, rfl, rfl, rfl, ha, rfl⟩ := hrel
    have hbd := decGo_bd ((l.take 17).drop gk) fun c hc => HD.out c (List.mem_of_mem_take (List.mem_of_mem_drop hc))
    rw [← ha] at hbd
    have HA := Lib.hid ha
    clear ha
    rcases Nat.eq_zero_or_pos gk with h0 | h0
    · subst h0
      have ha := HA.out
      rw [List.drop_zero] at ha
      have w1 : wrap64 (a + 1) = a + 1 := wrap64_id _ (by omega) (by omega)
      have hq : (a + 1).tdiv 2 = R := by rw [← HR.out, decsM, ha]
      have hq2 : wrap64 R = R := wrap64_id _ (by rw [← hq, Int.tdiv_eq_ediv_of_nonneg (by omega)]; omega) (by rw [← hq, Int.tdiv_eq_ediv_of_nonneg (by omega)]; omega)
      clear ha
      go_wp2
      go_ret
      exact ⟨by show Ending.returned (.int .i64 (wrap64 R)) = _; rw [hq2], rfl⟩
    · obtain ⟨j, rfl⟩ : ∃ j, gk = j + 1 := ⟨gk - 1, by omega⟩
      have hjl : j < (l.take 17).length := by rw [HM.out]; omega
      have hjl2 : j < l.length := by rw [HN.out]; omega
      obtain ⟨c, hc⟩ : ∃ c, l[j] = c := ⟨_, rfl⟩
      have hget : s[j]'(by omega) = c := by
        have := HGET.out j (by omega)
        rw [List.getElem?_eq_getElem hjl2, hc] at this
        exact (Option.some.inj this).symm
      have hcd := HD.out c (by rw [← hc]; exact List.getElem_mem _)
      have s1 := u8_sub48 c hcd.1
      have hdr : decGo ((l.take 17).drop j) = (a + 131072 * ((c.toNat : Int) - 48)).tdiv 10 := by
        rw [List.drop_eq_getElem_cons hjl, decGo, ← HA.out]
        congr 2
        rw [List.getElem_take, hc]
      have i1 : (0 : Int) ≤ ((j + 1 : Nat) : Int) - 1 := by omega
      have i2 : ((j + 1 : Nat) : Int) - 1 < (n : Int) := by omega
      have i3 : (((j + 1 : Nat) : Int) - 1).toNat = j := by omega
      obtain ⟨dg, hdg⟩ : ∃ dg, (c.toNat : Int) - 48 = dg := ⟨_, rfl⟩
      have hdgb : 0 ≤ dg ∧ dg ≤ 9 := by omega
      have s2 : ((c.toNat : Int) - 48) % 256 = dg := by omega
      rw [hdg] at s1 hdr
      have w1 : wrap64 dg = dg := wrap64_id _ (by omega) (by omega)
      have w2 : wrap64 (131072 * dg) = 131072 * dg := wrap64_id _ (by omega) (by omega)
      have w3 : wrap64 (a + 131072 * dg) = a + 131072 * dg := wrap64_id _ (by omega) (by omega)
      obtain ⟨q, hq⟩ : ∃ q, (a + 131072 * dg).tdiv 10 = q := ⟨_, rfl⟩
      have hqb : 0 ≤ q ∧ q ≤ 200000 := by
        rw [← hq, Int.tdiv_eq_ediv_of_nonneg (by omega)]
        omega
      have w4 : wrap64 q = q := wrap64_id _ (by omega) (by omega)
      have w5 : wrap64 (((j + 1 : Nat) : Int) - 1 - 1) = ((j + 1 : Nat) : Int) - 1 - 1 := wrap64_id _ (by omega) (by omega)
      rw [hq] at hdr
      have HDR := Lib.hid hdr
      clear hc hcd hjl hjl2 hdr hdgb hqb hbd hdg
      go_wp2
      go_roundg j
      case measure => omega
      case rel => exact ⟨j, q, by omega, rfl, by rw [w4], by go_num, HDR.out.symm, rfl⟩
set_option maxRecDepth 100000 in
set_option maxHeartbeats 4000000 in
theorem sDecimals_any (l : List UInt8) (hd : Digs l) (hl : l.length ≤ 1000000000) (w : World) : Calls Try.prog 96 #[(.string ⟨l.toArray⟩)] w fun e w' => e = .returned (.tuple #[.int .i64 (decsM l), .int .i64 0]) ∧ Ext w w' := by
  have H1 := Lib.hid (sdigits_any l hd w)
  have H2 := Lib.hid (fun w => sdecimals_any l hd hl w)
  generalize (⟨l.toArray⟩ : ByteArray) = s at *
  generalize decsM l = r at *
  clear hd hl
  go_enter Try.func96, Try.ntmps96
  go_wp2_with fail
  with_reducible refine Calls.mono H1.out ?_
  rintro e w2 ⟨rfl, hex⟩
  have HX := Lib.hid hex
  clear hex
  go_wp2_with fail
  with_reducible refine Calls.mono (H2.out _) ?_
  rintro e w3 ⟨rfl, rfl⟩
  go_wp2
  exact bodyPost_ret (v := .tuple #[.int .i64 r, .int .i64 0]) (by unfold results; go_simp) rfl ⟨rfl, HX.out⟩

end Go.Proofs.Yticljfpippbkkaa

/-
  Digits with a point among them, behind a scanner. Conditions: those that each theorem names.
-/
namespace Go.Proofs.Yticljfpippbkkaa
open Go.RowKit Go.Sp
variable {W w w' : World} {A : HProp} {bx bs bt N : Nat} {L : List Tok} {S : TabS}

theorem encode_asc : ∀ n : Nat, n < 128 → Utf8.encode (n : Int) = ⟨#[UInt8.ofNat n]⟩ := by decide +kernel
theorem encode_byte (c : UInt8) (h : c.toNat < 128) : Utf8.encode (c.toNat : Int) = ⟨#[c]⟩ := by
  rw [encode_asc c.toNat h]
  simp
theorem cat_lists (a b : List UInt8) : (⟨a.toArray⟩ : ByteArray) ++ ⟨b.toArray⟩ = ⟨(a ++ b).toArray⟩ := by
  apply ByteArray.ext
  simp
theorem digit_10 {x : Tok} {d : Int} (h : digitM x 10 = some d) : 48 ≤ x.chr.toNat ∧ x.chr.toNat ≤ 57 := by
  unfold digitM at h
  split at h
  · omega
  · rw [if_neg (by simp)] at h; cases h
theorem frac_digs : ∀ l : List Tok, Digs (fracGo l).1
  | [] => fun c h => by simp [fracGo] at h
  | x :: l => by
    unfold fracGo
    cases hd : digitM x 10 with
    | none => intro c h; simp at h
    | some d =>
      intro c h
      simp only [List.mem_cons] at h
      rcases h with rfl | h
      · exact digit_10 hd
      · exact frac_digs l c h
theorem digits_cnt (b : Int) : ∀ (l : List Tok) (n k : Int), 0 ≤ k → k ≤ (digitsM b l n k).2.1 ∧ (digitsM b l n k).2.1 ≤ k + l.length
  | [], n, k, _ => by simp [digitsM]
  | x :: l, n, k, hk => by
    unfold digitsM
    cases digitM x b with
    | none => simp only [List.length_cons]; omega
    | some d =>
      have := digits_cnt b l (minM (n * b + d) 1099511627776) (k + 1) (by omega)
      simp only [List.length_cons]; omega

theorem ScAt.swap3 {P Q R B : HProp} (h : ScAt W (P * (Q * (R * B))) bx bs bt L N S w) : ScAt W (Q * (R * (P * B))) bx bs bt L N S w := h.of_eq (by ac_rfl)
set_option maxRecDepth 100000 in
set_option maxHeartbeats 8000000 in
theorem decimal_any (hl : L.length ≤ 2000000) (h : ScAt W A bx bs bt L N S w) :
    Calls Try.prog 77 #[.pointer (some ⟨bx, 0, none⟩)] w fun e w' => e = .returned (.tuple #[(decimalM L).1.val, .bool (decimalM L).2.1]) ∧ ScAt W A bx bs bt (decimalM L).2.2 N S w' := by
  obtain ⟨R, hR⟩ : ∃ R, decimalM L = R := ⟨_, rfl⟩
  rw [hR]
  have h1 := (h.alloc (facO ⟨0, 0, false⟩)).alloc (facO ⟨0, 0, false⟩)
  obtain ⟨b1, hb1⟩ : ∃ b1, w.heap.size = b1 := ⟨_, rfl⟩
  obtain ⟨b2, hb2⟩ : ∃ b2, (w.alloc (facO ⟨0, 0, false⟩)).heap.size = b2 := ⟨_, rfl⟩
  have hb3 : b1 + 1 = b2 := by rw [← hb1, ← hb2]; simp
  obtain ⟨w1, hw1⟩ : ∃ w1, (w.alloc (facO ⟨0, 0, false⟩)).alloc (facO ⟨0, 0, false⟩) = w1 := ⟨_, rfl⟩
  rw [hw1, hb1, hb2] at h1
  have HD := Lib.hid (digits_any 10 (.inr (.inl rfl)) hl h1)
  have hdl := digits_len 10 L 0 0
  have hcn := digits_cnt 10 L 0 0 (by omega)
  unfold decimalM at hR
  obtain ⟨⟨n, k, l1⟩, hd⟩ : ∃ d, digitsM 10 L 0 0 = d := ⟨_, rfl⟩
  rw [hd] at hR HD hdl hcn
  simp only at hR hdl hcn
  have HR := Lib.hid hR
  have HW1 := Lib.hid hw1
  clear h h1 hd hb2 hw1 hR
  go_enter Try.func77, Try.ntmps77
  go_upto_region 2 with fail
  rw [show (w.alloc (.cells #[.int .i64 0, .int .i64 0, .bool false] 119)).alloc (.cells #[.int .i64 0, .int .i64 0, .bool false] 119) = w1 from HW1.out]
  clear HW1 hb1 hb3
  go_wp2_with fail
  with_reducible refine Calls.mono HD.out ?_
  rintro e w2 ⟨rfl, h2⟩
  clear HD
  obtain ⟨Y, h3, back⟩ := h2.focus
  have hs := h3.asc
  have r0 := hs.cell (i := 0) rfl
  have f0 := hs.free (i := 0)
  have lr := hs.lt
  have h4 := back (pts b2 (facO ⟨n, 0, false⟩) * (pts b1 (facO ⟨0, 0, false⟩) * A)) _ ((show Sat W (pts b2 (facO ⟨n, 0, false⟩) * _) _ from hs.set (i := 0) (v := .int .i64 n)).asc')
  have H4 := Lib.hid h4
  clear h2 h3 back hs h4
  go_upto_region 4 with fail
  clear r0 f0 lr
  obtain ⟨w3, hw3⟩ : ∃ w3, w2.setCell ⟨b2, 0, none⟩ (.int .i64 n) = w3 := ⟨_, rfl⟩
  rw [hw3] at H4
  rw [hw3]
  clear hw3
  obtain ⟨c0, -, lb⟩ := H4.out.cells
  have hm1 := fun n => m_next n bs w3
  have HN1 := Lib.hid (scnext_any H4.out)
  go_wp2_with fail
  with_reducible refine Calls.mono HN1.out ?_
  rintro e w2 ⟨rfl, h2⟩
  clear c0 lb hm1 HN1 H4
  have hk0 : wrap64 (k + 0) = k := by rw [Int.add_zero]; exact wrap64_id _ (by omega) (by omega)
  cases l1 with
  | nil =>
    go_upto_region 17 with fail
    obtain ⟨w3, hw3⟩ : ∃ w3, w2.alloc (Tok.box tok0) = w3 := ⟨_, rfl⟩
    have H2 := Lib.hid (h2.ext ((Ext.refl _).alloc (o := Tok.box tok0)))
    rw [hw3] at H2
    rw [show w2.alloc (.cells #[.int .i64 0, .int .u8 0, .string ⟨#[]⟩] 28) = w3 from hw3]
    clear h2 hw3
    obtain ⟨Y, h8, back⟩ := H2.out.focus
    have BACK := Lib.hid back
    have hs := h8.of_eq (show _ = pts b1 (facO ⟨0, 0, false⟩) * (pts b2 (facO ⟨n, 0, false⟩) * (A * Y)) by ac_rfl)
    have r0 := hs.cell (i := 0) rfl
    have r1 := hs.cell (i := 1) rfl
    have r2 := hs.cell (i := 2) rfl
    have k0 := hs.r.cell (i := 0) rfl
    have k1 := hs.r.cell (i := 1) rfl
    have k2 := hs.r.cell (i := 2) rfl
    have f0 := hs.free (i := 0)
    have f1 := hs.free (i := 1)
    have f2 := hs.free (i := 2)
    have lr := hs.lt
    have lk := hs.r.lt
    have hs2 := ((hs.set (i := 0) (v := .int .i64 n)).set (i := 1) (v := .int .i64 0)).set (i := 2) (v := .bool false)
    have HS2 := Lib.hid (show Sat W (pts b1 (facO ⟨n, 0, false⟩) * _) _ from hs2)
    clear h8 back hs hs2 H2
    go_wp2
    refine bodyPost_ret (v := .tuple #[.agg #[.int .i64 n, .int .i64 0, .bool false], .bool (decide (0 < k))]) (by unfold results; go_simp) rfl ⟨?_, ?_⟩
    rotate_left 1
    · have hr := HR.out
      subst hr
      have hfin := ((BACK.out _ _ (HS2.out.of_eq (show _ = (pts b1 (facO ⟨n, 0, false⟩) * (pts b2 (facO ⟨n, 0, false⟩) * (A))) * Y by ac_rfl))).less).less
      first
        | exact hfin
        | exact hfin.less
    · have hr := HR.out
      subst hr
      rfl
  | cons x l2 =>
    simp only [List.headD_cons, List.isEmpty_cons, Bool.not_false, List.tail_cons, List.length_cons] at *
    go_upto_region 5 with fail
    obtain ⟨w3, hw3⟩ : ∃ w3, w2.alloc x.box = w3 := ⟨_, rfl⟩
    obtain ⟨bk, hbk⟩ : ∃ bk, w2.heap.size = bk := ⟨_, rfl⟩
    have hx3 := h2.alloc x.box
    rw [hw3, hbk] at hx3
    rw [show w2.alloc (.cells #[.int .i64 x.cat, .int .u8 x.chr.toNat, .string x.name] 28) = w3 from hw3, hbk]
    have d0 := hx3.sat.cell (i := 0) rfl
    have d1 := hx3.sat.cell (i := 1) rfl
    have d2 := hx3.sat.cell (i := 2) rfl
    have ld := hx3.sat.lt
    have HX3 := Lib.hid hx3
    clear hx3 hw3 hbk h2
    obtain ⟨P, hP⟩ : ∃ P, otherB x 46 = P := ⟨_, rfl⟩
    have HP := Lib.hid hP
    obtain ⟨Q, hQ⟩ : ∃ Q, otherB x 44 = Q := ⟨_, rfl⟩
    have HQ := Lib.hid hQ
    clear hP hQ
    go_wp2_with fail
    with_reducible refine Calls.mono (other_at x 46 46 rfl) ?_
    rintro e w4 ⟨rfl, hex⟩
    rw [HP.out]
    have HX4 := Lib.hid (HX3.out.ext hex)
    have e0 := hex.cell d0
    have e1 := hex.cell d1
    have e2 := hex.cell d2
    have le := hex.lt ld
    clear hex HX3 d0 d1 d2 ld
    cases P with
    | true =>
      clear e0 e1 e2 le
      have H6 := Lib.hid (HX4.out.swap3)
      obtain ⟨⟨ft, fl⟩, hfr⟩ : ∃ f, fracGo l2 = f := ⟨_, rfl⟩
      have HFR := Lib.hid hfr
      have hfd := frac_digs l2
      have hfl := frac_len l2
      rw [hfr] at hfd hfl
      have hr := HR.out
      rw [hfr] at hr
      simp only at hr hfl
      rw [if_pos (by rw [HP.out]; first | exact .inl rfl | (rw [HQ.out]; exact .inr rfl))] at hr
      have HR5 := Lib.hid hr
      have HFD := Lib.hid hfd
      clear hr HR hfr HX4 hfd
      go_upto_block 0 with fail
      go_cut [9] from 10 to 66 (fun s9 wx => s9 = (.string ⟨ft.toArray⟩) ∧ ScAt W (pts b2 (facO ⟨n, 0, false⟩) * (pts b1 (facO ⟨0, 0, false⟩) * (pts bk x.box * A))) bx bs bt fl N S wx)
      case first =>
        go_wp2_with fail
        go_loopg [9] (l2.length + 1) (fun gg s9 wx => ∃ (T : List UInt8) (L' : List Tok), T.length + L'.length ≤ l2.length ∧ s9 = (.string ⟨T.toArray⟩) ∧ gg = L'.length + 1 ∧ T ++ (fracGo L').1 = ft ∧ (fracGo L').2 = fl ∧ ScAt W (pts b2 (facO ⟨n, 0, false⟩) * (pts b1 (facO ⟨0, 0, false⟩) * (pts bk x.box * A))) bx bs bt L' N S wx)
        case atStart => exact ⟨[], l2, by simp, rfl, rfl, by rw [HFR.out]; rfl, by rw [HFR.out], H6.out⟩
        case round =>
          obtain ⟨T, L', hTl, rfl, rfl, hT1, hT2, hx⟩ := hrel
          have HT1 := Lib.hid hT1
          have HT2 := Lib.hid hT2
          have HX := Lib.hid hx
          clear hT1 hT2 hx H6
          obtain ⟨c0, -, lb⟩ := HX.out.cells
          have hm1 := fun n => m_next n bs wr
          have HN1 := Lib.hid (scnext_any HX.out)
          have hsz : (⟨T.toArray⟩ : ByteArray).size = T.length := by simp [ByteArray.size]
          have HCAT := Lib.hid (fun c : UInt8 => cat_lists T [c])
          generalize hs : (⟨T.toArray⟩ : ByteArray) = s at *
          have HS := Lib.hid hs
          clear hs
          go_wp2_with fail
          with_reducible refine Calls.mono HN1.out ?_
          rintro e w7 ⟨rfl, h7⟩
          clear c0 lb hm1 HN1 HX
          cases L' with
          | nil =>
            have H2 := Lib.hid (h7.ext ((Ext.refl _).alloc (o := tok0.box)))
            clear h7
            have h1 := HT1.out
            have h2 := HT2.out
            rw [fracGo] at h1 h2
            simp only [List.append_nil] at h1 h2
            subst h1
            subst h2
            go_wp2
            go_meet
            exact ⟨by rw [HS.out], H2.out⟩
          | cons y L' =>
            simp only [List.headD_cons, List.isEmpty_cons, Bool.not_false, List.tail_cons, List.length_cons] at *
            have HX2 := Lib.hid (h7.ext ((Ext.refl _).alloc (o := y.box)))
            clear h7
            obtain ⟨D, hD⟩ : ∃ D, digitM y 10 = D := ⟨_, rfl⟩
            have HDG := Lib.hid hD
            clear hD
            go_wp2_with fail
            with_reducible refine Calls.mono (digit_any y 10) ?_
            rintro e w8 ⟨rfl, hex⟩
            rw [HDG.out]
            have hn := (Sat.start w7).alloc y.box
            have d0 := hex.cell (hn.cell (i := 0) rfl)
            have d1 := hex.cell (hn.cell (i := 1) rfl)
            have d2 := hex.cell (hn.cell (i := 2) rfl)
            have HX3 := Lib.hid (HX2.out.ext hex)
            clear hn hex HX2
            cases D with
            | some d =>
              have hdd := digit_10 HDG.out
              have he := encode_byte y.chr (by omega)
              have hcat := HCAT.out y.chr
              rw [show (⟨[y.chr].toArray⟩ : ByteArray) = ⟨#[y.chr]⟩ from rfl] at hcat
              have hsz2 : (⟨#[y.chr]⟩ : ByteArray).size = 1 := rfl
              have h1 := HT1.out
              have h2 := HT2.out
              rw [fracGo, HDG.out] at h1 h2
              simp only at h1 h2
              have H1 := Lib.hid (show (T ++ [y.chr]) ++ (fracGo L').1 = ft by rw [← h1]; simp)
              have H2 := Lib.hid h2
              have HS2 := Lib.hid hcat
              obtain ⟨s2, hs2⟩ : ∃ s2, (⟨(T ++ [y.chr]).toArray⟩ : ByteArray) = s2 := ⟨_, rfl⟩
              rw [hs2] at hcat
              have HS3 := Lib.hid hs2
              clear h1 h2 hs2 d2
              go_wp2
              go_roundg (L'.length + 1)
              case measure => omega
              case rel => exact ⟨T ++ [y.chr], L', by simp only [List.length_append, List.length_singleton]; omega, by rw [HS3.out], rfl, H1.out, H2.out, HX3.out⟩
            | none =>
              have h1 := HT1.out
              have h2 := HT2.out
              rw [fracGo, HDG.out] at h1 h2
              simp only [List.append_nil] at h1 h2
              subst h1
              subst h2
              simp only [Option.isSome_none, Option.getD_none]
              go_upto_region 11 with fail
              have HB := Lib.hid (scback_any y (by omega) HX3.out.drew)
              obtain ⟨W9, hW9⟩ : ∃ W9, w8.drew = W9 := ⟨_, rfl⟩
              rw [hW9] at HB
              obtain ⟨e0, -, -⟩ := HX3.out.drew.cells
              rw [hW9] at e0
              have e1 := (show w8.drew.cell? _ = _ from d0)
              have e2 := (show w8.drew.cell? _ = _ from d1)
              have e3 := (show w8.drew.cell? _ = _ from d2)
              rw [hW9] at e1 e2 e3
              have hm2 := fun n => m_back n bs W9
              clear d0 d1 d2 HX3
              refine wp_region_tail (fun w' => w' = W9) 5 (by kernel_rfl) (by kernel_rfl) hW9 ?_
              clear hW9
              simp only [List.take_succ_cons, List.take_zero, List.drop_succ_cons, List.drop_zero]
              iterate 5
                with_reducible refine wpQuiet_step ?_
                intro K hK
                go_simp
                first
                  | (with_reducible refine hK _ ?_
                     clear hK K)
                  | (refine Exists.intro _ ⟨fun w9 hw9 => ?_, ?_⟩
                     rotate_left 1
                     with_reducible refine hK _ ?_
                     clear hK K
                     rotate_left 1
                     · subst hw9; go_simp; try with_reducible rfl)
              refine wpQuiet_nil ?_
              rintro w17 rfl
              go_wp2_with fail
              with_reducible refine Calls.mono HB.out ?_
              rintro e w4 ⟨rfl, h4⟩
              have HX4 := Lib.hid h4
              clear h4 HB e0 e1 e2 e3 hm2
              go_wp2
              go_meet
              exact ⟨by rw [HS.out], HX4.out⟩
      case rest =>
        obtain ⟨rfl, hx⟩ := hcut
        have HSD := Lib.hid (fun w => sDecimals_any ft HFD.out (by omega) w)
        have HX := Lib.hid hx
        have hsz : (⟨ft.toArray⟩ : ByteArray).size = ft.length := by simp [ByteArray.size]
        have hk1 : wrap64 (k + (ft.length : Int)) = k + (ft.length : Int) := wrap64_id _ (by omega) (by omega)
        generalize (⟨ft.toArray⟩ : ByteArray) = s at *
        clear hx
        go_wp2_with fail
        with_reducible refine Calls.mono (HSD.out _) ?_
        rintro e w9 ⟨rfl, hex⟩
        obtain ⟨fv, hfv⟩ : ∃ fv, decsM ft = fv := ⟨_, rfl⟩
        rw [hfv]
        have hx9 := HX.out.ext hex
        obtain ⟨Y, h3, back⟩ := hx9.focus
        have hs := h3.asc
        have r1 := hs.cell (i := 1) rfl
        have f1 := hs.free (i := 1)
        have lr := hs.lt
        have h4 := back (pts b2 (facO ⟨n, fv, false⟩) * (pts b1 (facO ⟨0, 0, false⟩) * (pts bk x.box * A))) _ ((show Sat W (pts b2 (facO ⟨n, fv, false⟩) * _) _ from hs.set (i := 1) (v := .int .i64 fv)).asc')
        have H5 := Lib.hid h4
        have hr := HR5.out
        rw [hfv] at hr
        have HR := Lib.hid hr
        clear hex hx9 h3 back hs h4 hr HR5 HX HSD
        go_upto_region 17 with fail
        clear r1 f1 lr
        obtain ⟨w10, hw10⟩ : ∃ w10, w9.setCell ⟨b2, 1, none⟩ (.int .i64 fv) = w10 := ⟨_, rfl⟩
        rw [hw10] at H5
        rw [hw10]
        clear hw10
        obtain ⟨Y, h8, back⟩ := H5.out.focus
        have BACK := Lib.hid back
        have hs := h8.of_eq (show _ = pts b1 (facO ⟨0, 0, false⟩) * (pts b2 (facO ⟨n, fv, false⟩) * ((pts bk x.box * A) * Y)) by ac_rfl)
        have r0 := hs.cell (i := 0) rfl
        have r1 := hs.cell (i := 1) rfl
        have r2 := hs.cell (i := 2) rfl
        have k0 := hs.r.cell (i := 0) rfl
        have k1 := hs.r.cell (i := 1) rfl
        have k2 := hs.r.cell (i := 2) rfl
        have f0 := hs.free (i := 0)
        have f1 := hs.free (i := 1)
        have f2 := hs.free (i := 2)
        have lr := hs.lt
        have lk := hs.r.lt
        have hs2 := ((hs.set (i := 0) (v := .int .i64 n)).set (i := 1) (v := .int .i64 fv)).set (i := 2) (v := .bool false)
        have HS2 := Lib.hid (show Sat W (pts b1 (facO ⟨n, fv, false⟩) * _) _ from hs2)
        clear h8 back hs hs2 H5
        go_wp2
        refine bodyPost_ret (v := .tuple #[.agg #[.int .i64 n, .int .i64 fv, .bool false], .bool (decide (0 < k + (ft.length : Int)))]) (by unfold results; go_simp) rfl ⟨?_, ?_⟩
        rotate_left 1
        · have hr := HR.out
          subst hr
          have hfin := ((BACK.out _ _ (HS2.out.of_eq (show _ = (pts b1 (facO ⟨n, fv, false⟩) * (pts b2 (facO ⟨n, fv, false⟩) * ((pts bk x.box * A)))) * Y by ac_rfl))).less).less
          first
            | exact hfin
            | exact hfin.less
        · have hr := HR.out
          subst hr
          rfl
    | false =>
      go_wp2_with fail
      with_reducible refine Calls.mono (other_at x 44 44 rfl) ?_
      rintro e w5 ⟨rfl, hex⟩
      rw [HQ.out]
      have HX3 := Lib.hid (HX4.out.ext hex)
      have d0 := hex.cell e0
      have d1 := hex.cell e1
      have d2 := hex.cell e2
      clear hex HX4 e0 e1 e2 le
      cases Q with
      | true =>
        clear d0 d1 d2
        have H6 := Lib.hid (HX3.out.swap3)
        obtain ⟨⟨ft, fl⟩, hfr⟩ : ∃ f, fracGo l2 = f := ⟨_, rfl⟩
        have HFR := Lib.hid hfr
        have hfd := frac_digs l2
        have hfl := frac_len l2
        rw [hfr] at hfd hfl
        have hr := HR.out
        rw [hfr] at hr
        simp only at hr hfl
        rw [if_pos (by rw [HP.out]; first | exact .inl rfl | (rw [HQ.out]; exact .inr rfl))] at hr
        have HR5 := Lib.hid hr
        have HFD := Lib.hid hfd
        clear hr HR hfr HX3 hfd
        go_upto_block 0 with fail
        go_cut [9] from 10 to 66 (fun s9 wx => s9 = (.string ⟨ft.toArray⟩) ∧ ScAt W (pts b2 (facO ⟨n, 0, false⟩) * (pts b1 (facO ⟨0, 0, false⟩) * (pts bk x.box * A))) bx bs bt fl N S wx)
        case first =>
          go_wp2_with fail
          go_loopg [9] (l2.length + 1) (fun gg s9 wx => ∃ (T : List UInt8) (L' : List Tok), T.length + L'.length ≤ l2.length ∧ s9 = (.string ⟨T.toArray⟩) ∧ gg = L'.length + 1 ∧ T ++ (fracGo L').1 = ft ∧ (fracGo L').2 = fl ∧ ScAt W (pts b2 (facO ⟨n, 0, false⟩) * (pts b1 (facO ⟨0, 0, false⟩) * (pts bk x.box * A))) bx bs bt L' N S wx)
          case atStart => exact ⟨[], l2, by simp, rfl, rfl, by rw [HFR.out]; rfl, by rw [HFR.out], H6.out⟩
          case round =>
            obtain ⟨T, L', hTl, rfl, rfl, hT1, hT2, hx⟩ := hrel
            have HT1 := Lib.hid hT1
            have HT2 := Lib.hid hT2
            have HX := Lib.hid hx
            clear hT1 hT2 hx H6
            obtain ⟨c0, -, lb⟩ := HX.out.cells
            have hm1 := fun n => m_next n bs wr
            have HN1 := Lib.hid (scnext_any HX.out)
            have hsz : (⟨T.toArray⟩ : ByteArray).size = T.length := by simp [ByteArray.size]
            have HCAT := Lib.hid (fun c : UInt8 => cat_lists T [c])
            generalize hs : (⟨T.toArray⟩ : ByteArray) = s at *
            have HS := Lib.hid hs
            clear hs
            go_wp2_with fail
            with_reducible refine Calls.mono HN1.out ?_
            rintro e w7 ⟨rfl, h7⟩
            clear c0 lb hm1 HN1 HX
            cases L' with
            | nil =>
              have H2 := Lib.hid (h7.ext ((Ext.refl _).alloc (o := tok0.box)))
              clear h7
              have h1 := HT1.out
              have h2 := HT2.out
              rw [fracGo] at h1 h2
              simp only [List.append_nil] at h1 h2
              subst h1
              subst h2
              go_wp2
              go_meet
              exact ⟨by rw [HS.out], H2.out⟩
            | cons y L' =>
              simp only [List.headD_cons, List.isEmpty_cons, Bool.not_false, List.tail_cons, List.length_cons] at *
              have HX2 := Lib.hid (h7.ext ((Ext.refl _).alloc (o := y.box)))
              clear h7
              obtain ⟨D, hD⟩ : ∃ D, digitM y 10 = D := ⟨_, rfl⟩
              have HDG := Lib.hid hD
              clear hD
              go_wp2_with fail
              with_reducible refine Calls.mono (digit_any y 10) ?_
              rintro e w8 ⟨rfl, hex⟩
              rw [HDG.out]
              have hn := (Sat.start w7).alloc y.box
              have d0 := hex.cell (hn.cell (i := 0) rfl)
              have d1 := hex.cell (hn.cell (i := 1) rfl)
              have d2 := hex.cell (hn.cell (i := 2) rfl)
              have HX3 := Lib.hid (HX2.out.ext hex)
              clear hn hex HX2
              cases D with
              | some d =>
                have hdd := digit_10 HDG.out
                have he := encode_byte y.chr (by omega)
                have hcat := HCAT.out y.chr
                rw [show (⟨[y.chr].toArray⟩ : ByteArray) = ⟨#[y.chr]⟩ from rfl] at hcat
                have hsz2 : (⟨#[y.chr]⟩ : ByteArray).size = 1 := rfl
                have h1 := HT1.out
                have h2 := HT2.out
                rw [fracGo, HDG.out] at h1 h2
                simp only at h1 h2
                have H1 := Lib.hid (show (T ++ [y.chr]) ++ (fracGo L').1 = ft by rw [← h1]; simp)
                have H2 := Lib.hid h2
                have HS2 := Lib.hid hcat
                obtain ⟨s2, hs2⟩ : ∃ s2, (⟨(T ++ [y.chr]).toArray⟩ : ByteArray) = s2 := ⟨_, rfl⟩
                rw [hs2] at hcat
                have HS3 := Lib.hid hs2
                clear h1 h2 hs2 d2
                go_wp2
                go_roundg (L'.length + 1)
                case measure => omega
                case rel => exact ⟨T ++ [y.chr], L', by simp only [List.length_append, List.length_singleton]; omega, by rw [HS3.out], rfl, H1.out, H2.out, HX3.out⟩
              | none =>
                have h1 := HT1.out
                have h2 := HT2.out
                rw [fracGo, HDG.out] at h1 h2
                simp only [List.append_nil] at h1 h2
                subst h1
                subst h2
                simp only [Option.isSome_none, Option.getD_none]
                go_upto_region 11 with fail
                have HB := Lib.hid (scback_any y (by omega) HX3.out.drew)
                obtain ⟨W9, hW9⟩ : ∃ W9, w8.drew = W9 := ⟨_, rfl⟩
                rw [hW9] at HB
                obtain ⟨e0, -, -⟩ := HX3.out.drew.cells
                rw [hW9] at e0
                have e1 := (show w8.drew.cell? _ = _ from d0)
                have e2 := (show w8.drew.cell? _ = _ from d1)
                have e3 := (show w8.drew.cell? _ = _ from d2)
                rw [hW9] at e1 e2 e3
                have hm2 := fun n => m_back n bs W9
                clear d0 d1 d2 HX3
                refine wp_region_tail (fun w' => w' = W9) 5 (by kernel_rfl) (by kernel_rfl) hW9 ?_
                clear hW9
                simp only [List.take_succ_cons, List.take_zero, List.drop_succ_cons, List.drop_zero]
                iterate 5
                  with_reducible refine wpQuiet_step ?_
                  intro K hK
                  go_simp
                  first
                    | (with_reducible refine hK _ ?_
                       clear hK K)
                    | (refine Exists.intro _ ⟨fun w9 hw9 => ?_, ?_⟩
                       rotate_left 1
                       with_reducible refine hK _ ?_
                       clear hK K
                       rotate_left 1
                       · subst hw9; go_simp; try with_reducible rfl)
                refine wpQuiet_nil ?_
                rintro w17 rfl
                go_wp2_with fail
                with_reducible refine Calls.mono HB.out ?_
                rintro e w4 ⟨rfl, h4⟩
                have HX4 := Lib.hid h4
                clear h4 HB e0 e1 e2 e3 hm2
                go_wp2
                go_meet
                exact ⟨by rw [HS.out], HX4.out⟩
        case rest =>
          obtain ⟨rfl, hx⟩ := hcut
          have HSD := Lib.hid (fun w => sDecimals_any ft HFD.out (by omega) w)
          have HX := Lib.hid hx
          have hsz : (⟨ft.toArray⟩ : ByteArray).size = ft.length := by simp [ByteArray.size]
          have hk1 : wrap64 (k + (ft.length : Int)) = k + (ft.length : Int) := wrap64_id _ (by omega) (by omega)
          generalize (⟨ft.toArray⟩ : ByteArray) = s at *
          clear hx
          go_wp2_with fail
          with_reducible refine Calls.mono (HSD.out _) ?_
          rintro e w9 ⟨rfl, hex⟩
          obtain ⟨fv, hfv⟩ : ∃ fv, decsM ft = fv := ⟨_, rfl⟩
          rw [hfv]
          have hx9 := HX.out.ext hex
          obtain ⟨Y, h3, back⟩ := hx9.focus
          have hs := h3.asc
          have r1 := hs.cell (i := 1) rfl
          have f1 := hs.free (i := 1)
          have lr := hs.lt
          have h4 := back (pts b2 (facO ⟨n, fv, false⟩) * (pts b1 (facO ⟨0, 0, false⟩) * (pts bk x.box * A))) _ ((show Sat W (pts b2 (facO ⟨n, fv, false⟩) * _) _ from hs.set (i := 1) (v := .int .i64 fv)).asc')
          have H5 := Lib.hid h4
          have hr := HR5.out
          rw [hfv] at hr
          have HR := Lib.hid hr
          clear hex hx9 h3 back hs h4 hr HR5 HX HSD
          go_upto_region 17 with fail
          clear r1 f1 lr
          obtain ⟨w10, hw10⟩ : ∃ w10, w9.setCell ⟨b2, 1, none⟩ (.int .i64 fv) = w10 := ⟨_, rfl⟩
          rw [hw10] at H5
          rw [hw10]
          clear hw10
          obtain ⟨Y, h8, back⟩ := H5.out.focus
          have BACK := Lib.hid back
          have hs := h8.of_eq (show _ = pts b1 (facO ⟨0, 0, false⟩) * (pts b2 (facO ⟨n, fv, false⟩) * ((pts bk x.box * A) * Y)) by ac_rfl)
          have r0 := hs.cell (i := 0) rfl
          have r1 := hs.cell (i := 1) rfl
          have r2 := hs.cell (i := 2) rfl
          have k0 := hs.r.cell (i := 0) rfl
          have k1 := hs.r.cell (i := 1) rfl
          have k2 := hs.r.cell (i := 2) rfl
          have f0 := hs.free (i := 0)
          have f1 := hs.free (i := 1)
          have f2 := hs.free (i := 2)
          have lr := hs.lt
          have lk := hs.r.lt
          have hs2 := ((hs.set (i := 0) (v := .int .i64 n)).set (i := 1) (v := .int .i64 fv)).set (i := 2) (v := .bool false)
          have HS2 := Lib.hid (show Sat W (pts b1 (facO ⟨n, fv, false⟩) * _) _ from hs2)
          clear h8 back hs hs2 H5
          go_wp2
          refine bodyPost_ret (v := .tuple #[.agg #[.int .i64 n, .int .i64 fv, .bool false], .bool (decide (0 < k + (ft.length : Int)))]) (by unfold results; go_simp) rfl ⟨?_, ?_⟩
          rotate_left 1
          · have hr := HR.out
            subst hr
            have hfin := ((BACK.out _ _ (HS2.out.of_eq (show _ = (pts b1 (facO ⟨n, fv, false⟩) * (pts b2 (facO ⟨n, fv, false⟩) * ((pts bk x.box * A)))) * Y by ac_rfl))).less).less
            first
              | exact hfin
              | exact hfin.less
          · have hr := HR.out
            subst hr
            rfl
      | false =>
        have hr := HR.out
        rw [if_neg (by rw [HP.out, HQ.out]; simp)] at hr
        have HR5 := Lib.hid hr
        clear hr HR
        go_upto_region 16 with fail
        have HB := Lib.hid (scback_any x (by omega) HX3.out.drew)
        obtain ⟨W9, hW9⟩ : ∃ W9, w5.drew = W9 := ⟨_, rfl⟩
        rw [hW9] at HB
        obtain ⟨e0, -, -⟩ := HX3.out.drew.cells
        rw [hW9] at e0
        have e1 := (show w5.drew.cell? _ = _ from d0)
        have e2 := (show w5.drew.cell? _ = _ from d1)
        have e3 := (show w5.drew.cell? _ = _ from d2)
        rw [hW9] at e1 e2 e3
        have hm2 := fun n => m_back n bs W9
        clear d0 d1 d2 HX3
        refine wp_region_tail (fun w' => w' = W9) 5 (by kernel_rfl) (by kernel_rfl) hW9 ?_
        clear hW9
        simp only [List.take_succ_cons, List.take_zero, List.drop_succ_cons, List.drop_zero]
        iterate 5
          with_reducible refine wpQuiet_step ?_
          intro K hK
          go_simp
          first
            | (with_reducible refine hK _ ?_
               clear hK K)
            | (refine Exists.intro _ ⟨fun w9 hw9 => ?_, ?_⟩
               rotate_left 1
               with_reducible refine hK _ ?_
               clear hK K
               rotate_left 1
               · subst hw9; go_simp; try with_reducible rfl)
        refine wpQuiet_nil ?_
        rintro w17 rfl
        go_wp2_with fail
        with_reducible refine Calls.mono HB.out ?_
        rintro e w4 ⟨rfl, h4⟩
        have HX4 := Lib.hid h4
        clear h4 HB e0 e1 e2 e3 hm2
        have HR := HR5
        have H5 := Lib.hid HX4.out.swap3
        clear HX4 HR5
        obtain ⟨Y, h8, back⟩ := H5.out.focus
        have BACK := Lib.hid back
        have hs := h8.of_eq (show _ = pts b1 (facO ⟨0, 0, false⟩) * (pts b2 (facO ⟨n, 0, false⟩) * ((pts bk x.box * A) * Y)) by ac_rfl)
        have r0 := hs.cell (i := 0) rfl
        have r1 := hs.cell (i := 1) rfl
        have r2 := hs.cell (i := 2) rfl
        have k0 := hs.r.cell (i := 0) rfl
        have k1 := hs.r.cell (i := 1) rfl
        have k2 := hs.r.cell (i := 2) rfl
        have f0 := hs.free (i := 0)
        have f1 := hs.free (i := 1)
        have f2 := hs.free (i := 2)
        have lr := hs.lt
        have lk := hs.r.lt
        have hs2 := ((hs.set (i := 0) (v := .int .i64 n)).set (i := 1) (v := .int .i64 0)).set (i := 2) (v := .bool false)
        have HS2 := Lib.hid (show Sat W (pts b1 (facO ⟨n, 0, false⟩) * _) _ from hs2)
        clear h8 back hs hs2 H5
        go_wp2
        refine bodyPost_ret (v := .tuple #[.agg #[.int .i64 n, .int .i64 0, .bool false], .bool (decide (0 < k))]) (by unfold results; go_simp) rfl ⟨?_, ?_⟩
        rotate_left 1
        · have hr := HR.out
          subst hr
          have hfin := ((BACK.out _ _ (HS2.out.of_eq (show _ = (pts b1 (facO ⟨n, 0, false⟩) * (pts b2 (facO ⟨n, 0, false⟩) * ((pts bk x.box * A)))) * Y by ac_rfl))).less).less
          first
            | exact hfin
            | exact hfin.less
        · have hr := HR.out
          subst hr
          rfl

end Go.Proofs.Yticljfpippbkkaa

/-
  The order of fil, behind a scanner; keywords behind a scanner. Conditions: those that each theorem names.
-/
namespace Go.Proofs.Yticljfpippbkkaa
open Go.RowKit Go.Sp
variable {W w w' : World} {A : HProp} {bx bs bt N : Nat} {L : List Tok} {S : TabS}

theorem sckey_any {wd : List UInt8} (hw : wd ≠ []) (hwl : wd.length ≤ 1000) (hl : L.length ≤ 2000000) (h : ScAt W A bx bs bt L N S w) :
    Calls Try.prog 32 #[scV bx, (.string ⟨wd.toArray⟩)] w fun e w' => e = .returned (.bool (keyM wd L).isSome) ∧ ScAt W A bx bs bt ((keyM wd L).getD L) N S w' := by
  obtain ⟨Y, h1, h2⟩ := h
  exact (keyword_any hw hwl SrcOk.scan hl h1).mono fun e w' ⟨he, hw⟩ => ⟨he, Y, hw, h2⟩
theorem sckey_at (z : ByteArray) (wd : List UInt8) (hz : z = ⟨wd.toArray⟩) (hw : wd ≠ []) (hwl : wd.length ≤ 1000) (hl : L.length ≤ 2000000) (h : ScAt W A bx bs bt L N S w) :
    Calls Try.prog 32 #[scV bx, .string z] w fun e w' => e = .returned (.bool (keyM wd L).isSome) ∧ ScAt W A bx bs bt ((keyM wd L).getD L) N S w' := by
  subst hz
  exact sckey_any hw hwl hl h

def filF : Nat → List Tok → Int × List Tok
  | 0, l => (3, l)
  | n + 1, l => match keyM elB l with
    | none => (3 - ((n : Int) + 1), l)
    | some l2 => filF n l2
theorem fil_eq (l : List Tok) : filM l = match keyM filB l with
    | none => (0, l)
    | some l1 => filF 2 l1 := by
  unfold filM
  cases keyM filB l with
  | none => rfl
  | some l1 =>
    simp only [filF]
    cases keyM elB l1 with
    | none => rfl
    | some l2 =>
      simp only
      cases keyM elB l2 with
      | none => rfl
      | some l3 => rfl
set_option maxRecDepth 100000 in
set_option maxHeartbeats 4000000 in
theorem fil_any (hl : L.length ≤ 2000000) (h : ScAt W A bx bs bt L N S w) :
    Calls Try.prog 55 #[.pointer (some ⟨bx, 0, none⟩)] w fun e w' => e = .returned (.int .i64 (filM L).1) ∧ ScAt W A bx bs bt (filM L).2 N S w' := by
  have HK := Lib.hid (sckey_at ⟨#[102, 105, 108]⟩ filB rfl (by simp [filB]) (by decide) hl h)
  obtain ⟨R, hR⟩ : ∃ R, filM L = R := ⟨_, rfl⟩
  rw [hR]
  rw [fil_eq] at hR
  have HR := Lib.hid hR
  clear h hR
  obtain ⟨k, hk⟩ : ∃ k, keyM filB L = k := ⟨_, rfl⟩
  rw [hk] at HK HR
  go_enter Try.func55, Try.ntmps55
  go_wp2_with fail
  with_reducible refine Calls.mono HK.out ?_
  rintro e w2 ⟨rfl, h2⟩
  have H2 := Lib.hid h2
  clear h2 HK
  cases k with
  | none =>
    have hr := HR.out
    subst hr
    simp only [Option.isSome_none]
    go_wp2
    go_ret
    exact ⟨rfl, H2.out⟩
  | some l1 =>
    have hk1 := keyM_len hk
    simp only [Option.isSome_some]
    go_wp2_with fail
    clear hk
    go_loopg [3] 3 (fun gg s3 wx => ∃ (n : Nat) (l : List Tok), n ≤ 2 ∧ gg = n + 1 ∧ s3 = .int .i64 (3 - (n : Int)) ∧ l.length ≤ 2000000 ∧ filF n l = R ∧ ScAt W A bx bs bt l N S wx)
    case atStart => exact ⟨2, l1, by omega, rfl, rfl, by omega, HR.out, H2.out⟩
    case round =>
      obtain ⟨n, l, hn, rfl, rfl, hll, hf, hx⟩ := hrel
      have HF := Lib.hid hf
      have HX := Lib.hid hx
      clear hf hx H2 HR
      cases n with
      | zero =>
        have hf := HF.out
        rw [filF] at hf
        subst hf
        go_wp2
        go_ret
        exact ⟨rfl, HX.out⟩
      | succ n =>
        have HK := Lib.hid (sckey_at ⟨#[108]⟩ elB rfl (by simp [elB]) (by decide) hll HX.out)
        have hf := HF.out
        rw [filF] at hf
        obtain ⟨k, hk⟩ : ∃ k, keyM elB l = k := ⟨_, rfl⟩
        rw [hk] at HK hf
        have HF2 := Lib.hid hf
        have i1 : (3 : Int) - ((n + 1 : Nat) : Int) < 3 := by omega
        clear hf HF HX
        go_wp2_with fail
        with_reducible refine Calls.mono HK.out ?_
        rintro e w3 ⟨rfl, h3⟩
        have H3 := Lib.hid h3
        clear h3 HK
        cases k with
        | none =>
          have hf := HF2.out
          subst hf
          simp only [Option.isSome_none]
          go_wp2
          go_ret
          exact ⟨by push_cast; rfl, H3.out⟩
        | some l2 =>
          have hk2 := keyM_len hk
          simp only [Option.isSome_some]
          have w1 : wrap64 (3 - ((n + 1 : Nat) : Int) + 1) = 3 - (n : Int) := by rw [wrap64_id _ (by omega) (by omega)]; omega
          go_wp2
          go_roundg (n + 1)
          case measure => omega
          case rel => exact ⟨n, l2, by omega, rfl, by first | rw [w1] | go_num, by omega, HF2.out, H3.out⟩

end Go.Proofs.Yticljfpippbkkaa
