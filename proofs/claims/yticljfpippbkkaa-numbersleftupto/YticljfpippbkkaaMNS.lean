import Derived.Test.YticljfpippbkkaaMNFA
import Derived.Test.YticljfpippbkkaaMNT
/-
  A dimension, where its unit's contract is known; Dimen. Conditions: those that each theorem names.
-/
namespace Go.Proofs.Yticljfpippbkkaa
open Go.RowKit Go.Sp
variable {W w w' : World} {A : HProp} {bx bs bt N : Nat} {L : List Tok} {S : TabS} {P : Fac → List Tok → Prop}

/-- what unit does, where P holds -/
def UnitC (W : World) (bx bs bt N : Nat) (S : TabS) (P : Fac → List Tok → Prop) : Prop := ∀ (A : HProp) (x : Fac) (L : List Tok) (w : World), P x L → L.length ≤ 2000000 → ScAt W A bx bs bt L N S w →
  Calls Try.prog 57 #[.pointer (some ⟨bx, 0, none⟩), x.val] w fun e w' => e = .returned (.tuple #[.int .i64 (unitM S x L).1, .int .i64 (unitM S x L).2.1]) ∧ ScAt W A bx bs bt (unitM S x L).2.2 N S w'
def UnitP (S : TabS) (x : Fac) (L : List Tok) : Prop := (registerM S (blanksM L)).2.2.2.1 ≠ 0 ∨ (registerM S (blanksM L)).2.2.1 = true ∨ (unitGo x (blanksM L) unitsL).isSome = true
theorem unitC_some : UnitC W bx bs bt N S (UnitP S) := fun _ _ _ _ hP hl h => unit_some hP hl h
theorem fil_zero (l : List Tok) (h : ¬ 0 < (filM l).1) : (filM l).2 = l := by
  unfold filM at h ⊢
  cases hk : keyM filB l with
  | none => rfl
  | some l1 =>
    rw [hk] at h
    simp only at h
    exfalso
    apply h
    cases keyM elB l1 with
    | none => simp
    | some l2 =>
      simp only
      cases keyM elB l2 with
      | none => simp
      | some l3 => simp
set_option maxRecDepth 100000 in
set_option maxHeartbeats 8000000 in
theorem size_any (minus fils : Bool) (HU : UnitC W bx bs bt N S P) (hP : P (factorM S minus L).1 (factorM S minus L).2.2.2) (hl : L.length ≤ 2000000) (h : ScAt W A bx bs bt L N S w) :
    Calls Try.prog 35 #[.pointer (some ⟨bx, 0, none⟩), .bool minus, .bool fils] w fun e w' => e = .returned (.tuple #[.int .i64 (sizeM S minus fils L).1, .int .i64 (sizeM S minus fils L).2.1, .int .i64 (sizeM S minus fils L).2.2.1]) ∧ ScAt W A bx bs bt (sizeM S minus fils L).2.2.2 N S w' := by
  have HF := Lib.hid (factor_any minus hl h)
  have hfl := factor_len S minus L
  obtain ⟨R, hR⟩ : ∃ R, sizeM S minus fils L = R := ⟨_, rfl⟩
  rw [hR]
  unfold sizeM at hR
  obtain ⟨⟨⟨xi, xf, xm⟩, fw, fe, fl⟩, hf⟩ : ∃ f, factorM S minus L = f := ⟨_, rfl⟩
  rw [hf] at hR HF hfl hP
  simp only at hR hfl hP
  have HR := Lib.hid hR
  have HUU := Lib.hid HU
  have HPP := Lib.hid hP
  clear h hR hf HU hP
  go_enter Try.func35, Try.ntmps35
  go_wp2_with fail
  with_reducible refine Calls.mono HF.out ?_
  rintro e w2 ⟨rfl, h2⟩
  clear HF
  go_upto_region 2 with fail
  have h3 := h2.alloc (facO ⟨xi, xf, xm⟩)
  obtain ⟨w3, hw3⟩ : ∃ w3, w2.alloc (facO ⟨xi, xf, xm⟩) = w3 := ⟨_, rfl⟩
  obtain ⟨b9, hb9⟩ : ∃ b9, w2.heap.size = b9 := ⟨_, rfl⟩
  rw [hw3, hb9] at h3
  rw [show w2.alloc (.cells #[.int .i64 xi, .int .i64 xf, .bool xm] 119) = w3 from hw3, hb9]
  have HX := Lib.hid h3
  clear h2 h3 hw3 hb9
  by_cases he : fe = 0
  · subst he
    have hr := HR.out
    rw [if_neg (by simp)] at hr
    have g0 := HX.out.sat.cell (i := 0) rfl
    have g1 := HX.out.sat.cell (i := 1) rfl
    have g2 := HX.out.sat.cell (i := 2) rfl
    cases fw with
    | true =>
      rw [if_pos rfl] at hr
      obtain ⟨⟨d1, d2⟩, hd⟩ : ∃ d, dimM xi = d := ⟨_, rfl⟩
      have HD := Lib.hid (fun w => dim_any xi w)
      rw [hd] at HD hr
      simp only at hr
      subst hr
      clear HR hd
      go_wp2_with fail
      with_reducible refine Calls.mono (HD.out _) ?_
      rintro e w4 ⟨rfl, rfl⟩
      go_wp2
      exact bodyPost_ret (v := .tuple #[.int .i64 (d1), .int .i64 (0), .int .i64 (d2)]) (by unfold results; go_simp) rfl ⟨rfl, HX.out.less⟩
    | false =>
      rw [if_neg (by simp)] at hr
      unfold sizeEnd at hr
      cases fils with
      | true =>
        have HFI := Lib.hid (fil_any (L := fl) (by omega) HX.out)
        have hfz := fil_zero fl
        have hfn := fil_len fl
        obtain ⟨⟨o, ol⟩, ho⟩ : ∃ o, filM fl = o := ⟨_, rfl⟩
        rw [ho] at hr HFI hfz hfn
        simp only at hr hfz hfn
        clear HR ho
        by_cases h0 : 0 < o
        · rw [if_pos ⟨by first | rfl | trivial, h0⟩] at hr
          have HR2 := Lib.hid hr
          clear hr HX g0 g1 g2 hfz
          go_wp2_with fail
          with_reducible refine Calls.mono HFI.out ?_
          rintro e w4 ⟨rfl, h4⟩
          have HO := Lib.hid (scopt_any (L := ol) (by omega) h4)
          clear h4 HFI
          go_wp2_with fail
          with_reducible refine Calls.mono HO.out ?_
          rintro e w5 ⟨rfl, h5⟩
          have H5 := Lib.hid h5
          clear h5 HO
          have g0 := H5.out.sat.cell (i := 0) rfl
          have g1 := H5.out.sat.cell (i := 1) rfl
          have g2 := H5.out.sat.cell (i := 2) rfl
          by_cases hb : 2147483647 < xi
          · have hr := HR2.out
            rw [if_pos hb] at hr
            subst hr
            clear HR2
            go_wp2
            exact bodyPost_ret (v := .tuple #[.int .i64 (0), .int .i64 (0), .int .i64 (20)]) (by unfold results; go_simp) rfl ⟨rfl, H5.out.less⟩
          · have hr := HR2.out
            rw [if_neg hb] at hr
            obtain ⟨y, hy⟩ : ∃ y, wrap64 (wrap64 (xi * 65536) + xf) = y := ⟨_, rfl⟩
            rw [hy] at hr
            obtain ⟨⟨d1, d2⟩, hd⟩ : ∃ d, dimM (turnM y xm) = d := ⟨_, rfl⟩
            rw [hd] at hr
            simp only at hr
            subst hr
            have HDD := Lib.hid hd
            clear HR2 hd
            go_wp2_with fail
            with_reducible refine Calls.mono (turned_any _ _ _) ?_
            rintro e w18 ⟨rfl, rfl⟩
            go_wp2_with fail
            with_reducible refine Calls.mono (dim_any _ _) ?_
            rintro e w19 ⟨rfl, rfl⟩
            rw [HDD.out]
            go_wp2
            exact bodyPost_ret (v := .tuple #[.int .i64 (d1), .int .i64 (o), .int .i64 (d2)]) (by unfold results; go_simp) rfl ⟨rfl, H5.out.less⟩
        · rw [if_neg (fun h => h0 h.2)] at hr
          have hol : ol = fl := hfz h0
          subst hol
          obtain ⟨⟨u1, u2, u3⟩, hu⟩ : ∃ u, unitM S ⟨xi, xf, xm⟩ ol = u := ⟨_, rfl⟩
          rw [hu] at hr
          simp only at hr
          subst hr
          have HUE := Lib.hid hu
          clear HX g0 g1 g2 hfz hu
          go_wp2_with fail
          with_reducible refine Calls.mono HFI.out ?_
          rintro e w4 ⟨rfl, h4⟩
          have HUN := Lib.hid (HUU.out _ _ _ _ HPP.out (by omega) h4)
          rw [HUE.out] at HUN
          have g0 := h4.sat.cell (i := 0) rfl
          have g1 := h4.sat.cell (i := 1) rfl
          have g2 := h4.sat.cell (i := 2) rfl
          clear h4 HFI
          go_wp2_with fail
          with_reducible refine Calls.mono HUN.out ?_
          rintro e w5 ⟨rfl, h5⟩
          have H5 := Lib.hid h5
          clear h5 HUN g0 g1 g2
          go_wp2
          exact bodyPost_ret (v := .tuple #[.int .i64 (u1), .int .i64 (0), .int .i64 (u2)]) (by unfold results; go_simp) rfl ⟨rfl, H5.out.less⟩
      | false =>
        rw [if_neg (by simp)] at hr
        have HUN := Lib.hid (HUU.out _ _ _ _ HPP.out (by omega) HX.out)
        obtain ⟨⟨u1, u2, u3⟩, hu⟩ : ∃ u, unitM S ⟨xi, xf, xm⟩ fl = u := ⟨_, rfl⟩
        rw [hu] at HUN hr
        simp only at hr
        subst hr
        clear HR hu HX
        go_wp2_with fail
        with_reducible refine Calls.mono HUN.out ?_
        rintro e w5 ⟨rfl, h5⟩
        have H5 := Lib.hid h5
        clear h5 HUN g0 g1 g2
        go_wp2
        exact bodyPost_ret (v := .tuple #[.int .i64 (u1), .int .i64 (0), .int .i64 (u2)]) (by unfold results; go_simp) rfl ⟨rfl, H5.out.less⟩
  · have hr := HR.out
    rw [if_pos he] at hr
    subst hr
    have q1 : (fe == 0) = false := by rw [beq_eq_false_iff_ne]; exact he
    have b1 : (fe != 0) = true := by rw [bne_iff_ne]; exact he
    clear HR
    go_wp2
    exact bodyPost_ret (v := .tuple #[.int .i64 (0), .int .i64 (0), .int .i64 (fe)]) (by unfold results; go_simp) rfl ⟨rfl, HX.out.less⟩

set_option maxRecDepth 100000 in
set_option maxHeartbeats 4000000 in
theorem ndimen_any (HU : ∀ bx, UnitC W bx bs bt N S P) (hP : P (factorM S (signsM L false).1 (signsM L false).2).1 (factorM S (signsM L false).1 (signsM L false).2).2.2.2) (hl : L.length ≤ 2000000) (h : LtAt W A bs bt L N S w) :
    Calls Try.prog 22 #[srcV bs, .pointer (some ⟨bt, 0, none⟩)] w fun e w' => e = .returned (.tuple #[.int .i64 (dimenM S L).1, .int .i64 (dimenM S L).2.1]) ∧ LtAt W A bs bt (dimenM S L).2.2 N S w' := by
  have HO := Lib.hid (open_any h)
  have hsl := signs_len L false
  obtain ⟨R, hR⟩ : ∃ R, dimenM S L = R := ⟨_, rfl⟩
  rw [hR]
  unfold dimenM at hR
  have HSG := Lib.hid (fun bx w (h : ScAt W A bx bs bt L N S w) => signs_any hl h)
  obtain ⟨⟨sm, sl⟩, hs⟩ : ∃ s, signsM L false = s := ⟨_, rfl⟩
  rw [hs] at hR hP HSG hsl
  simp only at hR hP hsl
  have HSZ := Lib.hid (fun bx w (h : ScAt W A bx bs bt sl N S w) => size_any sm false (HU bx) hP (by omega) h)
  obtain ⟨⟨z1, z2, z3, z4⟩, hz⟩ : ∃ z, sizeM S sm false sl = z := ⟨_, rfl⟩
  rw [hz] at hR HSZ
  simp only at hR
  subst hR
  clear h HU hP hs hz
  go_enter Try.func22, Try.ntmps22
  go_wp2_with fail
  with_reducible refine Calls.mono HO.out ?_
  rintro e w1 ⟨bx, rfl, h1⟩
  have H1 := Lib.hid (HSG.out _ _ h1)
  clear h1 HO HSG
  go_wp2_with fail
  with_reducible refine Calls.mono H1.out ?_
  rintro e w2 ⟨rfl, h2⟩
  have H2 := Lib.hid (HSZ.out _ _ h2)
  clear h2 H1 HSZ
  go_wp2_with fail
  with_reducible refine Calls.mono H2.out ?_
  rintro e w3 ⟨rfl, h3⟩
  have H3 := Lib.hid h3.lt
  clear h3 H2
  go_wp2
  exact bodyPost_ret (v := .tuple #[.int .i64 z1, .int .i64 z3]) (by unfold results; go_simp) rfl ⟨rfl, H3.out⟩

end Go.Proofs.Yticljfpippbkkaa

/-
  The law's texts as tokens, its lists. Conditions: those that each theorem names.
-/
namespace Go.Proofs.Yticljfpippbkkaa
open Go.RowKit Go.Sp
variable {W w w' : World} {A : HProp}

/-- a byte of a text as a token -/
def tokOf (c : UInt8) : Tok := ⟨if (97 ≤ c.toNat ∧ c.toNat ≤ 122) ∨ (65 ≤ c.toNat ∧ c.toNat ≤ 90) then 11 else if c = 32 then 10 else 12, c, ⟨#[]⟩⟩
set_option maxRecDepth 100000 in
set_option maxHeartbeats 8000000 in
theorem text_any (l : List UInt8) (hl : l.length ≤ 2000000) (h : Sat W A w) : Calls Try.prog 14 #[(.string ⟨l.toArray⟩)] w fun e w' => ∃ v, e = .returned v ∧ Sat W (rowT v (l.map tokOf) * A) w' := by
  have H := Lib.hid ((Sat.row_nil (e := 28) (size := 3) h).of_eq (show _ = rowT (.slice none 0 0) [] * A from rfl))
  have hsz : (⟨l.toArray⟩ : ByteArray).size = l.length := by simp [ByteArray.size]
  have HGET := Lib.hid (fun (i : Nat) (h : i < (⟨l.toArray⟩ : ByteArray).size) => Lib.getElem_mk l i h)
  obtain ⟨n, hn⟩ : ∃ n, l.length = n := ⟨_, rfl⟩
  rw [hn] at hsz hl
  have HN := Lib.hid hn
  obtain ⟨i0, hi, hz0, hz1, hz2⟩ := info_parts3 info_tok
  have HI := Lib.hid hi
  have HZ0 := Lib.hid hz0
  have HZ1 := Lib.hid hz1
  have HZ2 := Lib.hid hz2
  generalize (⟨l.toArray⟩ : ByteArray) = s at *
  clear h hn hi hz0 hz1 hz2
  go_enter Try.func14, Try.ntmps14
  go_wp2_with fail
  go_loopg [3, 4] n (fun gg s3 s4 wx => ∃ k : Nat, k ≤ n ∧ gg = n - k ∧ s4 = .int .i64 k ∧ Sat W (rowT s3 ((l.map tokOf).take k) * A) wx)
  case atStart => exact ⟨0, by omega, rfl, rfl, H.out⟩
  case round =>
    obtain ⟨k, hk, hg, rfl, hx⟩ := hrel
    have HX := Lib.hid hx
    clear hx H
    by_cases hlt : k < n
    · have hkl : k < l.length := by rw [HN.out]; exact hlt
      obtain ⟨c, hc⟩ : ∃ c, l[k] = c := ⟨_, rfl⟩
      have hget : s[k]'(by omega) = c := by
        have := HGET.out k (by omega)
        rw [List.getElem?_eq_getElem hkl, hc] at this
        exact (Option.some.inj this).symm
      have HTK0 := Lib.hid (show (l.map tokOf).take (k + 1) = (l.map tokOf).take k ++ [tokOf c] by rw [List.take_succ_eq_append_getElem (by rw [List.length_map]; exact hkl), List.getElem_map, hc])
      have i1 : (k : Int) < (n : Int) := by omega
      have h1 := (HX.out.alloc (Tok.box ⟨12, c, ⟨#[]⟩⟩))
      go_upto_region 6 with fail
      obtain ⟨w1, hw1⟩ : ∃ w1, wr.alloc (Tok.box ⟨12, c, ⟨#[]⟩⟩) = w1 := ⟨_, rfl⟩
      obtain ⟨b5, hb5⟩ : ∃ b5, wr.heap.size = b5 := ⟨_, rfl⟩
      rw [hw1, hb5] at h1
      rw [show wr.alloc (.cells #[.int .i64 12, .int .u8 c.toNat, .string ⟨#[]⟩] 28) = w1 from hw1, hb5]
      have HS := Lib.hid h1
      clear h1 hw1 hb5 hc hkl HX
      have hcl := c.toNat_lt
      by_cases h32 : c = 32
      · subst h32
        have HTK := Lib.hid (HTK0.out.trans (show _ = (l.map tokOf).take k ++ [⟨10, 32, ⟨#[]⟩⟩] from rfl))
        obtain ⟨c, hc⟩ : ∃ c : UInt8, c = 32 := ⟨_, rfl⟩
        rw [← hc] at HS HTK hget
        have q1 : ((c.toNat : Int) == 32) = true := by rw [hc]; rfl
        have e32 : (c.toNat : Int) = 32 := by rw [hc]; rfl
        clear HTK0 hc
        have r0 := HS.out.cell (i := 0) rfl
        have f0 := HS.out.free (i := 0)
        have lr := HS.out.lt
        have hs9 := HS.out.set (i := 0) (v := .int .i64 10)
        go_upto_region 8 with fail
        obtain ⟨w2, hw2⟩ : ∃ w2, w1.setCell ⟨b5, 0, none⟩ (.int .i64 10) = w2 := ⟨_, rfl⟩
        rw [hw2] at hs9
        rw [hw2]
        clear HS r0 f0 lr hw2
        have HS := Lib.hid (show Sat W (pts b5 (Tok.box ⟨10, c, ⟨#[]⟩⟩) * _) _ from hs9)
        clear hs9
        obtain ⟨sa, sc, hu⟩ := (rowT_rd HS.out.r).val
        subst hu
        have htn : ((l.map tokOf).take k).length = k := by rw [List.length_take, List.length_map, HN.out]; omega
        have hs := HS.out.of_eq (show _ = row (.slice sa ((l.map tokOf).take k).length sc) ((l.map tokOf).take k).length 28 3 (flat ((l.map tokOf).take k)) * (pts b5 (Tok.box ⟨10, c, ⟨#[]⟩⟩) * A) by unfold rowT; ac_rfl)
        rw [htn] at hs
        have HS2 := Lib.hid hs
        have HTN := Lib.hid htn
        rw [HTN.out]
        have y0 := hs.r.cell (i := 0) rfl
        have y1 := hs.r.cell (i := 1) rfl
        have y2 := hs.r.cell (i := 2) rfl
        have ly := hs.r.lt
        clear hs htn HS
        go_wp2_with (at_builtin; refine wpList_append_sep rfl _ _ 22 rfl i0 _ 32 Try.underlying22 HI.out HZ0.out HZ1.out HZ2.out rfl rfl HS2.out.allocD ⟨w2.heap.size, 0, none⟩ 1 1 (Tok.cells ⟨10, c, ⟨#[]⟩⟩) rfl rfl ?_ ?_ ?_ ?_ ?_)
        · first
            | exact new_cells _ _ _
            | exact fun _ _ h => h
            | exact fun _ _ h => by simpa [Tok.cells, e32] using h
        · simp [Value.oneCell', Tok.cells]
        · simp [maxLen]; omega
        · omega
        intro v' w5 h7
        have h8 := rowT_snoc (acc := (l.map tokOf).take k) (t := ⟨10, c, ⟨#[]⟩⟩) h7 (by rw [HTN.out]) rfl
        have H8 := Lib.hid (h8.of_eq (show _ = pts b5 (Tok.box ⟨10, c, ⟨#[]⟩⟩) * (rowT v' ((l.map tokOf).take k ++ [⟨10, c, ⟨#[]⟩⟩]) * A) by ac_rfl)).r
        clear h7 h8 HS2 y0 y1 y2 ly
        go_wp2
        go_roundg (n - (k + 1))
        case measure => omega
        case rel => exact ⟨k + 1, by omega, rfl, by go_num, by rw [HTK.out]; exact H8.out⟩
      · have n32 : ¬ (c.toNat : Int) = 32 := fun h => h32 (UInt8.toNat_inj.1 (by show c.toNat = 32; omega))
        have q32 : ((c.toNat : Int) == 32) = false := by rw [beq_eq_false_iff_ne]; exact n32
        by_cases ha : 97 ≤ c.toNat ∧ c.toNat ≤ 122
        · have HTK := Lib.hid (HTK0.out.trans (show _ = (l.map tokOf).take k ++ [⟨11, c, ⟨#[]⟩⟩] by rw [tokOf, if_pos (.inl ha)]))
          have j1 : (97 : Int) ≤ (c.toNat : Int) := by omega
          have j2 : (c.toNat : Int) ≤ 122 := by omega
          clear HTK0
          have r0 := HS.out.cell (i := 0) rfl
          have f0 := HS.out.free (i := 0)
          have lr := HS.out.lt
          have hs9 := HS.out.set (i := 0) (v := .int .i64 11)
          go_upto_region 10 with fail
          obtain ⟨w2, hw2⟩ : ∃ w2, w1.setCell ⟨b5, 0, none⟩ (.int .i64 11) = w2 := ⟨_, rfl⟩
          rw [hw2] at hs9
          rw [hw2]
          clear HS r0 f0 lr hw2
          have HS := Lib.hid (show Sat W (pts b5 (Tok.box ⟨11, c, ⟨#[]⟩⟩) * _) _ from hs9)
          clear hs9
          obtain ⟨sa, sc, hu⟩ := (rowT_rd HS.out.r).val
          subst hu
          have htn : ((l.map tokOf).take k).length = k := by rw [List.length_take, List.length_map, HN.out]; omega
          have hs := HS.out.of_eq (show _ = row (.slice sa ((l.map tokOf).take k).length sc) ((l.map tokOf).take k).length 28 3 (flat ((l.map tokOf).take k)) * (pts b5 (Tok.box ⟨11, c, ⟨#[]⟩⟩) * A) by unfold rowT; ac_rfl)
          rw [htn] at hs
          have HS2 := Lib.hid hs
          have HTN := Lib.hid htn
          rw [HTN.out]
          have y0 := hs.r.cell (i := 0) rfl
          have y1 := hs.r.cell (i := 1) rfl
          have y2 := hs.r.cell (i := 2) rfl
          have ly := hs.r.lt
          clear hs htn HS
          go_wp2_with (at_builtin; refine wpList_append_sep rfl _ _ 22 rfl i0 _ 32 Try.underlying22 HI.out HZ0.out HZ1.out HZ2.out rfl rfl HS2.out.allocD ⟨w2.heap.size, 0, none⟩ 1 1 (Tok.cells ⟨11, c, ⟨#[]⟩⟩) rfl rfl ?_ ?_ ?_ ?_ ?_)
          · first
              | exact new_cells _ _ _
              | exact fun _ _ h => h
              | exact fun _ _ h => by simpa [Tok.cells, e32] using h
          · simp [Value.oneCell', Tok.cells]
          · simp [maxLen]; omega
          · omega
          intro v' w5 h7
          have h8 := rowT_snoc (acc := (l.map tokOf).take k) (t := ⟨11, c, ⟨#[]⟩⟩) h7 (by rw [HTN.out]) rfl
          have H8 := Lib.hid (h8.of_eq (show _ = pts b5 (Tok.box ⟨11, c, ⟨#[]⟩⟩) * (rowT v' ((l.map tokOf).take k ++ [⟨11, c, ⟨#[]⟩⟩]) * A) by ac_rfl)).r
          clear h7 h8 HS2 y0 y1 y2 ly
          go_wp2
          go_roundg (n - (k + 1))
          case measure => omega
          case rel => exact ⟨k + 1, by omega, rfl, by go_num, by rw [HTK.out]; exact H8.out⟩
        · by_cases hb : 65 ≤ c.toNat ∧ c.toNat ≤ 90
          · have HTK := Lib.hid (HTK0.out.trans (show _ = (l.map tokOf).take k ++ [⟨11, c, ⟨#[]⟩⟩] by rw [tokOf, if_pos (.inr hb)]))
            have j0 : ¬ (97 : Int) ≤ (c.toNat : Int) := by omega
            have j1 : (65 : Int) ≤ (c.toNat : Int) := by omega
            have j2 : (c.toNat : Int) ≤ 90 := by omega
            clear HTK0
            have r0 := HS.out.cell (i := 0) rfl
            have f0 := HS.out.free (i := 0)
            have lr := HS.out.lt
            have hs9 := HS.out.set (i := 0) (v := .int .i64 11)
            go_upto_region 10 with fail
            obtain ⟨w2, hw2⟩ : ∃ w2, w1.setCell ⟨b5, 0, none⟩ (.int .i64 11) = w2 := ⟨_, rfl⟩
            rw [hw2] at hs9
            rw [hw2]
            clear HS r0 f0 lr hw2
            have HS := Lib.hid (show Sat W (pts b5 (Tok.box ⟨11, c, ⟨#[]⟩⟩) * _) _ from hs9)
            clear hs9
            obtain ⟨sa, sc, hu⟩ := (rowT_rd HS.out.r).val
            subst hu
            have htn : ((l.map tokOf).take k).length = k := by rw [List.length_take, List.length_map, HN.out]; omega
            have hs := HS.out.of_eq (show _ = row (.slice sa ((l.map tokOf).take k).length sc) ((l.map tokOf).take k).length 28 3 (flat ((l.map tokOf).take k)) * (pts b5 (Tok.box ⟨11, c, ⟨#[]⟩⟩) * A) by unfold rowT; ac_rfl)
            rw [htn] at hs
            have HS2 := Lib.hid hs
            have HTN := Lib.hid htn
            rw [HTN.out]
            have y0 := hs.r.cell (i := 0) rfl
            have y1 := hs.r.cell (i := 1) rfl
            have y2 := hs.r.cell (i := 2) rfl
            have ly := hs.r.lt
            clear hs htn HS
            go_wp2_with (at_builtin; refine wpList_append_sep rfl _ _ 22 rfl i0 _ 32 Try.underlying22 HI.out HZ0.out HZ1.out HZ2.out rfl rfl HS2.out.allocD ⟨w2.heap.size, 0, none⟩ 1 1 (Tok.cells ⟨11, c, ⟨#[]⟩⟩) rfl rfl ?_ ?_ ?_ ?_ ?_)
            · first
                | exact new_cells _ _ _
                | exact fun _ _ h => h
                | exact fun _ _ h => by simpa [Tok.cells, e32] using h
            · simp [Value.oneCell', Tok.cells]
            · simp [maxLen]; omega
            · omega
            intro v' w5 h7
            have h8 := rowT_snoc (acc := (l.map tokOf).take k) (t := ⟨11, c, ⟨#[]⟩⟩) h7 (by rw [HTN.out]) rfl
            have H8 := Lib.hid (h8.of_eq (show _ = pts b5 (Tok.box ⟨11, c, ⟨#[]⟩⟩) * (rowT v' ((l.map tokOf).take k ++ [⟨11, c, ⟨#[]⟩⟩]) * A) by ac_rfl)).r
            clear h7 h8 HS2 y0 y1 y2 ly
            go_wp2
            go_roundg (n - (k + 1))
            case measure => omega
            case rel => exact ⟨k + 1, by omega, rfl, by go_num, by rw [HTK.out]; exact H8.out⟩
          · have HTK := Lib.hid (HTK0.out.trans (show _ = (l.map tokOf).take k ++ [⟨12, c, ⟨#[]⟩⟩] by rw [tokOf, if_neg (fun h => h.elim ha hb), if_neg h32]))
            clear HTK0
            obtain ⟨w2, hw2⟩ : ∃ w2, w1 = w2 := ⟨_, rfl⟩
            rw [hw2] at HS
            rw [hw2]
            clear hw2
            rcases Nat.lt_or_ge c.toNat 65 with hx | hx
            · have j0 : ¬ (97 : Int) ≤ (c.toNat : Int) := by omega
              have j1 : ¬ (65 : Int) ≤ (c.toNat : Int) := by omega
              obtain ⟨sa, sc, hu⟩ := (rowT_rd HS.out.r).val
              subst hu
              have htn : ((l.map tokOf).take k).length = k := by rw [List.length_take, List.length_map, HN.out]; omega
              have hs := HS.out.of_eq (show _ = row (.slice sa ((l.map tokOf).take k).length sc) ((l.map tokOf).take k).length 28 3 (flat ((l.map tokOf).take k)) * (pts b5 (Tok.box ⟨12, c, ⟨#[]⟩⟩) * A) by unfold rowT; ac_rfl)
              rw [htn] at hs
              have HS2 := Lib.hid hs
              have HTN := Lib.hid htn
              rw [HTN.out]
              have y0 := hs.r.cell (i := 0) rfl
              have y1 := hs.r.cell (i := 1) rfl
              have y2 := hs.r.cell (i := 2) rfl
              have ly := hs.r.lt
              clear hs htn HS
              go_wp2_with (at_builtin; refine wpList_append_sep rfl _ _ 22 rfl i0 _ 32 Try.underlying22 HI.out HZ0.out HZ1.out HZ2.out rfl rfl HS2.out.allocD ⟨w2.heap.size, 0, none⟩ 1 1 (Tok.cells ⟨12, c, ⟨#[]⟩⟩) rfl rfl ?_ ?_ ?_ ?_ ?_)
              · first
                  | exact new_cells _ _ _
                  | exact fun _ _ h => h
                  | exact fun _ _ h => by simpa [Tok.cells, e32] using h
              · simp [Value.oneCell', Tok.cells]
              · simp [maxLen]; omega
              · omega
              intro v' w5 h7
              have h8 := rowT_snoc (acc := (l.map tokOf).take k) (t := ⟨12, c, ⟨#[]⟩⟩) h7 (by rw [HTN.out]) rfl
              have H8 := Lib.hid (h8.of_eq (show _ = pts b5 (Tok.box ⟨12, c, ⟨#[]⟩⟩) * (rowT v' ((l.map tokOf).take k ++ [⟨12, c, ⟨#[]⟩⟩]) * A) by ac_rfl)).r
              clear h7 h8 HS2 y0 y1 y2 ly
              go_wp2
              go_roundg (n - (k + 1))
              case measure => omega
              case rel => exact ⟨k + 1, by omega, rfl, by go_num, by rw [HTK.out]; exact H8.out⟩
            · rcases Nat.lt_or_ge c.toNat 97 with hy | hy
              · have j0 : ¬ (97 : Int) ≤ (c.toNat : Int) := by omega
                have j1 : (65 : Int) ≤ (c.toNat : Int) := by omega
                have j2 : ¬ (c.toNat : Int) ≤ 90 := by omega
                obtain ⟨sa, sc, hu⟩ := (rowT_rd HS.out.r).val
                subst hu
                have htn : ((l.map tokOf).take k).length = k := by rw [List.length_take, List.length_map, HN.out]; omega
                have hs := HS.out.of_eq (show _ = row (.slice sa ((l.map tokOf).take k).length sc) ((l.map tokOf).take k).length 28 3 (flat ((l.map tokOf).take k)) * (pts b5 (Tok.box ⟨12, c, ⟨#[]⟩⟩) * A) by unfold rowT; ac_rfl)
                rw [htn] at hs
                have HS2 := Lib.hid hs
                have HTN := Lib.hid htn
                rw [HTN.out]
                have y0 := hs.r.cell (i := 0) rfl
                have y1 := hs.r.cell (i := 1) rfl
                have y2 := hs.r.cell (i := 2) rfl
                have ly := hs.r.lt
                clear hs htn HS
                go_wp2_with (at_builtin; refine wpList_append_sep rfl _ _ 22 rfl i0 _ 32 Try.underlying22 HI.out HZ0.out HZ1.out HZ2.out rfl rfl HS2.out.allocD ⟨w2.heap.size, 0, none⟩ 1 1 (Tok.cells ⟨12, c, ⟨#[]⟩⟩) rfl rfl ?_ ?_ ?_ ?_ ?_)
                · first
                    | exact new_cells _ _ _
                    | exact fun _ _ h => h
                    | exact fun _ _ h => by simpa [Tok.cells, e32] using h
                · simp [Value.oneCell', Tok.cells]
                · simp [maxLen]; omega
                · omega
                intro v' w5 h7
                have h8 := rowT_snoc (acc := (l.map tokOf).take k) (t := ⟨12, c, ⟨#[]⟩⟩) h7 (by rw [HTN.out]) rfl
                have H8 := Lib.hid (h8.of_eq (show _ = pts b5 (Tok.box ⟨12, c, ⟨#[]⟩⟩) * (rowT v' ((l.map tokOf).take k ++ [⟨12, c, ⟨#[]⟩⟩]) * A) by ac_rfl)).r
                clear h7 h8 HS2 y0 y1 y2 ly
                go_wp2
                go_roundg (n - (k + 1))
                case measure => omega
                case rel => exact ⟨k + 1, by omega, rfl, by go_num, by rw [HTK.out]; exact H8.out⟩
              · have j0 : (97 : Int) ≤ (c.toNat : Int) := by omega
                have j1 : (65 : Int) ≤ (c.toNat : Int) := by omega
                have j2 : ¬ (c.toNat : Int) ≤ 122 := by omega
                have j3 : ¬ (c.toNat : Int) ≤ 90 := by omega
                obtain ⟨sa, sc, hu⟩ := (rowT_rd HS.out.r).val
                subst hu
                have htn : ((l.map tokOf).take k).length = k := by rw [List.length_take, List.length_map, HN.out]; omega
                have hs := HS.out.of_eq (show _ = row (.slice sa ((l.map tokOf).take k).length sc) ((l.map tokOf).take k).length 28 3 (flat ((l.map tokOf).take k)) * (pts b5 (Tok.box ⟨12, c, ⟨#[]⟩⟩) * A) by unfold rowT; ac_rfl)
                rw [htn] at hs
                have HS2 := Lib.hid hs
                have HTN := Lib.hid htn
                rw [HTN.out]
                have y0 := hs.r.cell (i := 0) rfl
                have y1 := hs.r.cell (i := 1) rfl
                have y2 := hs.r.cell (i := 2) rfl
                have ly := hs.r.lt
                clear hs htn HS
                go_wp2_with (at_builtin; refine wpList_append_sep rfl _ _ 22 rfl i0 _ 32 Try.underlying22 HI.out HZ0.out HZ1.out HZ2.out rfl rfl HS2.out.allocD ⟨w2.heap.size, 0, none⟩ 1 1 (Tok.cells ⟨12, c, ⟨#[]⟩⟩) rfl rfl ?_ ?_ ?_ ?_ ?_)
                · first
                    | exact new_cells _ _ _
                    | exact fun _ _ h => h
                    | exact fun _ _ h => by simpa [Tok.cells, e32] using h
                · simp [Value.oneCell', Tok.cells]
                · simp [maxLen]; omega
                · omega
                intro v' w5 h7
                have h8 := rowT_snoc (acc := (l.map tokOf).take k) (t := ⟨12, c, ⟨#[]⟩⟩) h7 (by rw [HTN.out]) rfl
                have H8 := Lib.hid (h8.of_eq (show _ = pts b5 (Tok.box ⟨12, c, ⟨#[]⟩⟩) * (rowT v' ((l.map tokOf).take k ++ [⟨12, c, ⟨#[]⟩⟩]) * A) by ac_rfl)).r
                clear h7 h8 HS2 y0 y1 y2 ly
                go_wp2
                go_roundg (n - (k + 1))
                case measure => omega
                case rel => exact ⟨k + 1, by omega, rfl, by go_num, by rw [HTK.out]; exact H8.out⟩
    · have hkn : n = k := by omega
      subst hkn
      have hx := HX.out
      rw [List.take_of_length_le (by rw [List.length_map, HN.out]; exact Nat.le_refl _)] at hx
      have HX2 := Lib.hid hx
      clear hx HX
      go_wp2
      go_ret
      exact ⟨_, rfl, HX2.out⟩

set_option maxRecDepth 100000 in
set_option maxHeartbeats 4000000 in
theorem glist_any {v : Value} {L : List Tok} (hv : ∀ w', Sat W A w' → RdT w' v L) (hl : L.length ≤ 2000000) (h : Sat W A w) : Calls Try.prog 12 #[v] w fun e w' => ∃ b, e = .returned (.pointer (some ⟨b, 0, none⟩)) ∧ LsAt W A b L w' := by
  obtain ⟨i0, hi, hz0, hz1, hz2⟩ := info_parts3 info_tok
  have HI := Lib.hid hi
  have HZ0 := Lib.hid hz0
  have HZ1 := Lib.hid hz1
  have HZ2 := Lib.hid hz2
  obtain ⟨va, vc, hvv⟩ := (hv w h).val
  subst hvv
  have HV := Lib.hid hv
  have H := Lib.hid (row_empty h)
  have HRD := Lib.hid (HV.out _ (row_empty h).r)
  have HL := Lib.hid hl
  obtain ⟨k, hk⟩ : ∃ k, L.length = k := ⟨_, rfl⟩
  rw [hk] at HRD hl
  rw [hk]
  have HK := Lib.hid hk
  clear h hv hi hz0 hz1 hz2 hk
  go_enter Try.func12, Try.ntmps12
  go_wp2_with (at_builtin; refine wpList_append_rd rfl _ _ 22 rfl i0 _ 32 Try.underlying22 HI.out HZ0.out HZ1.out HZ2.out rfl (by omega) rfl H.out (.slice va k vc) L.length (flat L) rfl HRD.out.1 (flat_one L) (by have := HK.out; simp [maxLen]; omega) (by have := HK.out; omega) ?_)
  intro v1 w1 h1
  have h2 : Sat W (rowT v1 L * A) w1 := by
    unfold rowT
    simpa using h1
  have HN := Lib.hid (lsnew_any (v := v1) (L := L) (A := rowT v1 L * A) (fun w' h => rowT_rd h) HL.out h2)
  clear h1 h2 HRD
  go_wp2_with fail
  with_reducible refine Calls.mono HN.out ?_
  rintro e w2 ⟨b, rfl, h3⟩
  have H3 := Lib.hid h3.less
  clear h3 HN
  go_wp2
  go_ret
  exact ⟨_, rfl, H3.out⟩

end Go.Proofs.Yticljfpippbkkaa
