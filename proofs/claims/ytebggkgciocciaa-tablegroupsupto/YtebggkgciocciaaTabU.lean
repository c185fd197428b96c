
/-
  The law of the tokens that a group's end brings back. Conditions: those that each theorem names.
-/
import Derived.Test.YtebggkgciocciaaTabT
import Derived.Test.YtebggkgciocciaaSameT
namespace Go.Proofs.Ytebggkgciocciaa
open Go.RowKit Go.Sp
variable {W w w' : World} {F A : HProp}

theorem TabAt.focus {b N : Nat} {S : TabS} (h : TabAt W F b N S w) : ∃ Y : HProp, Sat W (F * Y) w ∧ ∀ (F' : HProp) (w' : World), Sat W (F' * Y) w' → TabAt W F' b N S w' := by
  obtain ⟨m, nm, gs, lt, R, V, h1, h2⟩ := h
  exact ⟨pts b (.cells (tabCells nm R gs lt) 68) * (roH m * (mapH Value.string Mean.val nm N S.names * (row gs V.length 71 4 (flatG V) * grpsH m V S.groups))),
    h2.of_eq (by ac_rfl), fun F' w' h => ⟨m, nm, gs, lt, R, V, h1, h.of_eq (by ac_rfl)⟩⟩

theorem knows_tab {b N : Nat} {S : TabS} (h : TabAt W F b N S w) : Calls Try.prog 10 #[] w fun e w' => e = .returned (.bool true) ∧ TabAt W F b N S w' := by
  obtain ⟨Y, h1, h2⟩ := h.focus
  exact (knows_any h1).mono fun e w' ⟨he, hs⟩ => ⟨he, h2 _ _ hs⟩

theorem TabAt.nil {b N : Nat} {S : TabS} (h : TabAt W F b N S w) : TabAt W (rowT (.slice none 0 0) [] * F) b N S w := by
  obtain ⟨Y, h1, h2⟩ := h.focus
  exact h2 _ _ ((Sat.row_nil h1).of_eq (by unfold rowT; ac_rfl))

/-- a table with groups, its last one with tokens for its end -/
def keptS (G0 : List GrpS) (k : Int) (L : List Tok) : TabS := { newS with groups := G0 ++ [{ grp0 k with after := L }] }

theorem kept_yes {G0 : List GrpS} {k : Int} {L : List Tok} {t : Tok} (h : afterE (keptS G0 k L) t = 0) : afterS (keptS G0 k L) t = keptS G0 k (L ++ [t]) := by
  rw [afterS_yes h rfl]
  rfl


set_option maxRecDepth 100000 in
set_option maxHeartbeats 8000000 in
theorem afters_law (v u : Value) (xs ys : List Tok) (W : World) (hv : RdT W v xs) (hu : RdT W u ys) (hxs : xs.length ≤ 1048576) (hys : ys.length ≤ 1048576) :
    Calls Try.prog 3 #[v, u] W fun e w' => e = .returned (.bool true) ∧ Ext W w' := by
  obtain ⟨i0, hi, hz0, hz1, hz2⟩ := info_parts3 info_tok
  have HI := Lib.hid hi
  have HZ0 := Lib.hid hz0
  have HZ1 := Lib.hid hz1
  have HZ2 := Lib.hid hz2
  obtain ⟨pa, pc, rfl⟩ := hv.val
  obtain ⟨qa, qc, rfl⟩ := hu.val
  have HV := Lib.hid hv
  have HU := Lib.hid hu
  obtain ⟨nx, hnx⟩ : ∃ n, xs.length = n := ⟨_, rfl⟩
  obtain ⟨ny, hny⟩ : ∃ n, ys.length = n := ⟨_, rfl⟩
  rw [hnx] at HV hxs
  rw [hny] at HU hys
  rw [hnx, hny]
  have HNX := Lib.hid hnx
  have HNY := Lib.hid hny
  have HNEW := Lib.hid (new_any (Sat.start W))
  clear hv hu hnx hny hi hz0 hz1 hz2
  go_enter Try.func3, Try.ntmps3
  go_wp2_with fail
  refine Calls.mono HNEW.out ?_
  rintro e w1 ⟨b, rfl, h1⟩
  have hbg := begin_any 0 h1
  rw [show beginE newS 0 = 0 from rfl, show beginS newS 0 = keptS [] 0 [] from rfl] at hbg
  have HB := Lib.hid hbg
  clear h1 hbg HNEW
  go_wp2_with fail
  refine Calls.mono HB.out ?_
  rintro e w2 ⟨rfl, h2⟩
  clear HB
  go_wp2_with (go_at_call 8; with_reducible refine Calls.mono (num_any _ _) ?_; rintro e w' ⟨rfl, rfl⟩)
  refine Calls.mono (knows_tab h2.nil.nil) ?_
  rintro e w3 ⟨rfl, h3⟩
  have H3 := Lib.hid h3
  clear h3 h2
  go_wp2_with fail
  go_loopg [6, 8] nx (fun gg s6 s8 wx => ∃ (k : Nat) (acc : List Tok), k ≤ nx ∧ gg = nx - k ∧ s8 = .int .i64 k ∧ acc.length ≤ k ∧ TabAt W (rowT s6 acc * (rowT (.slice none 0 0) [] * own W)) b 0 (keptS [] 0 acc) wx)
  case atStart => exact ⟨0, [], by omega, rfl, by go_num, by simp, H3.out⟩
  case round =>
    clear H3
    obtain ⟨k, acc, hk, rfl, rfl, hacc, hx⟩ := hrel
    have HX := Lib.hid hx
    have HACC := Lib.hid hacc
    obtain ⟨va, vc, rfl⟩ := hx.sat.rowT_value
    clear hx hacc
    by_cases hlt : k < nx
    · skip
      have i1 : (k : Int) < (nx : Int) := by omega
      obtain ⟨b', off, rfl, ⟨a0, a1, a2⟩, hb'⟩ := (HV.out.ext HX.out.sat.r.extR).at (i := k) (by rw [HNX.out]; exact hlt)
      obtain ⟨t, ht⟩ : ∃ t, (xs[k]'(by rw [HNX.out]; exact hlt)) = t := ⟨_, rfl⟩
      rw [ht] at a0 a1 a2
      have HAF := Lib.hid (after_any t HX.out)
      by_cases he : afterE (keptS [] 0 acc) t = 0
      · rw [he, kept_yes he] at HAF
        go_wp2_with fail
        refine Calls.mono HAF.out ?_
        rintro e w4 ⟨rfl, h4⟩
        obtain ⟨b2, off2, hpa, ⟨d0, d1, d2⟩, hd'⟩ := (HV.out.ext h4.sat.r.extR).at (i := k) (by rw [HNX.out]; exact hlt)
        simp only [Option.some.injEq, Addr.mk.injEq, and_true] at hpa
        obtain ⟨rfl, rfl⟩ := hpa
        rw [ht] at d0 d1 d2
        obtain ⟨Y, h5, back⟩ := h4.focus
        have H5 := Lib.hid (show Sat W (row (.slice va acc.length vc) acc.length 31 3 (flat acc) * ((rowT (.slice none 0 0) [] * own W) * Y)) w4 from h5.asc)
        have BACK := Lib.hid back
        obtain ⟨na, hna⟩ : ∃ na, acc.length = na := ⟨_, rfl⟩
        have HNA := Lib.hid hna
        rw [hna] at H5
        have hnb : na < 20000 ∧ na ≤ k := by
          have h0 := HACC.out
          have h9 := h4.last rfl
          simp only [List.length_append, List.length_singleton] at h9
          omega
        clear a0 a1 a2 hb' h4 h5 back he hna ht
        rw [HNA.out]
        go_wp2_with (first
          | (go_at_call 8; with_reducible refine Calls.mono (num_any _ _) ?_; rintro e w' ⟨rfl, rfl⟩)
          | (at_builtin; refine wpList_append_sep rfl _ _ 22 rfl i0 _ 32 Try.underlying22 HI.out HZ0.out HZ1.out HZ2.out rfl rfl H5.out.allocD ⟨w4.heap.size, 0, none⟩ 1 1 [.int .i64 t.cat, .int .u8 t.chr.toNat, .string t.name] rfl rfl ?_ ?_ ?_ ?_ ?_))
        · exact new_cells _ _ _
        · simp [Value.oneCell']
        · simp [maxLen]; omega
        · omega
        intro v' w5 h6
        have H6 := Lib.hid (BACK.out _ _ (show Sat W ((rowT v' (acc ++ [t]) * (rowT (.slice none 0 0) [] * own W)) * Y) w5 from (rowT_snoc h6 (by rw [HNA.out]) rfl).asc'))
        clear h6 d0 d1 d2 hd'
        go_wp2
        go_roundg (nx - (k + 1))
        case measure => omega
        case rel => exact ⟨k + 1, acc ++ [t], by omega, rfl, by go_num, by rw [List.length_append, HNA.out]; simp; omega, H6.out⟩
      · rw [afterS_no he] at HAF
        have q1 : (afterE (keptS [] 0 acc) t == 0) = false := by rw [beq_eq_false_iff_ne]; exact he
        generalize afterE (keptS [] 0 acc) t = er at *
        clear he
        go_wp2_with fail
        refine Calls.mono HAF.out ?_
        rintro e w4 ⟨rfl, h4⟩
        have H4 := Lib.hid h4
        clear a0 a1 a2 hb' h4 ht
        go_wp2_with (go_at_call 8; with_reducible refine Calls.mono (num_any _ _) ?_; rintro e w' ⟨rfl, rfl⟩)
        go_roundg (nx - (k + 1))
        case measure => omega
        case rel => exact ⟨k + 1, acc, by omega, rfl, by go_num, by have := HACC.out; omega, H4.out⟩
    · obtain rfl : nx = k := by omega
      have hbg := begin_any 1 HX.out
      have e0 : beginE (keptS [] 0 acc) 1 = 0 := rfl
      rw [e0, show beginS (keptS [] 0 acc) 1 = keptS [{ grp0 0 with after := acc }] 1 [] by rw [beginS, if_pos e0]; rfl] at hbg
      have HBG := Lib.hid hbg
      obtain ⟨LA, hLA⟩ : ∃ LA, acc = LA := ⟨_, rfl⟩
      rw [hLA] at HBG HACC
      rw [hLA]
      obtain ⟨ma, hma⟩ : ∃ ma, LA.length = ma := ⟨_, rfl⟩
      rw [hma] at HBG HACC
      rw [hma]
      have HMA := Lib.hid hma
      obtain ⟨wa, hwa⟩ : ∃ wa, va = wa := ⟨_, rfl⟩
      obtain ⟨wc, hwc⟩ : ∃ wc, vc = wc := ⟨_, rfl⟩
      rw [hwa, hwc] at HBG
      rw [hwa, hwc]
      clear hbg e0 hlt hLA hma hwa hwc HX
      go_wp2_with fail
      refine Calls.mono HBG.out ?_
      rintro e w4 ⟨rfl, h4⟩
      have H4 := Lib.hid (h4.of_eq (show _ = rowT (.slice none 0 0) [] * (rowT (.slice wa ma wc) LA * own W) by ac_rfl))
      clear h4 HBG
      go_wp2_with (go_at_call 8; with_reducible refine Calls.mono (num_any _ _) ?_; rintro e w' ⟨rfl, rfl⟩)
      go_loopg [7, 9] ny (fun gg s7 s9 wx => ∃ (k : Nat) (acc : List Tok), k ≤ ny ∧ gg = ny - k ∧ s9 = .int .i64 k ∧ acc.length ≤ k ∧ TabAt W (rowT s7 acc * (rowT (.slice wa ma wc) LA * own W)) b 0 (keptS [{ grp0 0 with after := LA }] 1 acc) wx)
      case atStart => exact ⟨0, [], by omega, rfl, by go_num, by simp, H4.out⟩
      case round =>
        clear H4
        obtain ⟨k, acc, hk, rfl, rfl, hacc, hx⟩ := hrel
        have HX := Lib.hid hx
        have HACC := Lib.hid hacc
        obtain ⟨va, vc, rfl⟩ := hx.sat.rowT_value
        clear hx hacc
        by_cases hlt : k < ny
        · skip
          have i1 : (k : Int) < (ny : Int) := by omega
          obtain ⟨b', off, rfl, ⟨a0, a1, a2⟩, hb'⟩ := (HU.out.ext HX.out.sat.r.extR).at (i := k) (by rw [HNY.out]; exact hlt)
          obtain ⟨t, ht⟩ : ∃ t, (ys[k]'(by rw [HNY.out]; exact hlt)) = t := ⟨_, rfl⟩
          rw [ht] at a0 a1 a2
          have HAF := Lib.hid (after_any t HX.out)
          by_cases he : afterE (keptS [{ grp0 0 with after := LA }] 1 acc) t = 0
          · rw [he, kept_yes he] at HAF
            go_wp2_with fail
            refine Calls.mono HAF.out ?_
            rintro e w4 ⟨rfl, h4⟩
            obtain ⟨b2, off2, hpa, ⟨d0, d1, d2⟩, hd'⟩ := (HU.out.ext h4.sat.r.extR).at (i := k) (by rw [HNY.out]; exact hlt)
            simp only [Option.some.injEq, Addr.mk.injEq, and_true] at hpa
            obtain ⟨rfl, rfl⟩ := hpa
            rw [ht] at d0 d1 d2
            obtain ⟨Y, h5, back⟩ := h4.focus
            have H5 := Lib.hid (show Sat W (row (.slice va acc.length vc) acc.length 31 3 (flat acc) * ((rowT (.slice wa ma wc) LA * own W) * Y)) w4 from h5.asc)
            have BACK := Lib.hid back
            obtain ⟨na, hna⟩ : ∃ na, acc.length = na := ⟨_, rfl⟩
            have HNA := Lib.hid hna
            rw [hna] at H5
            have hnb : na < 20000 ∧ na ≤ k := by
              have h0 := HACC.out
              have h9 := h4.last rfl
              simp only [List.length_append, List.length_singleton] at h9
              omega
            clear a0 a1 a2 hb' h4 h5 back he hna ht
            rw [HNA.out]
            go_wp2_with (first
              | (go_at_call 8; with_reducible refine Calls.mono (num_any _ _) ?_; rintro e w' ⟨rfl, rfl⟩)
              | (at_builtin; refine wpList_append_sep rfl _ _ 22 rfl i0 _ 32 Try.underlying22 HI.out HZ0.out HZ1.out HZ2.out rfl rfl H5.out.allocD ⟨w4.heap.size, 0, none⟩ 1 1 [.int .i64 t.cat, .int .u8 t.chr.toNat, .string t.name] rfl rfl ?_ ?_ ?_ ?_ ?_))
            · exact new_cells _ _ _
            · simp [Value.oneCell']
            · simp [maxLen]; omega
            · omega
            intro v' w5 h6
            have H6 := Lib.hid (BACK.out _ _ (show Sat W ((rowT v' (acc ++ [t]) * (rowT (.slice wa ma wc) LA * own W)) * Y) w5 from (rowT_snoc h6 (by rw [HNA.out]) rfl).asc'))
            clear h6 d0 d1 d2 hd'
            go_wp2
            go_roundg (ny - (k + 1))
            case measure => omega
            case rel => exact ⟨k + 1, acc ++ [t], by omega, rfl, by go_num, by rw [List.length_append, HNA.out]; simp; omega, H6.out⟩
          · rw [afterS_no he] at HAF
            have q1 : (afterE (keptS [{ grp0 0 with after := LA }] 1 acc) t == 0) = false := by rw [beq_eq_false_iff_ne]; exact he
            generalize afterE (keptS [{ grp0 0 with after := LA }] 1 acc) t = er at *
            clear he
            go_wp2_with fail
            refine Calls.mono HAF.out ?_
            rintro e w4 ⟨rfl, h4⟩
            have H4 := Lib.hid h4
            clear a0 a1 a2 hb' h4 ht
            go_wp2_with (go_at_call 8; with_reducible refine Calls.mono (num_any _ _) ?_; rintro e w' ⟨rfl, rfl⟩)
            go_roundg (ny - (k + 1))
            case measure => omega
            case rel => exact ⟨k + 1, acc, by omega, rfl, by go_num, by have := HACC.out; omega, H4.out⟩
        · obtain rfl : ny = k := by omega
          obtain ⟨gA, hgA⟩ : ∃ gA, gA = ({ grp0 0 with after := LA } : GrpS) := ⟨_, rfl⟩
          have hko : ∀ L, ({ grp0 1 with after := L } : GrpS).keysOK := fun L k r h => by cases h
          have hkA : gA.keysOK := by rw [hgA]; exact fun k r h => by cases h
          have hgk : gA.kind = 0 := by rw [hgA]; rfl
          have hga : gA.after = LA := by rw [hgA]
          rw [← hgA] at HX
          obtain ⟨S1, hS1⟩ : ∃ S1, (keptS [gA] 1 acc).ended [gA] { grp0 1 with after := acc } = S1 := ⟨_, rfl⟩
          obtain ⟨S2, hS2⟩ : ∃ S2, S1.ended [] gA = S2 := ⟨_, rfl⟩
          have g1 : S1.groups = [] ++ [gA] := by rw [← hS1]; rfl
          have l1 : S1.later = acc := by rw [← hS1]; rfl
          have g2 : S2.groups = [] := by rw [← hS2]; rfl
          have l2 : S2.later = LA := by rw [← hS2]; exact hga
          have he1 := end_some [gA] { grp0 1 with after := acc } rfl (hko acc) HX.out
          rw [hS1] at he1
          have HE1 := Lib.hid he1
          have HE2 := Lib.hid (show ∀ A N w, TabAt W A b N S1 w → _ from fun A N w h => end_some [] gA g1 hkA h)
          rw [hS2, hgk] at HE2
          have HE3 := Lib.hid (show ∀ A N w, TabAt W A b N S2 w → _ from fun A N w h => end_none g2 h)
          have HL1 := Lib.hid (show ∀ A N w, TabAt W A b N S1 w → _ from fun A N w h => later_any h)
          have HL2 := Lib.hid (show ∀ A N w, TabAt W A b N S2 w → _ from fun A N w h => later_any h)
          rw [l1] at HL1
          rw [l2] at HL2
          obtain ⟨mb, hmb⟩ : ∃ mb, acc.length = mb := ⟨_, rfl⟩
          rw [hmb] at HE1 HACC
          rw [hmb]
          have HMB := Lib.hid hmb
          have hgk1 : ({ grp0 1 with after := acc } : GrpS).kind = 1 := rfl
          rw [hgk1] at HE1
          clear hko hkA hgk hga hgA hS1 hS2 g1 l1 g2 l2 he1 hmb hgk1 HX hlt
          go_wp2_with fail
          refine Calls.mono HE1.out ?_
          rintro e w5 ⟨rfl, N1, h5⟩
          clear HE1
          go_wp2_with fail
          refine Calls.mono (HL1.out _ _ _ h5) ?_
          rintro e w6 ⟨u1, rfl, h6⟩
          clear HL1 h5
          go_wp2_with fail
          refine Calls.mono (HE2.out _ _ _ h6) ?_
          rintro e w7 ⟨rfl, N2, h7⟩
          clear HE2 h6
          go_wp2_with fail
          refine Calls.mono (HL2.out _ _ _ h7) ?_
          rintro e w8 ⟨u2, rfl, h8⟩
          clear h7
          go_wp2_with fail
          refine Calls.mono (HE3.out _ _ _ h8) ?_
          rintro e w' ⟨rfl, rfl⟩
          clear HE3
          have H8 := Lib.hid h8
          clear h8
          go_wp2_with (go_at_call 8; with_reducible refine Calls.mono (num_any _ _) ?_; rintro e w' ⟨rfl, rfl⟩)
          refine Calls.mono (sameT_any acc acc u1 (.slice va mb vc) _ (rowT_rd H8.out.sat.r) (rowT_rd H8.out.sat.r.r)) ?_
          rintro e w9 ⟨rfl, q, rfl⟩
          rw [show decide (acc = acc) = true from decide_eq_true rfl]
          have H9 := Lib.hid (H8.out.drewN (q := q))
          generalize w8.drewN q = W9 at *
          clear H8
          go_wp2_with fail
          refine Calls.mono (sameT_any LA LA u2 (.slice wa ma wc) _ (rowT_rd H9.out.sat) (rowT_rd H9.out.sat.r.r.r)) ?_
          rintro e w9 ⟨rfl, q, rfl⟩
          rw [show decide (LA = LA) = true from decide_eq_true rfl]
          have H10 := Lib.hid (H9.out.drewN (q := q))
          generalize W9.drewN q = W10 at *
          clear H9
          go_wp2_with fail
          refine Calls.mono (HL2.out _ _ _ H10.out) ?_
          rintro e w11 ⟨u3, rfl, h11⟩
          have H11 := Lib.hid h11
          clear h11 H10
          go_wp2_with fail
          refine Calls.mono (sameT_any LA LA u3 (.slice wa ma wc) _ (rowT_rd H11.out.sat) (rowT_rd H11.out.sat.r.r.r.r)) ?_
          rintro e w9 ⟨rfl, q, rfl⟩
          rw [show decide (LA = LA) = true from decide_eq_true rfl]
          have H12 := Lib.hid (H11.out.drewN (q := q))
          generalize w11.drewN q = W12 at *
          clear H11
          go_wp2
          go_ret
          exact ⟨rfl, H12.out.sat.r.r.r.r.extR⟩

end Go.Proofs.Ytebggkgciocciaa
