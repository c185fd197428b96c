/-
  The law MacrosApplies, walked. Conditions: those that the theorem names.
-/
import Derived.Test.YtlbebcioabfbgaaMacBH
import Derived.Test.YtlbebcioabfbgaaMacBC
import Derived.Test.YtlbebcioabfbgaaMacAB
namespace Go.Proofs.Ytlbebcioabfbgaa
open Go.RowKit Go.Sp
variable {W w w' : World} {F : HProp}

def resL : Except Int (List Tok) → List Tok | .ok x => x | .error _ => []
def resE : Except Int (List Tok) → Int | .ok _ => 0 | .error k => k

theorem ListPost.any {r : Except Int (List Tok)} {e : Ending} (h : ListPost w r e w') : ∃ v, e = .returned (.tuple #[v, .int .i64 (resE r)]) ∧ Sat w (rowT v (resL r) * own w) w' := by
  cases r with
  | ok x => exact h
  | error k => exact ⟨_, h.1, h.2.row_nil⟩


/-- the copies of lists, one by one -/
theorem rowUU_snoc {v u : Value} {us : List Value} {acc : List (List Tok)} {X : List Tok} (hul : us.length = acc.length) (h : Sat W (row v (acc.length + 1) 22 1 (us ++ [u]) * (rows us acc * (rowT u X * F))) w) : Sat W (rowUU v (us ++ [u]) (acc ++ [X]) * F) w := by
  refine h.of_eq ?_
  unfold rowUU
  rw [rows_snoc us acc u X hul, List.length_append]
  simp only [List.length_singleton]
  ac_rfl

abbrev mBx (vp vb : Value) (long : Bool) : Obj := .cells #[vp, vb, .bool long] 29


set_option maxRecDepth 100000 in
set_option maxHeartbeats 16000000 in
theorem applies_law (P B L : List Tok) (A : List (List Tok)) (vp vb va vl : Value) (long : Bool) (w : World) (hp : RdT w vp P) (hb : RdT w vb B) (ha : RdTT w va A) (hl : RdT w vl L)
    (hnP : P.length ≤ 1048576) (hnB : B.length ≤ 1048576) (hnA : A.length ≤ 1048576) (hnI : ∀ a ∈ A, a.length ≤ 1048576) (hnL : L.length ≤ 1048576) :
    Calls Try.prog 5 #[.agg #[vp, vb, .bool long], va, vl] w fun e w' => e = .returned (.bool true) ∧ Ext w w' := by
  obtain ⟨j0, hj, hy0, hy1, hy2⟩ := info_parts info_sl
  have HJ := Lib.hid hj
  have HY0 := Lib.hid hy0
  have HY1 := Lib.hid hy1
  have HY2 := Lib.hid hy2
  clear hj hy0 hy1 hy2
  have HP := Lib.hid hp
  have HB := Lib.hid hb
  have HA := Lib.hid ha
  have HL := Lib.hid hl
  have NP := Lib.hid (show P.length ≤ 4000000000 by omega)
  have NB := Lib.hid (show B.length ≤ 4000000000 by omega)
  have NL := Lib.hid (show L.length ≤ 4000000000 by omega)
  have NI := Lib.hid hnI
  obtain ⟨-, -, -, ⟨aa, ca, hva, hca⟩, -⟩ := ha
  obtain ⟨na, hna⟩ : ∃ na, A.length = na := ⟨_, rfl⟩
  have NA := Lib.hid hna
  rw [hna] at hva hca hnA
  subst hva
  obtain ⟨o1, ho1⟩ : ∃ o, resL (applyM P B A) = o := ⟨_, rfl⟩
  obtain ⟨k1, hk1⟩ : ∃ o, resE (applyM P B A) = o := ⟨_, rfl⟩
  obtain ⟨o2, ho2⟩ : ∃ o, resL (expandM P B long L) = o := ⟨_, rfl⟩
  obtain ⟨k2, hk2⟩ : ∃ o, resE (expandM P B long L) = o := ⟨_, rfl⟩
  have O1 := Lib.hid ho1
  have K1 := Lib.hid hk1
  have O2 := Lib.hid ho2
  have K2 := Lib.hid hk2
  have H1 := Lib.hid ((Sat.start w).alloc (mBx vp vb long))
  clear hp hb hl hnP hnB hnI hnL hna ho1 hk1 ho2 hk2
  go_enter Try.func5, Try.ntmps5
  go_upto_block 0 with fail
  generalize w.alloc (mBx vp vb long) = W1 at *
  generalize w.heap.size = bm at *
  go_wp2_with fail
  go_loopw [7, 8] (fun s i wr => ∃ (k : Nat) (us : List Value) (acc : List (List Tok)), k ≤ na ∧ i = .int .i64 k ∧ us.length = acc.length ∧ acc.length = k ∧ acc ++ A.drop k = A ∧ Sat w (rowUU s us acc * (pts bm (mBx vp vb long) * own w)) wr) (fun _ i _ => na - (intOf i).toNat)
  case atStart => exact ⟨0, [], [], by omega, rfl, rfl, rfl, rfl, H1.out.of_eq rowUU_nil.symm⟩
  case round =>
    obtain ⟨k, us, acc, hk, rfl, hul, hak, ha, hx⟩ := hrel
    have HUL := Lib.hid hul
    have HAK := Lib.hid hak
    have HAA := Lib.hid ha
    have HX := Lib.hid hx
    clear hul hak ha hx H1
    obtain ⟨-, -, -, ⟨xa, xc, rfl, -⟩, -⟩ := rowUU_rd HUL.out HX.out
    by_cases hlt : k < na
    · have hlt' : k < A.length := by rw [NA.out]; exact hlt
      obtain ⟨b2, off2, ya, yc, rfl, hcell, hrd, hb2⟩ := (HA.out.ext HX.out.r.r.toExt).at hlt'
      have HA2 := Lib.hid (show acc ++ [A[k]] ++ A.drop (k + 1) = A by
        rw [List.append_assoc, List.singleton_append, ← List.drop_eq_getElem_cons hlt']; exact HAA.out)
      have hnx := NI.out A[k] (List.getElem_mem hlt')
      generalize A[k] = X at *
      have HTK := Lib.hid (tokens_any X _ wr (by omega) hrd)
      obtain ⟨nx, hnx2⟩ : ∃ nx, X.length = nx := ⟨_, rfl⟩
      rw [hnx2] at hcell HTK
      have hk9 : acc.length ≤ 1048576 := by rw [HAK.out]; omega
      have lt2 : (k : Int) < (na : Int) := by omega
      clear hnx hnx2 hrd
      go_wp2_with fail
      refine Calls.mono HTK.out ?_
      rintro e w1 ⟨u, rfl, h1⟩
      have H2 := Lib.hid (Sat.frame HX.out h1)
      obtain ⟨ua, uc, rfl, -⟩ := (rowT_rd h1).capd
      clear h1 HTK
      go_wp2_with (at_builtin; refine wpList_append_rd rfl _ _ 39 rfl j0 _ 24 Try.underlying39 HJ.out HY0.out HY1.out HY2.out rfl (by omega) rfl (H2.out.allocD.of_eq (show _ = row (.slice xa acc.length xc) acc.length 22 1 us * (rows us acc * (rowT (.slice ua X.length uc) X * (pts bm (mBx vp vb long) * own w))) by unfold rowUU; ac_rfl)) _ 1 [.slice ua X.length uc] rfl (rd_new w1 _ _) (by simp [Value.oneCell']) ?_ ?_ ?_)
      · simp [maxLen]; omega
      · omega
      intro v2 w2 h8
      have H8 := Lib.hid (rowUU_snoc HUL.out h8)
      clear h8
      go_wp2
      go_roundw
      case rel => exact ⟨k + 1, _, acc ++ [X], by omega, by go_num, by simp [HUL.out], by simp [HAK.out], HA2.out, H8.out⟩
      case measure => simp [intOf]; omega
    · have hkn : na = k := by omega
      subst hkn
      have hacc : acc = A := by
        have e := HAA.out
        rwa [List.drop_of_length_le (by rw [NA.out]; exact Nat.le_refl _), List.append_nil] at e
      subst hacc
      obtain ⟨wo, hwo⟩ : ∃ wo : World, wo = wr := ⟨_, rfl⟩
      subst hwo
      have NA9 := Lib.hid (show acc.length ≤ 4000000000 by rw [NA.out]; omega)
      have NI9 := Lib.hid (show ∀ a ∈ acc, a.length ≤ 4000000000 from fun a h => by have := NI.out a h; omega)
      rw [NA.out] at HX ⊢
      have a0 := HX.out.r.cell (i := 0) rfl
      have a1 := HX.out.r.cell (i := 1) rfl
      have a2 := HX.out.r.cell (i := 2) rfl
      have al := HX.out.r.lt
      go_wp2_with fail
      refine Calls.mono (given_at P B vp vb long _ (HP.out.ext HX.out.r.r.toExt) (HB.out.ext HX.out.r.r.toExt) NP.out NB.out) ?_
      rintro e w1 ⟨ux, vx, rfl, hx, hux, hvx⟩
      have HX1 := Lib.hid (HX.out.ext hx)
      have HAP := Lib.hid (apply_any P B acc ux vx _ long w1 hux hvx (rowUU_rd HUL.out HX1.out) NP.out NB.out NA9.out NI9.out)
      clear hx hux hvx HX a0 a1 a2 al
      go_wp2_with fail
      refine Calls.mono HAP.out ?_
      intro e w2 h
      obtain ⟨oa, rfl, hs⟩ := h.any
      rw [O1.out] at hs
      rw [K1.out]
      have HX2 := Lib.hid (Sat.frame HX1.out hs)
      clear h hs HAP HX1
      have a0 := HX2.out.r.r.cell (i := 0) rfl
      have a1 := HX2.out.r.r.cell (i := 1) rfl
      have a2 := HX2.out.r.r.cell (i := 2) rfl
      have al := HX2.out.r.r.lt
      have HAP := Lib.hid (applyR_any P B acc vp vb _ long w2 (HP.out.ext HX2.out.r.r.r.toExt) (HB.out.ext HX2.out.r.r.r.toExt) (HA.out.ext HX2.out.r.r.r.toExt) NP.out NB.out NA9.out NI9.out)
      go_wp2_with fail
      refine Calls.mono HAP.out ?_
      intro e w3 h
      obtain ⟨ob, rfl, hs⟩ := h.any
      rw [O1.out] at hs
      rw [K1.out]
      have HX3 := Lib.hid (Sat.frame HX2.out hs)
      clear h hs HAP HX2 a0 a1 a2 al
      go_wp2_with fail
      refine Calls.mono (tokens_any L vl w3 NL.out (HL.out.ext HX3.out.r.r.r.r.toExt)) ?_
      rintro e w4 ⟨ut, rfl, hs⟩
      have HX4 := Lib.hid (Sat.frame HX3.out hs)
      clear hs HX3
      have a0 := HX4.out.r.r.r.r.cell (i := 0) rfl
      have a1 := HX4.out.r.r.r.r.cell (i := 1) rfl
      have a2 := HX4.out.r.r.r.r.cell (i := 2) rfl
      have al := HX4.out.r.r.r.r.lt
      go_wp2_with fail
      refine Calls.mono (given_at P B vp vb long _ (HP.out.ext HX4.out.r.r.r.r.r.toExt) (HB.out.ext HX4.out.r.r.r.r.r.toExt) NP.out NB.out) ?_
      rintro e w5 ⟨uy, vy, rfl, hx, huy, hvy⟩
      have HX5 := Lib.hid (HX4.out.ext hx)
      have HAP := Lib.hid (expand_any P B L uy vy ut long w5 huy hvy (rowT_rd HX5.out) NP.out NB.out NL.out)
      clear hx huy hvy HX4 a0 a1 a2 al
      go_wp2_with fail
      refine Calls.mono HAP.out ?_
      intro e w6 h
      obtain ⟨oc, rfl, hs⟩ := h.any
      rw [O2.out] at hs
      rw [K2.out]
      have HX6 := Lib.hid (Sat.frame HX5.out hs)
      clear h hs HAP HX5
      have a0 := HX6.out.r.r.r.r.r.cell (i := 0) rfl
      have a1 := HX6.out.r.r.r.r.r.cell (i := 1) rfl
      have a2 := HX6.out.r.r.r.r.r.cell (i := 2) rfl
      have al := HX6.out.r.r.r.r.r.lt
      have HAP := Lib.hid (expandR_any P B L vp vb vl long w6 (HP.out.ext HX6.out.r.r.r.r.r.r.toExt) (HB.out.ext HX6.out.r.r.r.r.r.r.toExt) (HL.out.ext HX6.out.r.r.r.r.r.r.toExt) NP.out NB.out NL.out)
      go_wp2_with fail
      refine Calls.mono HAP.out ?_
      intro e w7 h
      obtain ⟨od, rfl, hs⟩ := h.any
      rw [O2.out] at hs
      rw [K2.out]
      have HX7 := Lib.hid ((Sat.frame HX6.out hs).of_eq (show _ = rowUU (.slice xa na xc) us acc * (rowT oa o1 * (rowT ob o1 * (rowT oc o2 * (rowT od o2 * (rowT ut L * (pts bm (mBx vp vb long) * own w)))))) by ac_rfl))
      clear h hs HAP HX6 a0 a1 a2 al
      have HS1 := Lib.hid (sameT_self oa ob w7 (rowT_rd HX7.out.r) (rowT_rd HX7.out.r.r))
      go_wp2_with (first
        | (go_at_call 14; with_reducible refine Calls.mono (num_any _ _) ?_; rintro e w' ⟨rfl, rfl⟩)
        | (go_at_call 16; with_reducible refine Calls.mono HS1.out ?_; rintro e w8 ⟨rfl, hx⟩; have HX8 := Lib.hid (HX7.out.ext hx); clear hx HS1; have HS2 := Lib.hid (sameT_self oc od w8 (rowT_rd HX8.out.r.r.r) (rowT_rd HX8.out.r.r.r.r)))
        | (go_at_call 16; with_reducible refine Calls.mono HS2.out ?_; rintro e w9 ⟨rfl, hx⟩; have HX9 := Lib.hid (HX8.out.ext hx); clear hx HS2; have HLS := Lib.hid (lists_same acc _ _ w9 NA9.out (rowUU_rd HUL.out HX9.out) (HA.out.ext HX9.out.r.r.r.r.r.r.r.toExt)))
        | (go_at_call 22; with_reducible refine Calls.mono HLS.out ?_; rintro e wa ⟨rfl, hx⟩; have HXA := Lib.hid (HX9.out.ext hx); clear hx HLS; have HS3 := Lib.hid (sameT_self ut vl wa (rowT_rd HXA.out.r.r.r.r.r) (HL.out.ext HXA.out.r.r.r.r.r.r.r.toExt)))
        | (go_at_call 16; with_reducible refine Calls.mono HS3.out ?_; rintro e wb ⟨rfl, hx⟩; have HXB := Lib.hid (HXA.out.ext hx); clear hx HS3))
      obtain ⟨wo, hwo⟩ : ∃ wo : World, wo = wb := ⟨_, rfl⟩
      subst hwo
      go_loopw [18] (fun i wr => ∃ (k : Nat) (LL : List (List Tok)), k ≤ na ∧ i = .int .i64 k ∧ LL.length = us.length ∧ (∀ a ∈ LL, a.length ≤ 4000000000) ∧ Sat w (rowUU (.slice xa na xc) us LL * (rowT oa o1 * (rowT ob o1 * (rowT oc o2 * (rowT od o2 * (rowT ut L * (pts bm (mBx vp vb long) * own w))))))) wr) (fun i _ => na - (intOf i).toNat)
      case atStart => exact ⟨0, acc, by omega, rfl, HUL.out.symm, NI9.out, HXB.out⟩
      case round =>
        obtain ⟨k, LL, hk, rfl, hll, hbd, hx⟩ := hrel
        have HLL := Lib.hid hll
        have HBD := Lib.hid hbd
        have HY := Lib.hid hx
        clear hll hbd hx
        by_cases hlt : k < na
        · have hku : k < us.length := by rw [HUL.out, NA.out]; exact hlt
          have hkl : k < LL.length := by rw [HLL.out]; exact hku
          obtain ⟨R, hR1, hR2⟩ := rows_at (us := us) (LL := LL) (i := k) HLL.out.symm hkl
          have hsat := HY.out
          unfold rowUU at hsat
          rw [hR1] at hsat
          obtain ⟨g1, c1, hv1, hcc⟩ := hsat.asc.row_val
          obtain ⟨g, hg, hcell⟩ := hcc k us[k] (List.getElem?_eq_getElem hku)
          simp only [Value.slice.injEq] at hv1
          obtain ⟨hv1, -, -⟩ := hv1
          rw [hg] at hv1
          subst hv1
          have HSP := Lib.hid (spoil_any LL[k] us[k] wr (HBD.out _ (List.getElem_mem hkl)) (hsat.of_eq (show _ = rowT us[k] LL[k] * (R * (row (.slice (some ⟨g, 0, none⟩) na xc) LL.length 22 1 us * (rowT oa o1 * (rowT ob o1 * (rowT oc o2 * (rowT od o2 * (rowT ut L * (pts bm (mBx vp vb long) * own w)))))))) by ac_rfl)))
          have HBK := Lib.hid (fun (L' : List Tok) (hL' : L'.length = LL[k].length) (w' : World) (h : Sat w (rowT us[k] L' * (R * (row (.slice (some ⟨g, 0, none⟩) na xc) LL.length 22 1 us * (rowT oa o1 * (rowT ob o1 * (rowT oc o2 * (rowT od o2 * (rowT ut L * (pts bm (mBx vp vb long) * own w)))))))) ) w') => show Sat w (rowUU (.slice (some ⟨g, 0, none⟩) na xc) us (LL.set k L') * (rowT oa o1 * (rowT ob o1 * (rowT oc o2 * (rowT od o2 * (rowT ut L * (pts bm (mBx vp vb long) * own w))))))) w' from by
            have e := hR2 us[k] L'
            rw [set_same] at e
            unfold rowUU
            rw [e, List.length_set]
            exact h.of_eq (by ac_rfl))
          have HBD2 := Lib.hid (fun (L' : List Tok) (hL' : L'.length = LL[k].length) => show ∀ a ∈ LL.set k L', a.length ≤ 4000000000 from fun a h => by
            rcases List.mem_or_eq_of_mem_set h with h | rfl
            · exact HBD.out a h
            · rw [hL']; exact HBD.out _ (List.getElem_mem hkl))
          have lt3 : (k : Int) < (na : Int) := by omega
          have hgl : g < wr.heap.size := World.block_lt_of_cell? wr _ hcell
          generalize us[k] = uk at *
          clear hsat hR1 hR2 hcc
          go_wp2_with fail
          refine Calls.mono HSP.out ?_
          rintro e w8 ⟨rfl, L', hL', h8⟩
          have H8 := Lib.hid (HBK.out L' hL' w8 h8)
          have HB8 := Lib.hid (HBD2.out L' hL')
          clear h8 hL' HSP HBK HBD2
          go_wp2
          go_roundw
          case rel => exact ⟨k + 1, LL.set k L', by omega, by go_num, by rw [List.length_set]; exact HLL.out, HB8.out, H8.out⟩
          case measure => simp [intOf]; omega
        · have hkn : na = k := by omega
          subst hkn
          have HZ1 := Lib.hid (HY.out.r.of_eq (show _ = rowT ut L * (rowT oa o1 * (rowT ob o1 * (rowT oc o2 * (rowT od o2 * (pts bm (mBx vp vb long) * own w))))) by ac_rfl))
          have HSP := Lib.hid (spoil_any L ut wr NL.out HZ1.out)
          go_wp2_with fail
          refine Calls.mono HSP.out ?_
          rintro e w8 ⟨rfl, L', hL', h8⟩
          have HZ2 := Lib.hid h8.r
          clear h8 hL' HSP HZ1
          have HS1 := Lib.hid (sameT_self oa ob w8 (rowT_rd HZ2.out) (rowT_rd HZ2.out.r))
          go_wp2_with (first
            | (go_at_call 16; with_reducible refine Calls.mono HS1.out ?_; rintro e w9 ⟨rfl, hx⟩; have HZ3 := Lib.hid (HZ2.out.ext hx); clear hx HS1; have HS2 := Lib.hid (sameT_self oc od w9 (rowT_rd HZ3.out.r.r) (rowT_rd HZ3.out.r.r.r)))
            | (go_at_call 16; with_reducible refine Calls.mono HS2.out ?_; rintro e wc ⟨rfl, hx⟩; have HZ4 := Lib.hid (HZ3.out.ext hx); clear hx HS2)
            | (go_at_call 18; with_reducible refine Calls.mono (live_any _) ?_; rintro e wd ⟨rfl, hx⟩; have HZ5 := Lib.hid (HZ4.out.ext hx); clear hx))
          go_ret
          exact ⟨rfl, HZ5.out.r.r.r.r.r.toExt⟩

end Go.Proofs.Ytlbebcioabfbgaa
