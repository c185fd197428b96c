/-
  The law MacrosMatches, walked. Conditions: those that the theorem names.
-/
import Derived.Test.YtlbebcioabfbgaaMacBI
namespace Go.Proofs.Ytlbebcioabfbgaa
open Go.RowKit Go.Sp
variable {W w w' : World} {F : HProp}


theorem letter_x (w : World) : Calls Try.prog 23 #[.int .u8 120] w fun r w' => r = .returned (.agg #[.int .i64 11, .int .u8 120, .string ByteArray.empty]) ∧ Ext w w' := by
  have := letter_any 120 w
  exact this

def tX : Tok := ⟨11, 120, ByteArray.empty⟩

def resA : Except Int (List (List Tok) × Nat) → List (List Tok) | .ok x => x.1 | .error _ => []
def resN : Except Int (List (List Tok) × Nat) → Nat | .ok x => x.2 | .error _ => 0
def resF : Except Int (List (List Tok) × Nat) → Int | .ok _ => 0 | .error k => k

theorem MatchPost.any {r : Except Int (List (List Tok) × Nat)} {e : Ending} (h : MatchPost w r e w') : ∃ v us, e = .returned (.tuple #[v, .int .i64 (resN r), .int .i64 (resF r)]) ∧ us.length = (resA r).length ∧ Sat w (rowUU v us (resA r) * own w) w' := by
  cases r with
  | ok x => obtain ⟨v, us, h1, h2, h3⟩ := h; exact ⟨v, us, h1, h2, h3⟩
  | error k => exact ⟨.slice none 0 0, [], h.1, rfl, h.2.of_eq rowUU_nil.symm⟩

theorem resA_le {P B L : List Tok} {long : Bool} (hL : L.length ≤ 1048576) (hP : P.length ≤ 1048576) : (resA (matchM P B long L)).length ≤ 1048576 ∧ ∀ a ∈ resA (matchM P B long L), a.length ≤ 1048576 := by
  cases hm : matchM P B long L with
  | error k => exact ⟨by simp [resA], fun a h => by simp [resA] at h⟩
  | ok x =>
    obtain ⟨h1, h2, h3, h4⟩ := matchM_le hm
    exact ⟨by simp only [resA]; omega, fun a h => by have := h3 a h; omega⟩

set_option maxRecDepth 100000 in
set_option maxHeartbeats 16000000 in
theorem matches_law (P B L : List Tok) (vp vb vl : Value) (long : Bool) (w : World) (hp : RdT w vp P) (hb : RdT w vb B) (hl : RdT w vl L)
    (hnP : P.length ≤ 1048576) (hnB : B.length ≤ 1048576) (hnL : L.length ≤ 1048576) :
    Calls Try.prog 4 #[.agg #[vp, vb, .bool long], vl] w fun e w' => e = .returned (.bool true) ∧ Ext w w' := by
  obtain ⟨i0, hi, hz0, hz1, hz2⟩ := info_parts info_tok
  have HI := Lib.hid hi
  have HZ0 := Lib.hid hz0
  have HZ1 := Lib.hid hz1
  have HZ2 := Lib.hid hz2
  clear hi hz0 hz1 hz2
  have HP := Lib.hid hp
  have HB := Lib.hid hb
  have HL := Lib.hid hl
  have NP := Lib.hid (show P.length ≤ 4000000000 by omega)
  have NB := Lib.hid (show B.length ≤ 4000000000 by omega)
  have NL := Lib.hid (show L.length ≤ 4000000000 by omega)
  have hAle := resA_le (B := B) (long := long) hnL hnP
  obtain ⟨A, hA⟩ : ∃ A, resA (matchM P B long L) = A := ⟨_, rfl⟩
  obtain ⟨n1, hn1⟩ : ∃ o, resN (matchM P B long L) = o := ⟨_, rfl⟩
  obtain ⟨k1, hk1⟩ : ∃ o, resF (matchM P B long L) = o := ⟨_, rfl⟩
  rw [hA] at hAle
  have RA := Lib.hid hA
  have RN := Lib.hid hn1
  have RK := Lib.hid hk1
  have NAI := Lib.hid hAle.2
  obtain ⟨na, hna⟩ : ∃ na, A.length = na := ⟨_, rfl⟩
  have NA := Lib.hid hna
  have hna9 : na ≤ 1048576 := by rw [← hna]; exact hAle.1
  have H1 := Lib.hid ((Sat.start w).alloc (mBx vp vb long))
  clear hp hb hl hnP hnB hnL hAle hA hn1 hk1 hna
  go_enter Try.func4, Try.ntmps4
  go_upto_region 1 with fail
  generalize w.alloc (mBx vp vb long) = W1 at *
  generalize w.heap.size = bm at *
  have a0 := H1.out.cell (i := 0) rfl
  have a1 := H1.out.cell (i := 1) rfl
  have a2 := H1.out.cell (i := 2) rfl
  have al := H1.out.lt
  go_wp2_with fail
  refine Calls.mono (given_any P B vp vb long _ (HP.out.ext H1.out.r.toExt) (HB.out.ext H1.out.r.toExt) NP.out NB.out) ?_
  rintro e w1 ⟨ux, vx, rfl, hs⟩
  obtain ⟨xa, xc, rfl, -⟩ := (rowT_rd hs).capd
  obtain ⟨ya, yc, rfl, -⟩ := (rowT_rd hs.r).capd
  have HX1 := Lib.hid ((Sat.frame (A := rowT (.slice xa P.length xc) P * rowT (.slice ya B.length yc) B) H1.out (hs.of_eq (by ac_rfl))).alloc (mObj (.slice xa P.length xc) (.slice ya B.length yc) long 25))
  clear hs H1 a0 a1 a2 al
  go_upto_region 2 with fail
  generalize w1.alloc (mObj (.slice xa P.length xc) (.slice ya B.length yc) long 25) = W2 at *
  generalize w1.heap.size = bx at *
  go_wp2_with fail
  refine Calls.mono (tokens_any L vl W2 NL.out (HL.out.ext HX1.out.r.r.r.toExt)) ?_
  rintro e w2 ⟨ut, rfl, hs⟩
  have HX2 := Lib.hid ((Sat.frame HX1.out hs).of_eq (show _ = rowT ut L * (pts bx (mObj (.slice xa P.length xc) (.slice ya B.length yc) long 25) * (pts bm (mBx vp vb long) * (rowT (.slice xa P.length xc) P * (rowT (.slice ya B.length yc) B * own w)))) by ac_rfl))
  clear hs HX1
  have b0 := HX2.out.r.cell (i := 0) rfl
  have b1 := HX2.out.r.cell (i := 1) rfl
  have b2 := HX2.out.r.cell (i := 2) rfl
  have bl := HX2.out.r.lt
  have HMT := Lib.hid (match_any P B L (.slice xa P.length xc) (.slice ya B.length yc) ut long w2 (rowT_rd HX2.out.r.r.r) (rowT_rd HX2.out.r.r.r.r) (rowT_rd HX2.out) NP.out NB.out NL.out)
  go_wp2_with fail
  refine Calls.mono HMT.out ?_
  intro e w3 h
  obtain ⟨va, usa, rfl, hul, hs⟩ := h.any
  rw [RA.out] at hul hs
  rw [RN.out, RK.out]
  have HULA := Lib.hid hul
  obtain ⟨-, -, -, ⟨pa, pc, rfl, -⟩, -⟩ := rowUU_rd hul hs
  have HX3 := Lib.hid (Sat.frame HX2.out hs)
  clear h hs hul HMT HX2 b0 b1 b2 bl
  have a0 := HX3.out.r.r.r.cell (i := 0) rfl
  have a1 := HX3.out.r.r.r.cell (i := 1) rfl
  have a2 := HX3.out.r.r.r.cell (i := 2) rfl
  have al := HX3.out.r.r.r.lt
  have HMT := Lib.hid (matchR_any P B L vp vb vl long w3 (HP.out.ext HX3.out.r.r.r.r.r.r.toExt) (HB.out.ext HX3.out.r.r.r.r.r.r.toExt) (HL.out.ext HX3.out.r.r.r.r.r.r.toExt) NP.out NB.out NL.out)
  go_wp2_with fail
  refine Calls.mono HMT.out ?_
  intro e w4 h
  obtain ⟨vq, usb, rfl, hul, hs⟩ := h.any
  rw [RA.out] at hul hs
  rw [RN.out, RK.out]
  have HULB := Lib.hid hul
  obtain ⟨-, -, -, ⟨qa, qc, rfl, -⟩, -⟩ := rowUU_rd hul hs
  have HX4 := Lib.hid (Sat.frame HX3.out hs)
  clear h hs hul HMT HX3 a0 a1 a2 al
  rw [NA.out] at HX4 ⊢
  have HLS := Lib.hid (lists_same A (.slice pa na pc) (.slice qa na qc) w4 (by rw [NA.out]; omega) (rowUU_rd HULA.out HX4.out.r) (rowUU_rd HULB.out HX4.out))
  go_wp2_with fail
  refine Calls.mono HLS.out ?_
  rintro e w5 ⟨rfl, hx⟩
  have HX5 := Lib.hid (HX4.out.ext hx)
  clear hx HLS HX4
  have a0 := HX5.out.r.r.r.r.cell (i := 0) rfl
  have a1 := HX5.out.r.r.r.r.cell (i := 1) rfl
  have a2 := HX5.out.r.r.r.r.cell (i := 2) rfl
  have al := HX5.out.r.r.r.r.lt
  have b0 := HX5.out.r.r.r.cell (i := 0) rfl
  have b1 := HX5.out.r.r.r.cell (i := 1) rfl
  have b2 := HX5.out.r.r.r.cell (i := 2) rfl
  have bl := HX5.out.r.r.r.lt
  have HAL := Lib.hid (alike_self P B (.slice xa P.length xc) (.slice ya B.length yc) vp vb long w5 (rowT_rd HX5.out.r.r.r.r.r) (rowT_rd HX5.out.r.r.r.r.r.r) (HP.out.ext HX5.out.r.r.r.r.r.r.r.toExt) (HB.out.ext HX5.out.r.r.r.r.r.r.r.toExt))
  go_wp2_with (first
    | (go_at_call 14; with_reducible refine Calls.mono (num_any _ _) ?_; rintro e w' ⟨rfl, rfl⟩)
    | (go_at_call 15; with_reducible refine Calls.mono HAL.out ?_; rintro e w6 ⟨rfl, hx⟩; have HX6 := Lib.hid (HX5.out.ext hx); clear hx HAL; have HS3 := Lib.hid (sameT_self ut vl w6 (rowT_rd HX6.out.r.r) (HL.out.ext HX6.out.r.r.r.r.r.r.r.toExt)))
    | (go_at_call 16; with_reducible refine Calls.mono HS3.out ?_; rintro e w7 ⟨rfl, hx⟩; have HX7 := Lib.hid ((HX6.out.ext hx).of_eq (show _ = rowT ut L * (rowUU (.slice qa na qc) usb A * (rowUU (.slice pa na pc) usa A * (pts bx (mObj (.slice xa P.length xc) (.slice ya B.length yc) long 25) * (rowT (.slice xa P.length xc) P * (rowT (.slice ya B.length yc) B * own w))))) * pts bm (mBx vp vb long) by ac_rfl)).l; clear hx HS3; have HSP := Lib.hid (spoil_any L ut w7 NL.out HX7.out))
    | (go_at_call 17; with_reducible refine Calls.mono HSP.out ?_; rintro e w8 ⟨rfl, L', hL', hx⟩; have HX8 := Lib.hid hx.r; clear hx hL' HSP; have HLS := Lib.hid (lists_same A (.slice pa na pc) (.slice qa na qc) w8 (by rw [NA.out]; omega) (rowUU_rd HULA.out HX8.out.r) (rowUU_rd HULB.out HX8.out)))
    | (go_at_call 22; with_reducible refine Calls.mono HLS.out ?_; rintro e w9 ⟨rfl, hx⟩; have HX9 := Lib.hid (HX8.out.ext hx); clear hx HLS))
  obtain ⟨wo, hwo⟩ : ∃ wo : World, wo = w9 := ⟨_, rfl⟩
  subst hwo
  go_loopw [13] (fun i wr => ∃ (k : Nat) (us : List Value) (LL : List (List Tok)), k ≤ na ∧ i = .int .i64 k ∧ us.length = na ∧ LL.length = na ∧ (∀ i, k ≤ i → ∀ a, LL[i]? = some a → a.length ≤ 1048576) ∧
    Sat w (rowUU (.slice pa na pc) us LL * (rowUU (.slice qa na qc) usb A * (pts bx (mObj (.slice xa P.length xc) (.slice ya B.length yc) long 25) * (rowT (.slice xa P.length xc) P * (rowT (.slice ya B.length yc) B * own w))))) wr) (fun i _ => na - (intOf i).toNat)
  case atStart => exact ⟨0, usa, A, by omega, rfl, by rw [HULA.out, NA.out], NA.out, fun i _ a h => NAI.out a (List.mem_of_getElem? h), HX9.out.rot⟩
  case round =>
    obtain ⟨k, us, LL, hk, rfl, hul, hll, hbd, hx⟩ := hrel
    have HUL := Lib.hid hul
    have HLL := Lib.hid hll
    have HBD := Lib.hid hbd
    have HY := Lib.hid hx
    clear hul hll hbd hx
    by_cases hlt : k < na
    · have hku : k < us.length := by rw [HUL.out]; exact hlt
      have hkl : k < LL.length := by rw [HLL.out]; exact hlt
      obtain ⟨R, hR1, hR2⟩ := rows_at (us := us) (LL := LL) (i := k) (by rw [HUL.out, HLL.out]) hkl
      have hsat := HY.out
      rw [show rowUU (.slice pa na pc) us LL = row (.slice pa na pc) LL.length 22 1 us * rows us LL from rfl, hR1] at hsat
      obtain ⟨g1, c1, hv1, hcc⟩ := hsat.asc.row_val
      obtain ⟨g, hg, hcell⟩ := hcc k us[k] (List.getElem?_eq_getElem hku)
      simp only [Value.slice.injEq] at hv1
      obtain ⟨hv1, -, -⟩ := hv1
      rw [hg] at hv1
      subst hv1
      have hbk := HBD.out k (Nat.le_refl _) LL[k] (List.getElem?_eq_getElem hkl)
      have hset : ∀ (v : Value) (M : List Tok) (w' : World), Sat w (rowT v M * (R * (row (.slice (some ⟨g, 0, none⟩) na pc) na 22 1 (us.set k v) * (rowUU (.slice qa na qc) usb A * (pts bx (mObj (.slice xa P.length xc) (.slice ya B.length yc) long 25) * (rowT (.slice xa P.length xc) P * (rowT (.slice ya B.length yc) B * own w))))))) w' → Sat w (rowUU (.slice (some ⟨g, 0, none⟩) na pc) (us.set k v) (LL.set k M) * (rowUU (.slice qa na qc) usb A * (pts bx (mObj (.slice xa P.length xc) (.slice ya B.length yc) long 25) * (rowT (.slice xa P.length xc) P * (rowT (.slice ya B.length yc) B * own w))))) w' := fun v M w' h => by
        rw [show rowUU (.slice (some ⟨g, 0, none⟩) na pc) (us.set k v) (LL.set k M) = row (.slice (some ⟨g, 0, none⟩) na pc) (LL.set k M).length 22 1 (us.set k v) * rows (us.set k v) (LL.set k M) from rfl, hR2 v M, List.length_set, HLL.out]
        exact h.of_eq (by ac_rfl)
      have HSET := Lib.hid hset
      have huk : us[k]? = some us[k] := List.getElem?_eq_getElem hku
      generalize LL[k] = X at *
      generalize us[k] = uk at *
      rw [HLL.out] at hsat
      have hs2 := hsat.of_eq (show _ = rowT uk X * (R * (row (.slice (some ⟨g, 0, none⟩) na pc) na 22 1 us * (rowUU (.slice qa na qc) usb A * (pts bx (mObj (.slice xa P.length xc) (.slice ya B.length yc) long 25) * (rowT (.slice xa P.length xc) P * (rowT (.slice ya B.length yc) B * own w)))))) by ac_rfl)
      have HSP := Lib.hid (spoil_any X uk wr (by omega) hs2)
      have HUK := Lib.hid huk
      have lt3 : (k : Int) < (na : Int) := by omega
      have hgl : g < wr.heap.size := World.block_lt_of_cell? wr _ hcell
      clear hsat hR1 hR2 hcc hs2 hset huk
      go_wp2_with fail
      refine Calls.mono HSP.out ?_
      rintro e w8 ⟨rfl, L', hL', h8⟩
      obtain ⟨ka, kc, hke, -⟩ := (rowT_rd h8).capd
      subst hke
      obtain ⟨nx, hnx⟩ : ∃ nx, L'.length = nx := ⟨_, rfl⟩
      have HNX := Lib.hid hnx
      have hnx9 : nx ≤ 1048576 := by omega
      rw [hnx] at h8 HUK hcell
      have H8 := Lib.hid h8
      clear h8 hL' HSP hnx hcell hgl
      go_upto_region 14 with fail
      have y0 := H8.out.r.r.row_cell HUK.out
      have y2 := World.block_lt_of_cell? _ _ y0
      go_region_law (first
        | (rw [if_pos (by rfl)]; go_simp; go_at_call 23; with_reducible refine Calls.mono (letter_x _) ?_; rintro e w9 ⟨rfl, hx⟩
           have H9 := Lib.hid (H8.out.drew.ext hx)
           have y3 := H9.out.r.r.row_cell HUK.out
           have y4 := World.block_lt_of_cell? _ _ y3
           clear hx)
        | (refine step_append_rd rfl _ _ 22 rfl i0 _ 32 Try.underlying22 HI.out HZ0.out HZ1.out HZ2.out rfl (by omega) rfl (H9.out.allocD.of_eq (show _ = row (.slice ka nx kc) nx 46 3 (flat L') * (R * (row (.slice (some ⟨g, 0, none⟩) na pc) na 22 1 us * (rowUU (.slice qa na qc) usb A * (pts bx (mObj (.slice xa P.length xc) (.slice ya B.length yc) long 25) * (rowT (.slice xa P.length xc) P * (rowT (.slice ya B.length yc) B * own w)))))) by unfold rowT; rw [HNX.out])) _ 1 [.int .i64 11, .int .u8 120, .string ByteArray.empty] rfl (show Rd _ _ 1 3 [.int .i64 11, .int .u8 120, .string ByteArray.empty] from rdT_box w9 tX) (by simp [Value.oneCell']) ?_ ?_ ?_
           · simp [maxLen]; omega
           · omega
           intro v' w1 h6 _
           obtain ⟨za, zc, rfl, -⟩ := h6.row_val
           have z0 := h6.r.r.row_cell HUK.out
           have z1 : w1.frozen? ⟨g, k, none⟩ = false := h6.r.r.row_free
           have z2 := World.block_lt_of_cell? _ _ z0
           have H6 := Lib.hid h6
           clear h6))
      all_goals
        go_wp2
        go_roundw
        case rel =>
          refine ⟨k + 1, us.set k (.slice za (nx + 1) zc), LL.set k (L' ++ [tX]), by omega, by go_num, by rw [List.length_set]; exact HUL.out, by rw [List.length_set]; exact HLL.out, ?_, ?_⟩
          · intro i hi a h
            rw [List.getElem?_set_ne (by omega)] at h
            exact HBD.out i (by omega) a h
          · refine HSET.out _ _ _ ?_
            have h7 := (H6.out.of_eq (show _ = row (.slice (some ⟨g, 0, none⟩) na pc) na 22 1 us * (row (.slice za (nx + 1) zc) (nx + 1) 46 3 (flat L' ++ [.int .i64 11, .int .u8 120, .string ByteArray.empty]) * (R * (rowUU (.slice qa na qc) usb A * (pts bx (mObj (.slice xa P.length xc) (.slice ya B.length yc) long 25) * (rowT (.slice xa P.length xc) P * (rowT (.slice ya B.length yc) B * own w)))))) by ac_rfl)).row_set (i := k) (u := .slice za (nx + 1) zc)
            have h8 := rowT_snoc (t := tX) (acc := L') h7.rot (by rw [HNX.out]) rfl
            exact h8.of_eq (by ac_rfl)
        case measure => simp [intOf]; omega
    · have hkn : na = k := by omega
      subst hkn
      have HZ := Lib.hid HY.out.r
      have b0 := HZ.out.r.cell (i := 0) rfl
      have b1 := HZ.out.r.cell (i := 1) rfl
      have b2 := HZ.out.r.cell (i := 2) rfl
      have bl := HZ.out.r.lt
      have HMT := Lib.hid (match_any P B L (.slice xa P.length xc) (.slice ya B.length yc) vl long wr (rowT_rd HZ.out.r.r) (rowT_rd HZ.out.r.r.r) (HL.out.ext HZ.out.r.r.r.r.toExt) NP.out NB.out NL.out)
      go_wp2_with fail
      refine Calls.mono HMT.out ?_
      intro e w3 h
      obtain ⟨vq, usc, rfl, hul, hs⟩ := h.any
      rw [RA.out] at hul hs
      rw [RN.out, RK.out]
      have HULC := Lib.hid hul
      have HZ3 := Lib.hid (Sat.frame HZ.out hs)
      clear h hs hul HMT b0 b1 b2 bl
      have HLS := Lib.hid (lists_same A vq (.slice qa na qc) w3 (by rw [NA.out]; omega) (rowUU_rd HULC.out HZ3.out) (rowUU_rd HULB.out HZ3.out.r))
      go_wp2_with (first
        | (go_at_call 22; with_reducible refine Calls.mono HLS.out ?_; rintro e w9 ⟨rfl, hx⟩; have HZ4 := Lib.hid (HZ3.out.ext hx); clear hx HLS)
        | (go_at_call 18; with_reducible refine Calls.mono (live_any _) ?_; rintro e wd ⟨rfl, hx⟩; have HZ5 := Lib.hid (HZ4.out.ext hx); clear hx))
      go_ret
      exact ⟨rfl, HZ5.out.r.r.r.r.r.toExt⟩

end Go.Proofs.Ytlbebcioabfbgaa
