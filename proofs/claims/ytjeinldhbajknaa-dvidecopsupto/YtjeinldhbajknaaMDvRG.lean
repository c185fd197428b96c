import Derived.Test.YtjeinldhbajknaaMRE
import Derived.Test.YtjeinldhbajknaaMDvRD
/-
  The document's command. Conditions: those that each theorem names.
-/
namespace Go.Proofs.Ytjeinldhbajknaa
open Go.RowKit Go.Sp Go.Conc
variable {W w w' : World} {A : HProp}

/-- what the document's command answers at a place -/
def CmdPost (W : World) (A : HProp) (l : List UInt8) (n : Nat) (e : Ending) (w' : World) : Prop :=
  ((feedAt l n).cmd.2.lost = true ∧ ∃ c a va k vc t, e = .returned (.tuple #[.agg #[.int .i64 c, .int .i64 a, .slice va k vc, .string t], .int .i64 0, .bool false]) ∧ Sat W A w') ∨
  ((feedAt l n).cmd.2.lost = false ∧ ∃ va, e = .returned (.tuple #[(feedAt l n).cmd.1.val va, .int .i64 (feedAt l n).cmd.2.at_, .bool true]) ∧ Sat W (rowI va (feedAt l n).cmd.1.args * A) w')
abbrev zeroOp : Obj := .cells #[.int .i64 0, .int .i64 0, .slice none 0 0, .string ⟨#[]⟩] 34

set_option maxRecDepth 100000 in
set_option maxHeartbeats 8000000 in
theorem command_any {ga oa cap : Nat} {l : List UInt8} (n : Nat) (hn : n < l.length) (hl : l.length ≤ 1048576) (hcap : l.length ≤ cap)
    (hv : ∀ w', Sat W A w' → Rd w' (.slice (some ⟨ga, oa, none⟩) l.length cap) l.length 1 (l.map byteV)) (h : Sat W A w) :
    Calls Try.prog 53 #[.slice (some ⟨ga, oa, none⟩) l.length cap, .int .i64 n] w fun e w' => CmdPost W A l n e w' := by
  obtain ⟨b4, hb4⟩ : ∃ b4, w.heap.size = b4 := ⟨_, rfl⟩
  have h1 := h.alloc zeroOp
  rw [hb4] at h1
  obtain ⟨W1, hW1⟩ : ∃ W1, w.alloc zeroOp = W1 := ⟨_, rfl⟩
  rw [hW1] at h1
  have hs1 : W1.heap.size = b4 + 1 := by rw [← hW1, ← hb4]; simp
  obtain ⟨c, hc⟩ : ∃ c, l[n] = c := ⟨_, rfl⟩
  have hcl : l[n]? = some c := by rw [List.getElem?_eq_getElem hn, hc]
  have hnx : (feedAt l n).next = (c.toNat, feedAt l (n + 1)) := by
    unfold feedAt Fd.next
    rw [List.drop_eq_getElem_cons hn, hc]
  have h2 := h1.alloc (ropO c.toNat n (.slice none 0 0) ⟨#[]⟩)
  rw [hs1] at h2
  obtain ⟨W2, hW2⟩ : ∃ W2, W1.alloc (ropO c.toNat n (.slice none 0 0) ⟨#[]⟩) = W2 := ⟨_, rfl⟩
  rw [hW2] at h2
  have hct := c.toNat_lt
  have HSZ := Lib.hid (sizes_any c.toNat (by omega) h2)
  have c0 := h2.cell (i := 0) rfl
  obtain ⟨_, _, a', c', e, h3⟩ := hv W1 h1.r
  obtain ⟨g', o', e1, y0⟩ := h3 n (byteV c) (by rw [List.getElem?_map, hcl]; rfl)
  cases e
  cases e1
  have HW1 := Lib.hid hW1
  have HW2 := Lib.hid hW2
  have HV := Lib.hid hv
  have HL := Lib.hid hl
  have HCAP := Lib.hid hcap
  have HNX := Lib.hid hnx
  have HN := Lib.hid hn
  have i1 : (n : Int) < (l.length : Int) := by omega
  have i2 : (0 : Int) ≤ (n : Int) := by omega
  clear h h1 h2 h3 hW1 hW2 hv hl hcap hnx hn hc hcl
  go_enter Try.func53, Try.ntmps53
  go_upto_region 1 with fail
  rw [HW1.out]
  go_upto_region 2 with fail
  rw [HW2.out]
  clear y0
  go_wp2_with fail
  with_reducible refine Calls.mono HSZ.out ?_
  rintro e w2 ⟨vs, rfl, h3⟩
  obtain ⟨vsa, vsc, hvs, -⟩ := h3.row_val
  subst hvs
  have h4 := h3.of_eq (show _ = pts (b4 + 1) (ropO c.toNat n (.slice none 0 0) ⟨#[]⟩) * (pts b4 zeroOp * (rowI (.slice vsa (refSizes c.toNat).length vsc) (refSizes c.toNat) * A)) by ac_rfl)
  have H4 := Lib.hid h4
  clear h3 h4 HSZ HW1 HW2
  obtain ⟨b7, hb7⟩ : ∃ b7, b4 + 1 = b7 := ⟨_, rfl⟩
  rw [hb7] at hs1 c0 H4 ⊢
  clear hs1
  by_cases hc9 : c.toNat ≤ 249
  rotate_left
  · have hd : decide (c.toNat ≤ 249) = false := by rw [decide_eq_false_iff_not]; exact hc9
    have HLO := Lib.hid (show (feedAt l n).cmd.2.lost = true by
      cases hh : (feedAt l n).cmd.2.lost with
      | true => rfl
      | false =>
        have h5 := code_small _ hh
        have h6 : (feedAt l n).cmd.1.code = (feedAt l n).next.1 := rfl
        rw [h6, HNX.out] at h5
        exact absurd h5 hc9)
    rw [hd]
    clear hd
    have h9 := H4.out
    have b0 := h9.cell (i := 0) rfl
    have b1 := h9.cell (i := 1) rfl
    have b2 := h9.cell (i := 2) rfl
    have b3 := h9.cell (i := 3) rfl
    have z0 := h9.r.cell (i := 0) rfl
    have z1 := h9.r.cell (i := 1) rfl
    have z2 := h9.r.cell (i := 2) rfl
    have z3 := h9.r.cell (i := 3) rfl
    have y0 := h9.r.free (i := 0)
    have y1 := h9.r.free (i := 1)
    have y2 := h9.r.free (i := 2)
    have y3 := h9.r.free (i := 3)
    have yl := h9.r.lt
    have h5 := (((h9.rot.set (i := 0) (v := .int .i64 c.toNat)).set (i := 1) (v := .int .i64 n)).set (i := 2) (v := .slice none 0 0)).set (i := 3) (v := .string ⟨#[]⟩)
    have H5 := Lib.hid h5
    clear h9 h5
    go_wp2
    clear b0 b1 b2 b3 z0 z1 z2 z3 y0 y1 y2 y3 yl
    have h5 := H5.out
    have z0 := h5.cell (i := 0) rfl
    have z1 := h5.cell (i := 1) rfl
    have z2 := h5.cell (i := 2) rfl
    have z3 := h5.cell (i := 3) rfl
    have yl := h5.lt
    refine bodyPost_ret (v := .tuple #[.agg #[.int .i64 c.toNat, .int .i64 n, .slice none 0 0, .string ⟨#[]⟩], .int .i64 0, .bool false]) (by clear h5; unfold results; go_simp) rfl (Or.inl ⟨HLO.out, _, _, _, _, _, _, rfl, h5.r.r.r⟩)
  · have hd : decide (c.toNat ≤ 249) = true := decide_eq_true hc9
    rw [hd]
    clear hd
    obtain ⟨zs, hzs⟩ : ∃ zs, sizesM c.toNat = zs := ⟨_, rfl⟩
    have hrz : refSizes c.toNat = zs.map canon := by rw [refSizes_canon, hzs]
    obtain ⟨ok1, ok2⟩ := refSizes_ok c.toNat hc9
    rw [hrz] at H4 ok1 ok2 ⊢
    rw [show (zs.map canon).length = zs.length from List.length_map _] at H4 ⊢
    rw [List.length_map] at ok2
    obtain ⟨RES, hRES⟩ : ∃ RES, (feedAt l (n + 1)).args zs [] = RES := ⟨_, rfl⟩
    have hcmd : (feedAt l n).cmd = (⟨c.toNat, n, RES.1, (RES.2.tail c.toNat RES.1).1⟩, (RES.2.tail c.toNat RES.1).2) := by
      unfold Fd.cmd
      rw [HNX.out]
      simp only
      rw [hzs, hRES]
      rfl
    have HCMD := Lib.hid hcmd
    have HRES := Lib.hid hRES
    have HOK := Lib.hid (show (∀ z ∈ zs, canon z ≠ 0 ∧ -4 ≤ canon z ∧ canon z ≤ 4) ∧ zs.length ≤ 12 from ⟨fun z hz => ok1 _ (List.mem_map_of_mem hz), ok2⟩)
    have HZS := Lib.hid hzs
    have hl := HL.out
    have hn := HN.out
    have h5 : Sat W (pts b7 (ropO c.toNat n (.slice none 0 0) ⟨#[]⟩) * (rowI (.slice none 0 0) [] * (pts b4 zeroOp * (rowI (.slice vsa zs.length vsc) (zs.map canon) * A)))) w2 :=
      (show Sat W (rowI (.slice none 0 0) [] * (pts b7 (ropO c.toNat n (.slice none 0 0) ⟨#[]⟩) * (pts b4 zeroOp * (rowI (.slice vsa zs.length vsc) (zs.map canon) * A)))) w2 from Sat.row_nil (e := 3) (size := 1) H4.out).rot
    have H5 := Lib.hid h5
    clear hrz ok1 ok2 hRES hcmd h5 H4 hzs
    have hw1 : wrap64 ((n : Int) + 1) = (n : Int) + 1 := wrap64_mid (by omega) (by omega)
    go_wp2_with fail
    clear hw1
    go_loopg [1, 10, 11, 12] zs.length (fun gg s1 s10 _ _ wx => ∃ (k p : Nat) (acc : List Int) (va : Option Addr) (vc : Nat), k ≤ zs.length ∧ gg = zs.length - k ∧ s10 = .int .i64 k ∧ s1 = .int .i64 p ∧ p ≤ l.length ∧ acc.length = k ∧ Fd.args (zs.drop k) acc (feedAt l p) = RES ∧
      Sat W (pts b7 (ropO c.toNat n (.slice va acc.length vc) ⟨#[]⟩) * (rowI (.slice va acc.length vc) acc * (pts b4 zeroOp * (rowI (.slice vsa zs.length vsc) (zs.map canon) * A)))) wx)
    case atStart => exact ⟨0, n + 1, [], none, 0, Nat.zero_le _, rfl, by go_num, by go_num, by omega, rfl, HRES.out, H5.out⟩
    case round =>
      clear H5
      obtain ⟨k, p, acc, va, vc, hk, rfl, rfl, rfl, hp, hak, hre, hx⟩ := hrel
      have HX := Lib.hid hx
      have HRE := Lib.hid hre
      have HAK := Lib.hid hak
      clear hak
      have hlen : (zs.map canon).length = zs.length := List.length_map _
      have hx' : Sat W (rowI (.slice vsa zs.length vsc) (zs.map canon) * A) wr := hx.r.r.r
      have hrv : Rd wr (.slice vsa zs.length vsc) (zs.map canon).length 1 (intsL (zs.map canon)) := Sat.rd hx'
      clear hx'
      by_cases hlt : k < zs.length
      · obtain ⟨z, hz⟩ : ∃ z, zs[k] = z := ⟨_, rfl⟩
        have hzk : zs.drop k = z :: zs.drop (k + 1) := by rw [List.drop_eq_getElem_cons hlt, hz]
        have hzm := HOK.out.1 z (by rw [← hz]; exact List.getElem_mem _)
        obtain ⟨gs, os, hsa, y0⟩ := rd_arg hrv k (by rw [hlen]; exact hlt)
        subst hsa
        have hgd : (zs.map canon).getD k 0 = canon z := by rw [List.getD, List.getElem?_map, List.getElem?_eq_getElem hlt, hz]; rfl
        rw [hgd] at y0
        rw [hzk] at hre
        have HRE2 := Lib.hid hre
        have HWD := Lib.hid (width_any (w := wr) (canon z) (by omega))
        rw [canon_abs] at HWD
        have hwd4 : 1 ≤ z.natAbs ∧ z.natAbs ≤ 4 := by have := canon_abs z; omega
        have i1' : (k : Int) < (zs.length : Int) := by omega
        have i2' : (0 : Int) ≤ (k : Int) := by omega
        clear hx hre hzk hgd hz hrv hlen
        have H4 := Lib.hid (HX.out.of_eq (show _ = pts b7 (ropO c.toNat n (.slice va acc.length vc) ⟨#[]⟩) * (pts b4 zeroOp * (rowI (.slice va acc.length vc) acc * (rowI (.slice (some ⟨gs, os, none⟩) zs.length vsc) (zs.map canon) * A))) by ac_rfl))
        have hfl : (feedAt l p).l.length = l.length - p := by unfold feedAt; rw [List.length_drop]
        by_cases hsh : l.length - p < z.natAbs
        · have HLO := Lib.hid (show (feedAt l n).cmd.2.lost = true by
            rw [HCMD.out]
            refine tail_lost _ _ _ ?_
            rw [← HRE2.out]
            exact args_short _ _ _ _ (by rw [hfl]; exact hsh))
          have q2 : (l.length : Int) - (p : Int) < (z.natAbs : Int) := by omega
          have q1 : wrap64 ((l.length : Int) - (p : Int)) = (l.length : Int) - (p : Int) := wrap64_mid (by omega) (by omega)
          clear hfl hsh hzm hwd4
          go_upto_region 11 with (first | (go_at_call 66; with_reducible refine Calls.mono HWD.out ?_; rintro e _ ⟨rfl, rfl⟩) | fail)
          clear q1 q2 y0 i1' i2'
          have h9 := H4.out
          have b0 := h9.cell (i := 0) rfl
          have b1 := h9.cell (i := 1) rfl
          have b2 := h9.cell (i := 2) rfl
          have b3 := h9.cell (i := 3) rfl
          have z0 := h9.r.cell (i := 0) rfl
          have z1 := h9.r.cell (i := 1) rfl
          have z2 := h9.r.cell (i := 2) rfl
          have z3 := h9.r.cell (i := 3) rfl
          have y0 := h9.r.free (i := 0)
          have y1 := h9.r.free (i := 1)
          have y2 := h9.r.free (i := 2)
          have y3 := h9.r.free (i := 3)
          have yl := h9.r.lt
          have h5 := (((h9.rot.set (i := 0) (v := .int .i64 c.toNat)).set (i := 1) (v := .int .i64 n)).set (i := 2) (v := .slice va acc.length vc)).set (i := 3) (v := .string ⟨#[]⟩)
          have H5 := Lib.hid h5
          clear h9 h5
          go_wp2
          clear b0 b1 b2 b3 z0 z1 z2 z3 y0 y1 y2 y3 yl
          have h5 := H5.out
          have z0 := h5.cell (i := 0) rfl
          have z1 := h5.cell (i := 1) rfl
          have z2 := h5.cell (i := 2) rfl
          have z3 := h5.cell (i := 3) rfl
          have yl := h5.lt
          refine bodyPost_ret (v := .tuple #[.agg #[.int .i64 c.toNat, .int .i64 n, .slice va acc.length vc, .string ⟨#[]⟩], .int .i64 0, .bool false]) (by clear h5; unfold results; go_simp) rfl (Or.inl ⟨HLO.out, _, _, _, _, _, _, rfl, h5.r.r.r.r⟩)
        · have q2 : ¬ ((l.length : Int) - (p : Int) < (z.natAbs : Int)) := by omega
          have hbl : ((l.drop p).take z.natAbs).length = z.natAbs := by rw [List.length_take, List.length_drop]; omega
          have hre3 : Fd.args (zs.drop (k + 1)) (acc ++ [refNum (canon z) ((l.drop p).take z.natAbs)]) (feedAt l (p + z.natAbs)) = RES := by
            rw [← HRE2.out, args_step z _ acc (feedAt l p) (by rw [hfl]; omega)]
            unfold feedAt
            simp only [List.drop_drop]
          have HRE3 := Lib.hid hre3
          have HBL := Lib.hid hbl
          have hpz : p + z.natAbs ≤ l.length := by omega
          have hcap := HCAP.out
          have q6 : ¬ (cap = p) := by omega
          have q7 : ((p : Int) + (z.natAbs : Int)).toNat = p + z.natAbs := by omega
          have q8 : (0 : Int) ≤ (p : Int) + (z.natAbs : Int) := by omega
          have q9 : (p : Int) + (z.natAbs : Int) ≤ (cap : Int) := by omega
          have q10 : (0 : Int) ≤ (p : Int) := by omega
          have q3' : IntKind.i64.wrap ((p : Int) + (z.natAbs : Int)) = (p : Int) + (z.natAbs : Int) := IntWalk.i64_in _ (by omega)
          have q1 : wrap64 ((l.length : Int) - (p : Int)) = (l.length : Int) - (p : Int) := wrap64_mid (by omega) (by omega)
          clear hfl hsh hbl hre3
          go_upto_region 12 with (first | (go_at_call 66; with_reducible refine Calls.mono HWD.out ?_; rintro e _ ⟨rfl, rfl⟩) | fail)
          clear q1 q2
          have z0 := (Ext.refl wr).drew.cell y0
          have hnb := number_ref (w := wr.drew) (g := ga) (off := oa + p) (cap := cap - p) (bs := (l.drop p).take z.natAbs) (canon z) hzm (by rw [HBL.out, canon_abs]) (by
            have h := rd_mid (n := p) (m := z.natAbs) ((HV.out _ HX.out.r.r.r.r).ext (Ext.refl wr).drew) (cap - p) hpz
            rw [HBL.out] at h ⊢
            exact h)
          rw [HBL.out] at hnb
          obtain ⟨x, hx⟩ : ∃ x, refNum (canon z) ((l.drop p).take z.natAbs) = x := ⟨_, rfl⟩
          rw [hx] at hnb HRE3
          have HNB := Lib.hid hnb
          clear hnb hx y0
          refine wp_region_tail (fun w' => w' = wr.drew) 10 (by kernel_rfl) (by kernel_rfl) rfl ?_
          simp only [List.take_succ_cons, List.take_zero, List.drop_succ_cons, List.drop_zero]
          obtain ⟨W9, hW9⟩ : ∃ W9, wr.drew = W9 := ⟨_, rfl⟩
          have H9 := Lib.hid (show Sat W _ W9 from hW9 ▸ HX.out.drew)
          rw [hW9] at HNB z0
          rw [hW9]
          clear hW9
          refine wpQuiet_val (v := ?_) ?_
          rotate_left 1
          intro K hK
          refine ⟨by kernel_rfl, fun w9 hw9 => ?_, ?_⟩
          · subst hw9; go_simp; try with_reducible rfl
          go_simp
          refine hK _ ?_
          clear hK K
          refine wpQuiet_val (v := ?_) ?_
          rotate_left 1
          intro K hK
          refine ⟨by kernel_rfl, fun w9 hw9 => ?_, ?_⟩
          · subst hw9; go_simp; try with_reducible rfl
          go_simp
          refine hK _ ?_
          clear hK K
          refine wpQuiet_val (v := ?_) ?_
          rotate_left 1
          intro K hK
          refine ⟨by kernel_rfl, fun w9 hw9 => ?_, ?_⟩
          · subst hw9; go_simp; try with_reducible rfl
          go_simp
          refine hK _ ?_
          clear hK K
          refine wpQuiet_val (v := ?_) ?_
          rotate_left 1
          intro K hK
          refine ⟨by kernel_rfl, fun w9 hw9 => ?_, ?_⟩
          · subst hw9; go_simp; try with_reducible rfl
          go_simp
          refine hK _ ?_
          clear hK K
          refine wpQuiet_val (v := ?_) ?_
          rotate_left 1
          intro K hK
          refine ⟨by kernel_rfl, fun w9 hw9 => ?_, ?_⟩
          · subst hw9; go_simp; try with_reducible rfl
          go_simp
          refine hK _ ?_
          clear hK K
          refine wpQuiet_val (v := ?_) ?_
          rotate_left 1
          intro K hK
          refine ⟨by kernel_rfl, fun w9 hw9 => ?_, ?_⟩
          · subst hw9; go_simp; try with_reducible rfl
          go_simp
          refine hK _ ?_
          clear hK K
          refine wpQuiet_val (v := ?_) ?_
          rotate_left 1
          intro K hK
          refine ⟨by kernel_rfl, fun w9 hw9 => ?_, ?_⟩
          · subst hw9; go_simp; try with_reducible rfl
          go_simp
          refine hK _ ?_
          clear hK K
          refine wpQuiet_val (v := ?_) ?_
          rotate_left 1
          intro K hK
          refine ⟨by kernel_rfl, fun w9 hw9 => ?_, ?_⟩
          · subst hw9; go_simp; try with_reducible rfl
          go_simp
          refine hK _ ?_
          clear hK K
          refine wpQuiet_val (v := ?_) ?_
          rotate_left 1
          intro K hK
          refine ⟨by kernel_rfl, fun w9 hw9 => ?_, ?_⟩
          · subst hw9; go_simp; try with_reducible rfl
          go_simp
          refine hK _ ?_
          clear hK K
          refine wpQuiet_val (v := ?_) ?_
          rotate_left 1
          intro K hK
          refine ⟨by kernel_rfl, fun w9 hw9 => ?_, ?_⟩
          · subst hw9; go_simp; try with_reducible rfl
          go_simp
          refine hK _ ?_
          clear hK K
          refine wpQuiet_nil ?_
          clear z0 q6 q7 q8 q9 q10
          rintro w17 rfl
          go_wp2_with fail
          with_reducible refine Calls.mono HNB.out ?_
          rintro e _ ⟨rfl, rfl⟩
          clear HNB
          go_upto_region 13 with fail
          obtain ⟨i0, hi, hz0, hz1, hz2⟩ := info_parts3 info_int
          have HI := Lib.hid hi
          have HZ0 := Lib.hid hz0
          have HZ1 := Lib.hid hz1
          have HZ2 := Lib.hid hz2
          have d2 := H9.out.cell (i := 2) rfl
          have HA12 := Lib.hid (show acc.length ≤ 12 by have := HAK.out; have := HOK.out.2; omega)
          clear hi hz0 hz1 hz2
          go_wp2_with (at_builtin; refine wpList_append_sep rfl _ _ 31 rfl i0 _ 8 Try.underlying31 HI.out HZ0.out HZ1.out HZ2.out rfl rfl H9.out.rot.allocD ⟨_, 0, none⟩ 1 1 [.int .i64 x] rfl rfl ?_ ?_ ?_ ?_ ?_)
          · exact new_cells _ _ _
          · simp [Value.oneCell']
          · have := HA12.out; simp [maxLen]; omega
          · have := HA12.out; omega
          intro v2 w6 h7
          obtain ⟨va2, vc2, hv2, -⟩ := h7.row_val
          subst hv2
          have h8 := h7.rot
          have d2' := h8.cell (i := 2) rfl
          have df := h8.free (i := 2)
          have dl := h8.lt
          have h9 := h8.set (i := 2) (v := .slice va2 (acc.length + 1) vc2)
          have H10 := Lib.hid (show Sat W (pts b7 (ropO c.toNat n (.slice va2 (acc ++ [x]).length vc2) ⟨#[]⟩) * (rowI (.slice va2 (acc ++ [x]).length vc2) (acc ++ [x]) * _)) _ from by
            have e : rowI (.slice va2 (acc ++ [x]).length vc2) (acc ++ [x]) = row (.slice va2 (acc.length + 1) vc2) (acc.length + 1) 3 1 (intsL acc ++ [.int .i64 x]) := by
              unfold rowI
              rw [List.length_append, List.length_singleton]
              simp
            rw [e, List.length_append, List.length_singleton]
            exact h9)
          clear h7 h8 h9 d2
          have r1 : wrap64 ((p : Int) + (z.natAbs : Int)) = (p : Int) + (z.natAbs : Int) := wrap64_mid (by omega) (by omega)
          go_upto_region 8 with fail
          clear r1 d2' df dl
          have hk12 : k ≤ 12 := by have := HOK.out.2; omega
          go_wp2
          go_roundg (zs.length - (k + 1))
          case measure => omega
          case rel => exact ⟨k + 1, p + z.natAbs, acc ++ [x], va2, vc2, by omega, rfl, by go_num, by go_num, hpz, by rw [List.length_append, List.length_singleton, HAK.out], HRE3.out, H10.out⟩
      · have hkz : k = zs.length := by omega
        have hre2 := HRE.out
        rw [hkz, List.drop_length] at hre2
        have hre3 : RES = (acc, feedAt l p) := hre2.symm
        have hcm := HCMD.out
        rw [hre3] at hcm
        simp only at hcm
        have HCM := Lib.hid hcm
        have hal : acc.length = (refSizes c.toNat).length := by rw [HAK.out, hkz, refSizes_canon, HZS.out, List.length_map]
        have h45 : 243 ≤ c.toNat → c.toNat ≤ 246 → (0 ≤ acc.getD 4 0 ∧ acc.getD 4 0 ≤ 255) ∧ (0 ≤ acc.getD 5 0 ∧ acc.getD 5 0 ≤ 255) := fun h1 h2 => by
          have h := byte_pair (feedAt l n) c.toNat (by rw [hcm]) h1 h2
          rw [hcm] at h
          exact h
        have HTX := Lib.hid (texts_any (w := wr) c.toNat hal h45 (Sat.rd hx.r))
        obtain ⟨t1, t2⟩ := tail_ref c.toNat acc l p hc9
        obtain ⟨T, hT⟩ : ∃ T, textsM c.toNat acc = T := ⟨_, rfl⟩
        rw [hT] at t1 t2 HTX
        have HT1 := Lib.hid t1
        have HT2 := Lib.hid t2
        have d0 := hx.cell (i := 0) rfl
        have d2 := hx.cell (i := 2) rfl
        have j1 : ¬ ((k : Int) < (zs.length : Int)) := by omega
        clear hre hre2 hre3 hcm hal h45 t1 t2 hT hx hkz hrv hlen hlt
        go_wp2_with fail
        with_reducible refine Calls.mono HTX.out ?_
        rintro e w5 ⟨rfl, hex⟩
        have h4 := (HX.out.ext hex).of_eq (show _ = pts b7 (ropO c.toNat n (.slice va acc.length vc) ⟨#[]⟩) * (pts b4 zeroOp * (rowI (.slice va acc.length vc) acc * (rowI (.slice vsa zs.length vsc) (zs.map canon) * A))) by ac_rfl)
        have H4 := Lib.hid h4
        clear h4 HTX d0 d2 j1 HX hex
        have q1 : wrap64 ((l.length : Int) - (p : Int)) = (l.length : Int) - (p : Int) := wrap64_mid (by omega) (by omega)
        have HQ1 := Lib.hid q1
        clear q1
        by_cases hneg : T < 0
        · have HLO := Lib.hid (show (feedAt l n).cmd.2.lost = true by rw [HCM.out]; exact HT1.out (.inl hneg))
          go_upto_region 17 with fail
          have h9 := H4.out
          have b0 := h9.cell (i := 0) rfl
          have b1 := h9.cell (i := 1) rfl
          have b2 := h9.cell (i := 2) rfl
          have b3 := h9.cell (i := 3) rfl
          have z0 := h9.r.cell (i := 0) rfl
          have z1 := h9.r.cell (i := 1) rfl
          have z2 := h9.r.cell (i := 2) rfl
          have z3 := h9.r.cell (i := 3) rfl
          have y0 := h9.r.free (i := 0)
          have y1 := h9.r.free (i := 1)
          have y2 := h9.r.free (i := 2)
          have y3 := h9.r.free (i := 3)
          have yl := h9.r.lt
          have h5 := (((h9.rot.set (i := 0) (v := .int .i64 c.toNat)).set (i := 1) (v := .int .i64 n)).set (i := 2) (v := .slice va acc.length vc)).set (i := 3) (v := .string ⟨#[]⟩)
          have H5 := Lib.hid h5
          clear h9 h5
          go_wp2
          clear b0 b1 b2 b3 z0 z1 z2 z3 y0 y1 y2 y3 yl
          have h5 := H5.out
          have z0 := h5.cell (i := 0) rfl
          have z1 := h5.cell (i := 1) rfl
          have z2 := h5.cell (i := 2) rfl
          have z3 := h5.cell (i := 3) rfl
          have yl := h5.lt
          refine bodyPost_ret (v := .tuple #[.agg #[.int .i64 c.toNat, .int .i64 n, .slice va acc.length vc, .string ⟨#[]⟩], .int .i64 0, .bool false]) (by clear h5; unfold results; go_simp) rfl (Or.inl ⟨HLO.out, _, _, _, _, _, _, rfl, h5.r.r.r.r⟩)
        by_cases hbig : ((l.length - p : Nat) : Int) < T
        · have HLO := Lib.hid (show (feedAt l n).cmd.2.lost = true by rw [HCM.out]; exact HT1.out (.inr hbig))
          have i3 : (l.length : Int) - (p : Int) < T := by omega
          have q1 := HQ1.out
          go_upto_region 17 with fail
          clear q1 i3
          have h9 := H4.out
          have b0 := h9.cell (i := 0) rfl
          have b1 := h9.cell (i := 1) rfl
          have b2 := h9.cell (i := 2) rfl
          have b3 := h9.cell (i := 3) rfl
          have z0 := h9.r.cell (i := 0) rfl
          have z1 := h9.r.cell (i := 1) rfl
          have z2 := h9.r.cell (i := 2) rfl
          have z3 := h9.r.cell (i := 3) rfl
          have y0 := h9.r.free (i := 0)
          have y1 := h9.r.free (i := 1)
          have y2 := h9.r.free (i := 2)
          have y3 := h9.r.free (i := 3)
          have yl := h9.r.lt
          have h5 := (((h9.rot.set (i := 0) (v := .int .i64 c.toNat)).set (i := 1) (v := .int .i64 n)).set (i := 2) (v := .slice va acc.length vc)).set (i := 3) (v := .string ⟨#[]⟩)
          have H5 := Lib.hid h5
          clear h9 h5
          go_wp2
          clear b0 b1 b2 b3 z0 z1 z2 z3 y0 y1 y2 y3 yl
          have h5 := H5.out
          have z0 := h5.cell (i := 0) rfl
          have z1 := h5.cell (i := 1) rfl
          have z2 := h5.cell (i := 2) rfl
          have z3 := h5.cell (i := 3) rfl
          have yl := h5.lt
          refine bodyPost_ret (v := .tuple #[.agg #[.int .i64 c.toNat, .int .i64 n, .slice va acc.length vc, .string ⟨#[]⟩], .int .i64 0, .bool false]) (by clear h5; unfold results; go_simp) rfl (Or.inl ⟨HLO.out, _, _, _, _, _, _, rfl, h5.r.r.r.r⟩)
        · have htl := HT2.out (by omega)
          obtain ⟨tn, htn⟩ : ∃ tn : Nat, T = tn := ⟨T.toNat, by omega⟩
          subst htn
          rw [Int.toNat_natCast] at htl
          have hcm := HCM.out
          rw [htl] at hcm
          have HCM2 := Lib.hid hcm
          obtain ⟨tx, htx⟩ : ∃ tx, (l.drop p).take tn = tx := ⟨_, rfl⟩
          rw [htx] at HCM2
          have HTT := Lib.hid htx
          have i3 : ¬ ((l.length : Int) - (p : Int) < (tn : Int)) := by omega
          have hpt : p + tn ≤ l.length := by omega
          have q1 := HQ1.out
          clear htl hcm htx hneg HT1 HT2 HCM
          go_upto_region 18 with fail
          clear q1 i3
          have hcap := HCAP.out
          have q7 : ((p : Int) + (tn : Int)).toNat = p + tn := by omega
          have q8 : (0 : Int) ≤ (p : Int) + (tn : Int) := by omega
          have q9 : (p : Int) + (tn : Int) ≤ (cap : Int) := by omega
          have q10 : (0 : Int) ≤ (p : Int) := by omega
          have q3' : IntKind.i64.wrap ((p : Int) + (tn : Int)) = (p : Int) + (tn : Int) := IntWalk.i64_in _ (by omega)
          have hrb : Rd w5 (.slice (some ⟨ga, oa, none⟩) l.length cap) l.length 1 (l.map byteV) := HV.out _ H4.out.r.r.r.r
          by_cases hcp : cap = p
          · have htn : tn = 0 := by omega
            have htx0 : tx = [] := by rw [← HTT.out, htn]; simp
            have cv : (convert 22 9 (.slice (some ⟨ga, oa, none⟩) tn 0)).run Try.prog w5 = .ok (.string ⟨tx.toArray⟩) w5 := by
              rw [htn, htx0]
              exact conv_rd (l := []) ⟨rfl, Nat.zero_le _, _, _, rfl, fun j u hu => by simp at hu⟩
            clear hrb htn htx0
            have d3 := H4.out.cell (i := 3) rfl
            have df := H4.out.free (i := 3)
            have dl := H4.out.lt
            have h6 := H4.out.set (i := 3) (v := .string ⟨tx.toArray⟩)
            have H6 := Lib.hid (show Sat W (pts b7 (ropO c.toNat n (.slice va acc.length vc) ⟨tx.toArray⟩) * _) _ from h6)
            clear h6
            go_upto_region 19 with fail
            clear cv d3 df dl q3' q7 q8 q9 q10
            have h9 := H6.out
            have b0 := h9.cell (i := 0) rfl
            have b1 := h9.cell (i := 1) rfl
            have b2 := h9.cell (i := 2) rfl
            have b3 := h9.cell (i := 3) rfl
            have z0 := h9.r.cell (i := 0) rfl
            have z1 := h9.r.cell (i := 1) rfl
            have z2 := h9.r.cell (i := 2) rfl
            have z3 := h9.r.cell (i := 3) rfl
            have y0 := h9.r.free (i := 0)
            have y1 := h9.r.free (i := 1)
            have y2 := h9.r.free (i := 2)
            have y3 := h9.r.free (i := 3)
            have yl := h9.r.lt
            have h5 := (((h9.rot.set (i := 0) (v := .int .i64 c.toNat)).set (i := 1) (v := .int .i64 n)).set (i := 2) (v := .slice va acc.length vc)).set (i := 3) (v := .string ⟨tx.toArray⟩)
            have H5 := Lib.hid h5
            clear h9 h5
            go_wp2
            clear b0 b1 b2 b3 z0 z1 z2 z3 y0 y1 y2 y3 yl
            have h5 := H5.out
            have z0 := h5.cell (i := 0) rfl
            have z1 := h5.cell (i := 1) rfl
            have z2 := h5.cell (i := 2) rfl
            have z3 := h5.cell (i := 3) rfl
            have yl := h5.lt
            refine bodyPost_ret (v := .tuple #[.agg #[.int .i64 c.toNat, .int .i64 n, .slice va acc.length vc, .string ⟨tx.toArray⟩], .int .i64 ((p : Int) + (tn : Int)), .bool true]) (by clear h5; unfold results; go_simp) rfl (Or.inr ⟨by rw [HCM2.out]; rfl, .slice va acc.length vc, by rw [HCM2.out]; rfl, ?_⟩)
            rw [HCM2.out]
            exact (h5.of_eq (show _ = pts b4 _ * (pts b7 _ * (rowI (.slice vsa zs.length vsc) (zs.map canon) * (rowI (.slice va acc.length vc) acc * A))) by ac_rfl)).r.r.r
          · have cv : ∀ c2, (convert 22 9 (.slice (some ⟨ga, oa + p, none⟩) tn c2)).run Try.prog w5 = .ok (.string ⟨tx.toArray⟩) w5 := fun c2 => by
              have h := rd_mid (n := p) (m := tn) hrb c2 hpt
              have hl2 : ((l.drop p).take tn).length = tn := by rw [List.length_take, List.length_drop]; omega
              have h2 := conv_rd (l := (l.drop p).take tn) (by rw [hl2] at h ⊢; exact h)
              rw [hl2, HTT.out] at h2
              exact h2
            clear hrb
            have d3 := H4.out.cell (i := 3) rfl
            have df := H4.out.free (i := 3)
            have dl := H4.out.lt
            have h6 := H4.out.set (i := 3) (v := .string ⟨tx.toArray⟩)
            have H6 := Lib.hid (show Sat W (pts b7 (ropO c.toNat n (.slice va acc.length vc) ⟨tx.toArray⟩) * _) _ from h6)
            clear h6
            go_upto_region 19 with fail
            clear cv d3 df dl q3' q7 q8 q9 q10
            have h9 := H6.out
            have b0 := h9.cell (i := 0) rfl
            have b1 := h9.cell (i := 1) rfl
            have b2 := h9.cell (i := 2) rfl
            have b3 := h9.cell (i := 3) rfl
            have z0 := h9.r.cell (i := 0) rfl
            have z1 := h9.r.cell (i := 1) rfl
            have z2 := h9.r.cell (i := 2) rfl
            have z3 := h9.r.cell (i := 3) rfl
            have y0 := h9.r.free (i := 0)
            have y1 := h9.r.free (i := 1)
            have y2 := h9.r.free (i := 2)
            have y3 := h9.r.free (i := 3)
            have yl := h9.r.lt
            have h5 := (((h9.rot.set (i := 0) (v := .int .i64 c.toNat)).set (i := 1) (v := .int .i64 n)).set (i := 2) (v := .slice va acc.length vc)).set (i := 3) (v := .string ⟨tx.toArray⟩)
            have H5 := Lib.hid h5
            clear h9 h5
            go_wp2
            clear b0 b1 b2 b3 z0 z1 z2 z3 y0 y1 y2 y3 yl
            have h5 := H5.out
            have z0 := h5.cell (i := 0) rfl
            have z1 := h5.cell (i := 1) rfl
            have z2 := h5.cell (i := 2) rfl
            have z3 := h5.cell (i := 3) rfl
            have yl := h5.lt
            refine bodyPost_ret (v := .tuple #[.agg #[.int .i64 c.toNat, .int .i64 n, .slice va acc.length vc, .string ⟨tx.toArray⟩], .int .i64 ((p : Int) + (tn : Int)), .bool true]) (by clear h5; unfold results; go_simp) rfl (Or.inr ⟨by rw [HCM2.out]; rfl, .slice va acc.length vc, by rw [HCM2.out]; rfl, ?_⟩)
            rw [HCM2.out]
            exact (h5.of_eq (show _ = pts b4 _ * (pts b7 _ * (rowI (.slice vsa zs.length vsc) (zs.map canon) * (rowI (.slice va acc.length vc) acc * A))) by ac_rfl)).r.r.r

end Go.Proofs.Ytjeinldhbajknaa
