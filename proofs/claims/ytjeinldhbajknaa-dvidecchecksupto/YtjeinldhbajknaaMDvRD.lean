import Derived.Test.YtjeinldhbajknaaMRB
import Derived.Test.YtjeinldhbajknaaMY
import Derived.Laws.Rows
/-
  DvidecBack's walk. Conditions: those that each theorem names.
-/
namespace Go.Proofs.Ytjeinldhbajknaa
open Go.RowKit Go.Sp Go.Conc
variable {W w w' : World} {A G : HProp}

theorem conv_rd {g off cap : Nat} {l : List UInt8} (h : Rd w (.slice (some ⟨g, off, none⟩) l.length cap) l.length 1 (l.map byteV)) : (convert 22 9 (.slice (some ⟨g, off, none⟩) l.length cap)).run Try.prog w = .ok (.string ⟨l.toArray⟩) w := by
  refine run_convert_bytes_back (P := Try.prog) w 22 9 5 ⟨g, off, none⟩ cap l Try.underlying22 Try.underlying5 Try.underlying9 fun j hj => ?_
  obtain ⟨_, _, a', c', e, h3⟩ := h
  cases e
  obtain ⟨g', o', e1, e2⟩ := h3 j (byteV l[j]) (by simp [hj])
  cases e1
  rw [Addr.add_lit]
  exact e2
theorem rd_mid {g off cap n m : Nat} {l : List UInt8} (h : Rd w (.slice (some ⟨g, off, none⟩) l.length cap) l.length 1 (l.map byteV)) (c2 : Nat) (hm : n + m ≤ l.length) : Rd w (.slice (some ⟨g, off + n, none⟩) m c2) ((l.drop n).take m).length 1 (((l.drop n).take m).map byteV) := by
  obtain ⟨_, h2, a', c', e, h3⟩ := h
  cases e
  have hl : ((l.drop n).take m).length = m := by rw [List.length_take, List.length_drop]; omega
  refine ⟨by simp, by omega, some ⟨g, off + n, none⟩, c2, by rw [hl], fun j u hu => ?_⟩
  rw [List.getElem?_map, List.getElem?_take] at hu
  split at hu
  · rw [List.getElem?_drop] at hu
    obtain ⟨g', o', e1, e2⟩ := h3 (n + j) u (by rw [List.getElem?_map]; exact hu)
    cases e1
    exact ⟨g, off + n, rfl, by rw [Nat.add_assoc]; exact e2⟩
  · simp at hu

/-- what the walk keeps: all commands, the file -/
theorem args_rds {V : List (Cmd × Value)} (h : Sat W (argsH V * A) w) : ∀ x ∈ V, Rd w x.2 x.1.args.length 1 (intsL x.1.args) := fun x hx => by
  obtain ⟨B, hB⟩ := argsH_mem hx
  rw [hB] at h
  exact Sat.rd (A := B * A) (h.of_eq (by ac_rfl))
theorem rowO_cell {a : Option Addr} {c : Nat} {V : List (Cmd × Value)} (h : Sat W (row (.slice a V.length c) V.length 33 4 (flatO V) * A) w) {i k : Nat} {x : Cmd × Value} {u : Value} (hx : V[i]? = some x) (hk : k < 4) (hu : (x.1.vals x.2)[k]? = some u) : ∃ g, a = some ⟨g, 0, none⟩ ∧ w.cell? ⟨g, i * 4 + k, none⟩ = some u := by
  obtain ⟨a', c', e, hat⟩ := h.row_val
  cases e
  exact hat _ _ ((flatO_get V i k x hk hx).trans hu)

set_option maxRecDepth 100000 in
set_option maxHeartbeats 8000000 in
theorem back_law {l : List UInt8} {a : Option Addr} {cap : Nat} (hl : l.length ≤ 1048576) (hcap : l.length ≤ cap) (hv : Rd w (.slice a l.length cap) l.length 1 (l.map byteV)) :
    Calls Try.prog 4 #[.slice a l.length cap] w fun e w' => e = .returned (.bool true) ∧ Sat w (own w) w' := by
  obtain ⟨i0, hi, hz0, hz1, hz2⟩ := info_parts3B info_u8B
  have HI := Lib.hid hi
  have HZ0 := Lib.hid hz0
  have HZ1 := Lib.hid hz1
  have HZ2 := Lib.hid hz2
  have HL := Lib.hid hl
  have HV := Lib.hid hv
  have HST := Lib.hid (Sat.start w)
  have HRD0 := Lib.hid (hv.ext ((Ext.refl w).alloc (o := .cells #[] 5)))
  clear hi hz0 hz1 hz2 hl hv
  go_enter Try.func4, Try.ntmps4
  go_wp2_with (at_builtin; refine wpList_append_rd rfl _ _ 22 rfl i0 _ 1 Try.underlying22 HI.out HZ0.out HZ1.out HZ2.out rfl (by decide) rfl (empty_row HST.out) (.slice a l.length cap) l.length (bytesB l) rfl ?_ ?_ ?_ ?_ ?_)
  · exact HRD0.out
  · exact bytesB_one _
  · have := HL.out; simp [maxLen]; omega
  · have := HL.out; simp; omega
  intro v18 w1 h1
  have h2 : Sat w (rowB v18 l * own w) w1 := rowB_app (acc := []) (l := l) h1 (by simp) rfl
  have HO := Lib.hid (ops_any (rowB_rd h2))
  have H2 := Lib.hid h2
  clear h1 h2 HST HRD0
  go_wp2_with fail
  with_reducible refine Calls.mono HO.out ?_
  rintro e w2 ⟨V, ov, hV, rfl, h3⟩
  have h4 := Sat.frame H2.out (A := row ov V.length 33 4 (flatO V) * argsH V) (h3.of_eq (by ac_rfl))
  obtain ⟨oa, oc, hov, -⟩ := h3.row_val
  subst hov
  have HLA := Lib.hid (last_any (HV.out.ext h4.r.r.toExt))
  obtain ⟨x, hx⟩ : ∃ x, errM l = x := ⟨_, rfl⟩
  rw [hx] at HLA ⊢
  have HX := Lib.hid hx
  have HVO := Lib.hid hV
  have H4 := Lib.hid h4
  clear h3 h4 HO H2 hx hV
  go_wp2_with fail
  with_reducible refine Calls.mono HLA.out ?_
  rintro e w3 ⟨rfl, h5⟩
  have h6 := H4.out.thru h5
  obtain ⟨p3, p4, p5, p6, p7, hpt, hp7⟩ : ∃ p3 p4 p5 p6 p7, tailV (postM l) = .agg #[.int .i64 p3, .int .i64 p4, .int .i64 p5, .int .i64 p6, .int .i64 p7] ∧ (postM l).getD 7 0 = p7 := ⟨_, _, _, _, _, rfl, rfl⟩
  rw [hpt]
  have h7 := h6.alloc (.cells #[.int .i64 p3, .int .i64 p4, .int .i64 p5, .int .i64 p6, .int .i64 p7] 39)
  obtain ⟨b5, hb5⟩ : ∃ b5, w3.heap.size = b5 := ⟨_, rfl⟩
  rw [hb5] at h7
  obtain ⟨W4, hW4⟩ : ∃ W4, w3.alloc (.cells #[.int .i64 p3, .int .i64 p4, .int .i64 p5, .int .i64 p6, .int .i64 p7] 39) = W4 := ⟨_, rfl⟩
  rw [hW4] at h7
  have HW4 := Lib.hid hW4
  have HP7 := Lib.hid hp7
  obtain ⟨R, hR⟩ : ∃ R, row (.slice oa V.length oc) V.length 33 4 (flatO V) * argsH V * (rowB v18 l * own w) = R := ⟨_, rfl⟩
  rw [hR] at h7
  have H7 := Lib.hid h7
  have HRR := Lib.hid (show ∀ w', Sat w R w' → Sat w (own w) w' ∧ Rd w' (.slice a l.length cap) l.length 1 (l.map byteV) ∧ (∀ x ∈ V, Rd w' x.2 x.1.args.length 1 (intsL x.1.args)) ∧
      ∀ (i k : Nat) (x : Cmd × Value) (u : Value), V[i]? = some x → k < 4 → (x.1.vals x.2)[k]? = some u → ∃ g, oa = some ⟨g, 0, none⟩ ∧ w'.cell? ⟨g, i * 4 + k, none⟩ = some u from fun w' h => by
    rw [← hR] at h
    exact ⟨h.r.r, HV.out.ext h.r.r.toExt, args_rds h.asc.r, fun i k x u h1 h2 h3 => rowO_cell h.asc h1 h2 h3⟩)
  clear h5 h6 h7 HLA hpt hp7 hW4 hR H4
  by_cases hx0 : x = 0
  rotate_left
  · have hv0 : V = [] := by
      have h := HVO.out
      rw [ops_none (by rw [HX.out]; exact hx0)] at h
      exact List.map_eq_nil_iff.1 h
    subst hv0
    have HLV := Lib.hid (live_any H7.out.r)
    have hxb : (x != 0) = true := by simpa using hx0
    go_wp2_with (first | (go_at_call 10; with_reducible refine Calls.mono (num_any _ _) ?_; rintro e _ ⟨rfl, rfl⟩) | fail)
    rw [HW4.out]
    with_reducible refine Calls.mono HLV.out ?_
    rintro e w5 ⟨rfl, h8⟩
    have H8 := Lib.hid (HRR.out _ h8).1
    clear h8
    go_wp2
    go_ret
    exact ⟨rfl, H8.out⟩
  subst hx0
  obtain ⟨g0, hruns, ⟨hg4, hg7⟩, hg223, hc1, hc2, hc3⟩ := back_plain HX.out
  obtain ⟨os, hos⟩ : ∃ os, opsM l = os := ⟨_, rfl⟩
  rw [hos] at hruns hc1 hc2 hc3 HVO
  have hvl : V.length = os.length := by rw [← HVO.out, List.length_map]
  obtain ⟨hgs1, hgs2⟩ := hruns.stop
  simp only at hgs1 hgs2
  have hsl : sumW os + g0.l.length = l.length := by
    have := congrArg List.length hgs2
    rw [List.length_drop] at this
    omega
  have hosl := sumW_ge os
  obtain ⟨ga, oga, ha⟩ : ∃ ga oa, a = some ⟨ga, oa, none⟩ := by
    obtain ⟨_, _, a', c', e, h4⟩ := HV.out
    obtain ⟨g, o, h5, -⟩ := h4 0 _ (List.getElem?_eq_getElem (by rw [List.length_map]; omega))
    cases e
    exact ⟨g, o, h5⟩
  subst ha
  have HRUN := Lib.hid hruns
  have HG := Lib.hid (show (∀ x ∈ g0.l, x = 223) ∧ g0.l = l.drop (sumW os) ∧ 4 ≤ g0.l.length ∧ g0.l.length ≤ 7 from ⟨hg223, hgs2, hg4, hg7⟩)
  have HC := Lib.hid (show cnt 139 os = cnt 140 os ∧ cnt 141 os = cnt 142 os ∧ p7 = cnt 139 os from ⟨hc1, hc2, by rw [← HP7.out]; exact hc3⟩)
  have HSL := Lib.hid (show sumW os + g0.l.length = l.length ∧ os.length ≤ sumW os ∧ V.length = os.length from ⟨hsl, hosl, hvl⟩)
  clear hruns hg4 hg7 hg223 hc1 hc2 hc3 hos hgs1 hgs2 hsl hosl hvl
  go_wp2_with (first | (go_at_call 10; with_reducible refine Calls.mono (num_any _ _) ?_; rintro e _ ⟨rfl, rfl⟩) | fail)
  rw [HW4.out]
  clear HW4
  go_loopg [7, 8, 9, 10, 11, 12, 13] V.length (fun gg s7 s8 s9 s10 s11 s12 _ wx => ∃ i : Nat, i ≤ V.length ∧ gg = V.length - i ∧ s12 = .int .i64 i ∧ s7 = .int .i64 (sumW (os.take i)) ∧ s8 = .int .i64 (cnt 139 (os.take i)) ∧ s9 = .int .i64 (cnt 140 (os.take i)) ∧ s10 = .int .i64 (cnt 141 (os.take i)) ∧ s11 = .int .i64 (cnt 142 (os.take i)) ∧
    Sat w (pts b5 (.cells #[.int .i64 p3, .int .i64 p4, .int .i64 p5, .int .i64 p6, .int .i64 p7] 39) * R) wx)
  case atStart => exact ⟨0, Nat.zero_le _, rfl, by go_num, rfl, rfl, rfl, rfl, rfl, H7.out⟩
  case round =>
    clear H7
    obtain ⟨i, hi, rfl, rfl, rfl, rfl, rfl, rfl, rfl, hx⟩ := hrel
    have HXX := Lib.hid hx
    by_cases hlt : i < V.length
    · obtain ⟨xv, hxv⟩ : ∃ xv, V[i]? = some xv := ⟨_, List.getElem?_eq_getElem hlt⟩
      obtain ⟨o, vo⟩ := xv
      obtain ⟨-, -, hrds, hcells⟩ := HRR.out _ hx.r
      obtain ⟨og, hoa, y0⟩ := hcells i 0 _ _ hxv (by decide) rfl
      subst hoa
      obtain ⟨_, e1, y1⟩ := hcells i 1 _ _ hxv (by decide) rfl
      cases e1
      obtain ⟨_, e1, y2⟩ := hcells i 2 _ _ hxv (by decide) rfl
      cases e1
      obtain ⟨_, e1, y3⟩ := hcells i 3 _ _ hxv (by decide) rfl
      cases e1
      rw [Nat.add_zero] at y0
      have hmem : (o, vo) ∈ V := List.mem_of_getElem? hxv
      obtain ⟨wb, hwb⟩ : ∃ wb, writtenM o.code o.args o.text = wb := ⟨_, rfl⟩
      have hoi : os[i]? = some o := by rw [← HVO.out, List.getElem?_map, hxv]; rfl
      obtain ⟨k1, k2, k3, k4, k5, k6, k7, k8, k9⟩ := back_step HRUN.out hoi hwb
      obtain ⟨z1, z2⟩ := refSizes_ok o.code k5
      have hL := HL.out
      have HWR := Lib.hid (written_any (W := w) (A := pts b5 (.cells #[.int .i64 p3, .int .i64 p4, .int .i64 p5, .int .i64 p6, .int .i64 p7] 39) * R) (va := vo) (args := o.args) (text := o.text) o.code 0 k5 k7 z1 z2 (by omega) (fun w' h => (HRR.out _ h.r).2.2.1 _ hmem) hx.drew)
      rw [hwb] at HWR
      have HEX := Lib.hid (Ext.refl wr).drew
      have f0 := HEX.out.cell y0
      have f2 := HEX.out.cell y2
      have f3 := HEX.out.cell y3
      obtain ⟨va0, vc0, hvo⟩ : ∃ a c, vo = .slice a o.args.length c := by obtain ⟨_, _, a, c, e, _⟩ := hrds _ hmem; exact ⟨a, c, e⟩
      subst hvo
      have j1 : (i : Int) < (V.length : Int) := by omega
      have j2 : (0 : Int) ≤ (i : Int) := by omega
      have HK := Lib.hid (show o.at_ = sumW (os.take i) ∧ sumW (os.take i) + wb.length ≤ l.length ∧ (l.drop (sumW (os.take i))).take wb.length = wb ∧ 1 ≤ wb.length ∧ sumW (os.take (i + 1)) = sumW (os.take i) + wb.length ∧ ∀ c, cnt c (os.take (i + 1)) = cnt c (os.take i) + if o.code = c then 1 else 0 from ⟨k1, k2, k3, k4, k8, k9⟩)
      have HLC := Lib.hid (show ∀ c, cnt c (os.take i) ≤ 1048576 from fun c => by have h1 := cnt_le c (os.take i); have h2 := HSL.out; rw [List.length_take] at h1; omega)
      have HXV := Lib.hid hxv
      clear hx hrds hcells hxv hmem hwb hoi k1 k2 k3 k4 k5 k6 k7 k8 k9 z1 z2 hL y2
      go_upto_region 12 with fail
      refine wp_region_tail (fun w' => w' = wr.drew) 16 (by kernel_rfl) (by kernel_rfl) rfl ?_
      simp only [List.take_succ_cons, List.take_zero, List.drop_succ_cons, List.drop_zero]
      obtain ⟨W9, hW9⟩ : ∃ W9, wr.drew = W9 := ⟨_, rfl⟩
      rw [hW9] at HWR f0 f2 f3
      rw [hW9]
      clear hW9 HEX
      refine wpQuiet_val (v := ?_) ?_
      rotate_left 1
      intro K hK
      refine ⟨by kernel_rfl, fun w9 hw9 => ?_, ?_⟩
      · subst hw9; go_simp; try with_reducible rfl
      go_simp
      refine hK _ ?_
      clear hK K
      refine wpQuiet_val (v := ?_) ?_
      rotate_left 1
      intro K hK
      refine ⟨by kernel_rfl, fun w9 hw9 => ?_, ?_⟩
      · subst hw9; go_simp; try with_reducible rfl
      go_simp
      refine hK _ ?_
      clear hK K
      refine wpQuiet_val (v := ?_) ?_
      rotate_left 1
      intro K hK
      refine ⟨by kernel_rfl, fun w9 hw9 => ?_, ?_⟩
      · subst hw9; go_simp; try with_reducible rfl
      go_simp
      refine hK _ ?_
      clear hK K
      refine wpQuiet_val (v := ?_) ?_
      rotate_left 1
      intro K hK
      refine ⟨by kernel_rfl, fun w9 hw9 => ?_, ?_⟩
      · subst hw9; go_simp; try with_reducible rfl
      go_simp
      refine hK _ ?_
      clear hK K
      refine wpQuiet_val (v := ?_) ?_
      rotate_left 1
      intro K hK
      refine ⟨by kernel_rfl, fun w9 hw9 => ?_, ?_⟩
      · subst hw9; go_simp; try with_reducible rfl
      go_simp
      refine hK _ ?_
      clear hK K
      refine wpQuiet_val (v := ?_) ?_
      rotate_left 1
      intro K hK
      refine ⟨by kernel_rfl, fun w9 hw9 => ?_, ?_⟩
      · subst hw9; go_simp; try with_reducible rfl
      go_simp
      refine hK _ ?_
      clear hK K
      refine wpQuiet_val (v := ?_) ?_
      rotate_left 1
      intro K hK
      refine ⟨by kernel_rfl, fun w9 hw9 => ?_, ?_⟩
      · subst hw9; go_simp; try with_reducible rfl
      go_simp
      refine hK _ ?_
      clear hK K
      refine wpQuiet_val (v := ?_) ?_
      rotate_left 1
      intro K hK
      refine ⟨by kernel_rfl, fun w9 hw9 => ?_, ?_⟩
      · subst hw9; go_simp; try with_reducible rfl
      go_simp
      refine hK _ ?_
      clear hK K
      refine wpQuiet_val (v := ?_) ?_
      rotate_left 1
      intro K hK
      refine ⟨by kernel_rfl, fun w9 hw9 => ?_, ?_⟩
      · subst hw9; go_simp; try with_reducible rfl
      go_simp
      refine hK _ ?_
      clear hK K
      refine wpQuiet_val (v := ?_) ?_
      rotate_left 1
      intro K hK
      refine ⟨by kernel_rfl, fun w9 hw9 => ?_, ?_⟩
      · subst hw9; go_simp; try with_reducible rfl
      go_simp
      refine hK _ ?_
      clear hK K
      refine wpQuiet_val (v := ?_) ?_
      rotate_left 1
      intro K hK
      refine ⟨by kernel_rfl, fun w9 hw9 => ?_, ?_⟩
      · subst hw9; go_simp; try with_reducible rfl
      go_simp
      refine hK _ ?_
      clear hK K
      refine wpQuiet_val (v := ?_) ?_
      rotate_left 1
      intro K hK
      refine ⟨by kernel_rfl, fun w9 hw9 => ?_, ?_⟩
      · subst hw9; go_simp; try with_reducible rfl
      go_simp
      refine hK _ ?_
      clear hK K
      refine wpQuiet_val (v := ?_) ?_
      rotate_left 1
      intro K hK
      refine ⟨by kernel_rfl, fun w9 hw9 => ?_, ?_⟩
      · subst hw9; go_simp; try with_reducible rfl
      go_simp
      refine hK _ ?_
      clear hK K
      refine wpQuiet_val (v := ?_) ?_
      rotate_left 1
      intro K hK
      refine ⟨by kernel_rfl, fun w9 hw9 => ?_, ?_⟩
      · subst hw9; go_simp; try with_reducible rfl
      go_simp
      refine hK _ ?_
      clear hK K
      refine wpQuiet_val (v := ?_) ?_
      rotate_left 1
      intro K hK
      refine ⟨by kernel_rfl, fun w9 hw9 => ?_, ?_⟩
      · subst hw9; go_simp; try with_reducible rfl
      go_simp
      refine hK _ ?_
      clear hK K
      refine wpQuiet_val (v := ?_) ?_
      rotate_left 1
      intro K hK
      refine ⟨by kernel_rfl, fun w9 hw9 => ?_, ?_⟩
      · subst hw9; go_simp; try with_reducible rfl
      go_simp
      refine hK _ ?_
      clear hK K
      refine wpQuiet_nil ?_
      clear f0 f2 f3
      rintro w17 rfl
      go_wp2_with fail
      with_reducible refine Calls.mono HWR.out ?_
      rintro e w5 ⟨v13, rfl, h8⟩
      obtain ⟨s, hs⟩ : ∃ s, sumW (os.take i) = s := ⟨_, rfl⟩
      rw [hs] at HK ⊢
      obtain ⟨k1, k2, k3, k4, k5, k6⟩ := HK.out
      obtain ⟨a13, c13, hv13, -, hat13⟩ := rowB_val h8
      obtain ⟨g13, ha13, -⟩ := hat13 0 (by omega)
      subst hv13 ha13
      obtain ⟨-, hrb, -, hcells⟩ := HRR.out _ h8.r.r
      obtain ⟨_, e1, y1⟩ := hcells i 1 _ _ HXV.out (by decide) rfl
      cases e1
      have HEX := Lib.hid (Ext.refl w5).drew
      have f1 := HEX.out.cell y1
      rw [show (o.at_ : Int) = (s : Int) by rw [k1]] at f1
      have cv1 := conv_rd (rowB_rd h8.drew)
      have cv2 : ∀ c2, (convert 22 9 (.slice (some ⟨ga, oga + s, none⟩) wb.length c2)).run Try.prog w5.drew = .ok (.string ⟨wb.toArray⟩) w5.drew := fun c2 => by
        have h := rd_mid (n := s) (m := wb.length) (hrb.ext HEX.out) c2 k2
        rw [k3] at h
        exact conv_rd h
      have hL := HL.out
      have m1 : -4000000000 ≤ (l.length : Int) - (s : Int) ∧ (l.length : Int) - (s : Int) ≤ 4000000000 := by omega
      have m2 : -4000000000 ≤ (s : Int) + (wb.length : Int) ∧ (s : Int) + (wb.length : Int) ≤ 4000000000 := by omega
      have q2 : decide ((l.length : Int) - (s : Int) < (wb.length : Int)) = false := by rw [decide_eq_false_iff_not]; omega
      have q4 : (0 : Int) ≤ (s : Int) := by omega
      have q5 : (s : Int) + (wb.length : Int) ≤ (cap : Int) := by omega
      have q6 : ¬ (cap = s) := by omega
      have q7 : ((s : Int) + (wb.length : Int)).toNat = s + wb.length := by omega
      have q8 : (0 : Int) ≤ (s : Int) + (wb.length : Int) := by omega
      have q3' : IntKind.i64.wrap ((s : Int) + (wb.length : Int)) = (s : Int) + (wb.length : Int) := IntWalk.i64_in _ (by omega)
      have q1' : IntKind.i64.wrap ((l.length : Int) - (s : Int)) = (l.length : Int) - (s : Int) := IntWalk.i64_in _ (by omega)
      have q1 := wrap64_mid m1.1 m1.2
      have q3 := wrap64_mid m2.1 m2.2
      clear m1 m2
      have H8 := Lib.hid h8
      have HSS := Lib.hid hs
      clear h8 hs k1 k2 k3 k4 k5 k6 hat13 hrb hcells y1 y0 y3 HWR
      go_upto_region 13 with fail
      refine wp_region_tail (fun w' => w' = w5.drew) 28 (by kernel_rfl) (by kernel_rfl) rfl ?_
      simp only [List.take_succ_cons, List.take_zero, List.drop_succ_cons, List.drop_zero]
      obtain ⟨W9, hW9⟩ : ∃ W9, w5.drew = W9 := ⟨_, rfl⟩
      rw [hW9] at f1 cv1 cv2
      rw [hW9]
      have H9 := Lib.hid (show Sat w (rowB (.slice (some ⟨g13, 0, none⟩) wb.length c13) wb * _) W9 from hW9 ▸ H8.out.drew)
      clear hW9 HEX H8
      refine wpQuiet_val (v := ?_) ?_
      rotate_left 1
      intro K hK
      refine ⟨by kernel_rfl, fun w9 hw9 => ?_, ?_⟩
      · subst hw9; go_simp; try with_reducible rfl
      go_simp
      refine hK _ ?_
      clear hK K
      refine wpQuiet_val (v := ?_) ?_
      rotate_left 1
      intro K hK
      refine ⟨by kernel_rfl, fun w9 hw9 => ?_, ?_⟩
      · subst hw9; go_simp; try with_reducible rfl
      go_simp
      refine hK _ ?_
      clear hK K
      refine wpQuiet_val (v := ?_) ?_
      rotate_left 1
      intro K hK
      refine ⟨by kernel_rfl, fun w9 hw9 => ?_, ?_⟩
      · subst hw9; go_simp; try with_reducible rfl
      go_simp
      refine hK _ ?_
      clear hK K
      refine wpQuiet_val (v := ?_) ?_
      rotate_left 1
      intro K hK
      refine ⟨by kernel_rfl, fun w9 hw9 => ?_, ?_⟩
      · subst hw9; go_simp; try with_reducible rfl
      go_simp
      refine hK _ ?_
      clear hK K
      refine wpQuiet_val (v := ?_) ?_
      rotate_left 1
      intro K hK
      refine ⟨by kernel_rfl, fun w9 hw9 => ?_, ?_⟩
      · subst hw9; go_simp; try with_reducible rfl
      go_simp
      refine hK _ ?_
      clear hK K
      refine wpQuiet_val (v := ?_) ?_
      rotate_left 1
      intro K hK
      refine ⟨by kernel_rfl, fun w9 hw9 => ?_, ?_⟩
      · subst hw9; go_simp; try with_reducible rfl
      go_simp
      refine hK _ ?_
      clear hK K
      refine wpQuiet_val (v := ?_) ?_
      rotate_left 1
      intro K hK
      refine ⟨by kernel_rfl, fun w9 hw9 => ?_, ?_⟩
      · subst hw9; go_simp; try with_reducible rfl
      go_simp
      refine hK _ ?_
      clear hK K
      refine wpQuiet_val (v := ?_) ?_
      rotate_left 1
      intro K hK
      refine ⟨by kernel_rfl, fun w9 hw9 => ?_, ?_⟩
      · subst hw9; go_simp; try with_reducible rfl
      go_simp
      refine hK _ ?_
      clear hK K
      refine wpQuiet_val (v := ?_) ?_
      rotate_left 1
      intro K hK
      refine ⟨by kernel_rfl, fun w9 hw9 => ?_, ?_⟩
      · subst hw9; go_simp; try with_reducible rfl
      go_simp
      refine hK _ ?_
      clear hK K
      refine wpQuiet_val (v := ?_) ?_
      rotate_left 1
      intro K hK
      refine ⟨by kernel_rfl, fun w9 hw9 => ?_, ?_⟩
      · subst hw9; go_simp; try with_reducible rfl
      go_simp
      refine hK _ ?_
      clear hK K
      refine wpQuiet_val (v := ?_) ?_
      rotate_left 1
      intro K hK
      refine ⟨by kernel_rfl, fun w9 hw9 => ?_, ?_⟩
      · subst hw9; go_simp; try with_reducible rfl
      go_simp
      refine hK _ ?_
      clear hK K
      refine wpQuiet_val (v := ?_) ?_
      rotate_left 1
      intro K hK
      refine ⟨by kernel_rfl, fun w9 hw9 => ?_, ?_⟩
      · subst hw9; go_simp; try with_reducible rfl
      go_simp
      refine hK _ ?_
      clear hK K
      refine wpQuiet_val (v := ?_) ?_
      rotate_left 1
      intro K hK
      refine ⟨by kernel_rfl, fun w9 hw9 => ?_, ?_⟩
      · subst hw9; go_simp; try with_reducible rfl
      go_simp
      refine hK _ ?_
      clear hK K
      refine wpQuiet_val (v := ?_) ?_
      rotate_left 1
      intro K hK
      refine ⟨by kernel_rfl, fun w9 hw9 => ?_, ?_⟩
      · subst hw9; go_simp; try with_reducible rfl
      go_simp
      refine hK _ ?_
      clear hK K
      refine wpQuiet_val (v := ?_) ?_
      rotate_left 1
      intro K hK
      refine ⟨by kernel_rfl, fun w9 hw9 => ?_, ?_⟩
      · subst hw9; go_simp; try with_reducible rfl
      go_simp
      refine hK _ ?_
      clear hK K
      refine wpQuiet_val (v := ?_) ?_
      rotate_left 1
      intro K hK
      refine ⟨by kernel_rfl, fun w9 hw9 => ?_, ?_⟩
      · subst hw9; go_simp; try with_reducible rfl
      go_simp
      refine hK _ ?_
      clear hK K
      refine wpQuiet_val (v := ?_) ?_
      rotate_left 1
      intro K hK
      refine ⟨by kernel_rfl, fun w9 hw9 => ?_, ?_⟩
      · subst hw9; go_simp; try with_reducible rfl
      go_simp
      refine hK _ ?_
      clear hK K
      refine wpQuiet_val (v := ?_) ?_
      rotate_left 1
      intro K hK
      refine ⟨by kernel_rfl, fun w9 hw9 => ?_, ?_⟩
      · subst hw9; go_simp; try with_reducible rfl
      go_simp
      refine hK _ ?_
      clear hK K
      refine wpQuiet_val (v := ?_) ?_
      rotate_left 1
      intro K hK
      refine ⟨by kernel_rfl, fun w9 hw9 => ?_, ?_⟩
      · subst hw9; go_simp; try with_reducible rfl
      go_simp
      refine hK _ ?_
      clear hK K
      refine wpQuiet_val (v := ?_) ?_
      rotate_left 1
      intro K hK
      refine ⟨by kernel_rfl, fun w9 hw9 => ?_, ?_⟩
      · subst hw9; go_simp; try with_reducible rfl
      go_simp
      refine hK _ ?_
      clear hK K
      refine wpQuiet_val (v := ?_) ?_
      rotate_left 1
      intro K hK
      refine ⟨by kernel_rfl, fun w9 hw9 => ?_, ?_⟩
      · subst hw9; go_simp; try with_reducible rfl
      go_simp
      refine hK _ ?_
      clear hK K
      refine wpQuiet_val (v := ?_) ?_
      rotate_left 1
      intro K hK
      refine ⟨by kernel_rfl, fun w9 hw9 => ?_, ?_⟩
      · subst hw9; go_simp; try with_reducible rfl
      go_simp
      refine hK _ ?_
      clear hK K
      refine wpQuiet_val (v := ?_) ?_
      rotate_left 1
      intro K hK
      refine ⟨by kernel_rfl, fun w9 hw9 => ?_, ?_⟩
      · subst hw9; go_simp; try with_reducible rfl
      go_simp
      refine hK _ ?_
      clear hK K
      refine wpQuiet_val (v := ?_) ?_
      rotate_left 1
      intro K hK
      refine ⟨by kernel_rfl, fun w9 hw9 => ?_, ?_⟩
      · subst hw9; go_simp; try with_reducible rfl
      go_simp
      refine hK _ ?_
      clear hK K
      refine wpQuiet_val (v := ?_) ?_
      rotate_left 1
      intro K hK
      refine ⟨by kernel_rfl, fun w9 hw9 => ?_, ?_⟩
      · subst hw9; go_simp; try with_reducible rfl
      go_simp
      refine hK _ ?_
      clear hK K
      refine wpQuiet_val (v := ?_) ?_
      rotate_left 1
      intro K hK
      refine ⟨by kernel_rfl, fun w9 hw9 => ?_, ?_⟩
      · subst hw9; go_simp; try with_reducible rfl
      go_simp
      refine hK _ ?_
      clear hK K
      refine wpQuiet_val (v := ?_) ?_
      rotate_left 1
      intro K hK
      refine ⟨by kernel_rfl, fun w9 hw9 => ?_, ?_⟩
      · subst hw9; go_simp; try with_reducible rfl
      go_simp
      refine hK _ ?_
      clear hK K
      refine wpQuiet_val (v := ?_) ?_
      rotate_left 1
      intro K hK
      refine ⟨by kernel_rfl, fun w9 hw9 => ?_, ?_⟩
      · subst hw9; go_simp; try with_reducible rfl
      go_simp
      refine hK _ ?_
      clear hK K
      refine wpQuiet_nil ?_
      clear f1 cv1 cv2 q1 q1' q2 q4 q5 q3' q6 q7 q8
      rintro w17 rfl
      go_upto_region 16 with fail
      obtain ⟨-, -, -, hcells⟩ := HRR.out _ H9.out.r.r
      obtain ⟨_, e1, y0⟩ := hcells i 0 _ _ HXV.out (by decide) rfl
      cases e1
      rw [Nat.add_zero] at y0
      clear hcells
      have HLO := HLC.out
      have w1' : wrap64 ((i : Int) + 1) = (i : Int) + 1 := wrap64_mid (by have := HL.out; have := HSL.out; omega) (by have := HL.out; have := HSL.out; omega)
      have c1' : wrap64 ((cnt 139 (os.take i) : Int) + 1) = (cnt 139 (os.take i) : Int) + 1 := wrap64_mid (by have := HLO 139; omega) (by have := HLO 139; omega)
      have c2' : wrap64 ((cnt 140 (os.take i) : Int) + 1) = (cnt 140 (os.take i) : Int) + 1 := wrap64_mid (by have := HLO 140; omega) (by have := HLO 140; omega)
      have c3' : wrap64 ((cnt 141 (os.take i) : Int) + 1) = (cnt 141 (os.take i) : Int) + 1 := wrap64_mid (by have := HLO 141; omega) (by have := HLO 141; omega)
      have c4' : wrap64 ((cnt 142 (os.take i) : Int) + 1) = (cnt 142 (os.take i) : Int) + 1 := wrap64_mid (by have := HLO 142; omega) (by have := HLO 142; omega)
      clear HLO
      obtain ⟨k, hk⟩ : ∃ k, o.code = k := ⟨_, rfl⟩
      rw [hk] at y0
      have HKC := Lib.hid (show ∀ c, cnt c (os.take (i + 1)) = cnt c (os.take i) + if k = c then 1 else 0 from fun c => by rw [← hk]; exact HK.out.2.2.2.2.2 c)
      have HSU := Lib.hid (show sumW (os.take (i + 1)) = s + wb.length from HK.out.2.2.2.2.1)
      clear hk
      by_cases d1 : k = 139
      · subst d1
        go_wp2
        go_roundg (V.length - (i + 1))
        case measure => omega
        case rel =>
          refine ⟨i + 1, by omega, rfl, by go_num, ?_, ?_, ?_, ?_, ?_, H9.out.r⟩
          · rw [HSU.out]; go_num
          · rw [HKC.out 139]; first | rfl | (simp [*]; done) | go_num
          · rw [HKC.out 140]; first | rfl | (simp [*]; done) | go_num
          · rw [HKC.out 141]; first | rfl | (simp [*]; done) | go_num
          · rw [HKC.out 142]; first | rfl | (simp [*]; done) | go_num
      by_cases d2 : k = 140
      · subst d2
        go_wp2
        go_roundg (V.length - (i + 1))
        case measure => omega
        case rel =>
          refine ⟨i + 1, by omega, rfl, by go_num, ?_, ?_, ?_, ?_, ?_, H9.out.r⟩
          · rw [HSU.out]; go_num
          · rw [HKC.out 139]; first | rfl | (simp [*]; done) | go_num
          · rw [HKC.out 140]; first | rfl | (simp [*]; done) | go_num
          · rw [HKC.out 141]; first | rfl | (simp [*]; done) | go_num
          · rw [HKC.out 142]; first | rfl | (simp [*]; done) | go_num
      by_cases d3 : k = 141
      · subst d3
        go_wp2
        go_roundg (V.length - (i + 1))
        case measure => omega
        case rel =>
          refine ⟨i + 1, by omega, rfl, by go_num, ?_, ?_, ?_, ?_, ?_, H9.out.r⟩
          · rw [HSU.out]; go_num
          · rw [HKC.out 139]; first | rfl | (simp [*]; done) | go_num
          · rw [HKC.out 140]; first | rfl | (simp [*]; done) | go_num
          · rw [HKC.out 141]; first | rfl | (simp [*]; done) | go_num
          · rw [HKC.out 142]; first | rfl | (simp [*]; done) | go_num
      by_cases d4 : k = 142
      · subst d4
        go_wp2
        go_roundg (V.length - (i + 1))
        case measure => omega
        case rel =>
          refine ⟨i + 1, by omega, rfl, by go_num, ?_, ?_, ?_, ?_, ?_, H9.out.r⟩
          · rw [HSU.out]; go_num
          · rw [HKC.out 139]; first | rfl | (simp [*]; done) | go_num
          · rw [HKC.out 140]; first | rfl | (simp [*]; done) | go_num
          · rw [HKC.out 141]; first | rfl | (simp [*]; done) | go_num
          · rw [HKC.out 142]; first | rfl | (simp [*]; done) | go_num
      have n1 : ((k : Int) == 139) = false := by rw [beq_eq_false_iff_ne]; omega
      have n2 : ((k : Int) == 140) = false := by rw [beq_eq_false_iff_ne]; omega
      have n3 : ((k : Int) == 141) = false := by rw [beq_eq_false_iff_ne]; omega
      have n4 : ((k : Int) == 142) = false := by rw [beq_eq_false_iff_ne]; omega
      have n5 : ¬ ((k : Int) = 139) := by omega
      have n6 : ¬ ((k : Int) = 140) := by omega
      have n7 : ¬ ((k : Int) = 141) := by omega
      have n8 : ¬ ((k : Int) = 142) := by omega
      go_wp2
      go_roundg (V.length - (i + 1))
      case measure => omega
      case rel =>
        refine ⟨i + 1, by omega, rfl, by go_num, ?_, ?_, ?_, ?_, ?_, H9.out.r⟩
        · rw [HSU.out]; go_num
        · rw [HKC.out 139]; first | rfl | (simp [*]; done) | go_num
        · rw [HKC.out 140]; first | rfl | (simp [*]; done) | go_num
        · rw [HKC.out 141]; first | rfl | (simp [*]; done) | go_num
        · rw [HKC.out 142]; first | rfl | (simp [*]; done) | go_num
    · have hin : i = V.length := by omega
      subst hin
      have htk : os.take V.length = os := List.take_of_length_le (by rw [HSL.out.2.2]; exact Nat.le_refl _)
      rw [htk, ← HC.out.1, ← HC.out.2.1]
      obtain ⟨na, hna⟩ : ∃ na, cnt 139 os = na := ⟨_, rfl⟩
      obtain ⟨nb, hnb⟩ : ∃ nb, cnt 141 os = nb := ⟨_, rfl⟩
      obtain ⟨s, hs⟩ : ∃ s, sumW os = s := ⟨_, rfl⟩
      obtain ⟨m, hm⟩ : ∃ m, g0.l.length = m := ⟨_, rfl⟩
      have hp7 := HC.out.2.2
      rw [hna] at hp7 ⊢
      rw [hnb, hs]
      have hsl := HSL.out.1
      rw [hs, hm] at hsl
      obtain ⟨hg1, hg2, hg3, hg4⟩ := HG.out
      rw [hm] at hg3 hg4
      have HBY := Lib.hid (show ∀ j, s ≤ j → j < l.length → l[j]? = some 223 from fun j h1 h2 => by
        have h3 : g0.l[j - s]? = l[j]? := by rw [hg2, hs, List.getElem?_drop]; congr 1; omega
        rw [← h3, List.getElem?_eq_getElem (show j - s < g0.l.length by omega)]
        rw [hg1 _ (List.getElem_mem _)])
      have hL := HL.out
      subst hp7
      clear htk hna hnb hs hm hg1 hg2 hi hlt hx
      go_wp2_with fail
      go_loopg [14] m (fun gg s14 wx => ∃ j : Nat, s ≤ j ∧ j ≤ l.length ∧ gg = l.length - j ∧ s14 = .int .i64 j ∧ Sat w (pts b5 (.cells #[.int .i64 p3, .int .i64 p4, .int .i64 p5, .int .i64 p6, .int .i64 na] 39) * R) wx)
      case atStart => exact ⟨s, Nat.le_refl _, by omega, by omega, rfl, HXX.out⟩
      case round =>
        clear HXX
        obtain ⟨j, hj1, hj2, rfl, rfl, hx⟩ := hrel
        have HX2 := Lib.hid hx
        by_cases hlt : j < l.length
        · obtain ⟨_, _, a', c', e, h3⟩ := (HRR.out _ hx.r).2.1
          obtain ⟨g', o', e1, y0⟩ := h3 j (.int .u8 223) (by rw [List.getElem?_map, HBY.out j hj1 hlt]; rfl)
          cases e
          cases e1
          have j1 : (j : Int) < (l.length : Int) := by omega
          have j2 : (0 : Int) ≤ (j : Int) := by omega
          have w1' : wrap64 ((j : Int) + 1) = (j : Int) + 1 := wrap64_mid (by omega) (by omega)
          clear hx h3
          go_wp2
          go_roundg (l.length - (j + 1))
          case measure => omega
          case rel => exact ⟨j + 1, by omega, by omega, rfl, by go_num, HX2.out⟩
        · have hjn : j = l.length := by omega
          subst hjn
          have c4 := hx.cell (i := 4) rfl
          have HLV := Lib.hid (live_any HX2.out)
          have j1 : ¬ ((l.length : Int) < (l.length : Int)) := by omega
          have m1 : (l.length : Int) - (s : Int) = (m : Int) := by omega
          have m2 : (4 : Int) ≤ (m : Int) := by omega
          have m3 : (m : Int) ≤ 7 := by omega
          have q1 : wrap64 ((l.length : Int) - (s : Int)) = (m : Int) := by rw [m1]; exact wrap64_mid (by omega) (by omega)
          have q1' : IntKind.i64.wrap ((l.length : Int) - (s : Int)) = (m : Int) := by rw [m1]; exact IntWalk.i64_in _ (by omega)
          clear m1 hx
          go_wp2_with fail
          with_reducible refine Calls.mono HLV.out ?_
          rintro e w9 ⟨rfl, h9⟩
          have H9 := Lib.hid (HRR.out _ h9.r).1
          clear h9 HLV
          go_wp2
          go_ret
          exact ⟨rfl, H9.out⟩

theorem back_ext {l : List UInt8} {a : Option Addr} {cap : Nat} (hl : l.length ≤ 1048576) (hcap : l.length ≤ cap) (hv : Rd w (.slice a l.length cap) l.length 1 (l.map byteV)) :
    Calls Try.prog 4 #[.slice a l.length cap] w fun e w' => e = .returned (.bool true) ∧ Ext w w' :=
  (back_law hl hcap hv).mono fun _ _ h => ⟨h.1, h.2.toExt⟩

end Go.Proofs.Ytjeinldhbajknaa
