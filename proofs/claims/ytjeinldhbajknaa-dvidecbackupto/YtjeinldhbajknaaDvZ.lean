
/-
  DvidecSpoilt's walk. Conditions: those that each theorem names.
-/
import Derived.Test.YtjeinldhbajknaaDvX
import Derived.Test.YtjeinldhbajknaaDvY
import Derived.Test.YtjeinldhbajknaaTokRow
namespace Go.Proofs.Ytjeinldhbajknaa
open Go.RowKit Go.Sp Go.Conc
variable {W w w' : World} {A G : HProp}

theorem rd_take {a : Option Addr} {n cap m : Nat} {l : List UInt8} (h : Rd w (.slice a n cap) l.length 1 (l.map byteV)) (hm : m ≤ l.length) : Rd w (.slice a m cap) (l.take m).length 1 ((l.take m).map byteV) := by
  obtain ⟨h1, h2, a', c', e, h3⟩ := h
  cases e
  have hlt : (l.take m).length = m := by rw [List.length_take]; omega
  exact ⟨by rw [List.length_map]; omega, by omega, a, cap, by rw [hlt], fun j u hu => h3 j u (by
    rw [List.map_take, List.getElem?_take] at hu
    split at hu
    · exact hu
    · cases hu)⟩
theorem empty_row (h : Sat W A w) : Sat W (rowB (.slice (some ⟨w.heap.size, 0, none⟩) 0 0) [] * A) (w.alloc (.cells #[] 5)) :=
  Sat.row_whole (e := 5) 0 (h.alloc (.cells #[] 5)) (Nat.zero_le _) rfl

theorem flatO_get : ∀ (V : List (Cmd × Value)) (j k : Nat) (x : Cmd × Value), k < 4 → V[j]? = some x → (flatO V)[j * 4 + k]? = (x.1.vals x.2)[k]?
  | [], j, k, x, _, h => by simp at h
  | y :: V, 0, k, x, hk, h => by
    simp only [List.getElem?_cons_zero, Option.some.injEq] at h
    subst h
    have e : flatO (y :: V) = y.1.vals y.2 ++ flatO V := by simp [flatO]
    rw [e, List.getElem?_append_left (by simp [Cmd.vals]; omega), Nat.zero_mul, Nat.zero_add]
  | y :: V, j + 1, k, x, hk, h => by
    simp only [List.getElem?_cons_succ] at h
    have e : flatO (y :: V) = y.1.vals y.2 ++ flatO V := by simp [flatO]
    have e2 : (y.1.vals y.2).length = 4 := rfl
    rw [e, List.getElem?_append_right (by omega), e2, show (j + 1) * 4 + k - 4 = j * 4 + k by omega]
    exact flatO_get V j k x hk h

theorem wrap64_mid {x : Int} (h1 : -4000000000 ≤ x) (h2 : x ≤ 4000000000) : wrap64 x = x := by unfold wrap64; omega
set_option maxRecDepth 100000 in
set_option maxHeartbeats 8000000 in
theorem spoilt_law {l : List UInt8} {a : Option Addr} {cap : Nat} (i : Int) (hl : l.length ≤ 1048576) (hcap : l.length ≤ cap) (hv : Rd w (.slice a l.length cap) l.length 1 (l.map byteV)) :
    Calls Try.prog 5 #[.slice a l.length cap, .int .i64 i] w fun e w' => e = .returned (.bool true) ∧ Sat w (own w) w' := by
  have HCK := Lib.hid (check_any hv)
  have HV := Lib.hid hv
  have HL := Lib.hid hl
  clear hv hl
  go_enter Try.func5, Try.ntmps5
  go_wp2_with fail
  with_reducible refine Calls.mono HCK.out ?_
  rintro e w1 ⟨rfl, h1⟩
  obtain ⟨x, hx⟩ : ∃ x, errM l = x := ⟨_, rfl⟩
  rw [hx]
  have H1 := Lib.hid h1
  have HX := Lib.hid hx
  clear h1 hx HCK
  by_cases hz : x = 0
  rotate_left
  · have hzb : (x != 0) = true := by simpa using hz
    go_wp2_with (first | (go_at_call 10; with_reducible refine Calls.mono (num_any _ _) ?_; rintro e _ ⟨rfl, rfl⟩) | fail)
    with_reducible refine Calls.mono (live_any H1.out) ?_
    rintro e w2 ⟨rfl, h2⟩
    have H2 := Lib.hid h2
    clear h2
    go_wp2
    go_ret
    exact ⟨rfl, H2.out⟩
  subst hz
  have HO := Lib.hid (ops_any (HV.out.ext H1.out.toExt))
  rw [HX.out] at HO
  go_wp2_with (first | (go_at_call 10; with_reducible refine Calls.mono (num_any _ _) ?_; rintro e _ ⟨rfl, rfl⟩) | fail)
  with_reducible refine Calls.mono HO.out ?_
  rintro e w2 ⟨V, ov, hV, rfl, h2⟩
  obtain ⟨o3, q, oq, oe, oth⟩ := ops_last HX.out
  have hvl : V.length = (opsM l).length := by rw [← hV, List.length_map]
  have hvq : ∃ vq, V[V.length - 1]? = some (q, vq) := by
    rw [← hV, List.getLast?_map] at oq
    rw [List.getLast?_eq_getElem?] at oq
    cases hh : V[V.length - 1]? with
    | none => rw [hh] at oq; cases oq
    | some y =>
      rw [hh] at oq
      simp only [Option.map_some, Option.some.injEq] at oq
      exact ⟨y.2, by rw [← oq]⟩
  obtain ⟨vq, hvq⟩ := hvq
  obtain ⟨oa, oc, hov, hoat⟩ := h2.row_val
  have hget : (flatO V)[(V.length - 1) * 4 + 1]? = some (.int .i64 q.at_) := (flatO_get V (V.length - 1) 1 _ (by decide) hvq).trans rfl
  obtain ⟨og, hoa, hqc⟩ := hoat _ _ hget
  subst hoa hov
  have hn3 : 3 ≤ V.length := by omega
  obtain ⟨em1, em2, -⟩ := err_mod HX.out
  have HV3 := Lib.hid h2.row_len
  have h3 := Sat.frame H1.out (A := row (.slice (some ⟨og, 0, none⟩) V.length oc) V.length 33 4 (flatO V) * argsH V) (h2.of_eq (by ac_rfl))
  obtain ⟨R, hR⟩ : ∃ R, row (.slice (some ⟨og, 0, none⟩) V.length oc) V.length 33 4 (flatO V) * argsH V * own w = R := ⟨_, rfl⟩
  rw [hR] at h3
  obtain ⟨ga, oa, ha⟩ : ∃ ga oa, a = some ⟨ga, oa, none⟩ := by
    obtain ⟨_, _, a', c', e, h4⟩ := HV.out
    obtain ⟨g, o, h5, -⟩ := h4 0 _ (List.getElem?_eq_getElem (by rw [List.length_map]; omega))
    cases e
    exact ⟨g, o, h5⟩
  subst ha
  have HRR := Lib.hid (show ∀ w', Sat w R w' → Sat w (own w) w' ∧ Rd w' (.slice (some ⟨ga, oa, none⟩) l.length cap) l.length 1 (l.map byteV) ∧ w'.cell? ⟨og, (V.length - 1) * 4 + 1, none⟩ = some (.int .i64 q.at_) from fun w' h => by
    rw [← hR] at h
    obtain ⟨_, _, e1, e2⟩ := h.asc.row_val
    obtain ⟨g, e3, e4⟩ := e2 _ _ hget
    simp only [Value.slice.injEq] at e1
    obtain ⟨e1, -, -⟩ := e1
    rw [e3] at e1
    simp only [Option.some.injEq, Addr.mk.injEq] at e1
    obtain ⟨rfl, -, -⟩ := e1
    exact ⟨h.r, HV.out.ext h.r.toExt, e4⟩)
  have H3 := Lib.hid h3
  have HOT := Lib.hid oth
  clear h2 hR h3 hget hV hvq hoat oth H1 HO hvl oq hqc o3
  obtain ⟨i0, hi, hz0, hz1, hz2⟩ := info_parts3B info_u8B
  have HI := Lib.hid hi
  have HZ0 := Lib.hid hz0
  have HZ1 := Lib.hid hz1
  have HZ2 := Lib.hid hz2
  clear hi hz0 hz1 hz2
  obtain ⟨m, hm⟩ : ∃ m, l.length = m + 1 := ⟨l.length - 1, by omega⟩
  have HVB := Lib.hid (show V.length ≤ 9223372036854775807 from by
    have h := (HV3.out).2
    simp only [maxLen] at h
    exact h)
  have hn3i : ¬ ((V.length : Int) < 3) := by omega
  have hwm : wrap64 ((l.length : Int) - 1) = (m : Int) := by rw [hm]; unfold wrap64; have := HL.out; omega
  have HM := Lib.hid hm
  have hmc : (m : Int) ≤ (cap : Int) := by omega
  clear hm
  have htk : (l.take m).length = m := by rw [List.length_take, HM.out]; omega
  have HTK := Lib.hid htk
  clear htk
  have HR3 := Lib.hid (HRR.out _ H3.out)
  have hrd0 : Rd (w2.alloc (.cells #[] 5)) (.slice (some ⟨ga, oa, none⟩) m cap) m 1 (bytesB (l.take m)) := by
    have h := rd_take (m := m) HR3.out.2.1 (by rw [HM.out]; omega)
    rw [HTK.out] at h
    exact h.ext ((Ext.refl w2).alloc)
  have HRD0 := Lib.hid hrd0
  clear hrd0 HR3
  go_wp2_with (first | (go_at_call 10; with_reducible refine Calls.mono (num_any _ _) ?_; rintro e _ ⟨rfl, rfl⟩) | (at_builtin; refine wpList_append_rd rfl _ _ 22 rfl i0 _ 1 Try.underlying22 HI.out HZ0.out HZ1.out HZ2.out rfl (by decide) rfl (empty_row H3.out) (.slice (some ⟨ga, oa, none⟩) m cap) m (bytesB (l.take m)) rfl ?_ ?_ ?_ ?_ ?_))
  · exact HRD0.out
  · exact bytesB_one _
  · have := HL.out; have := HM.out; simp [maxLen]; omega
  · have := HL.out; have := HM.out; simp; omega
  intro v7 w4 h4
  have H4 := Lib.hid (show Sat w (rowB v7 (l.take m) * R) w4 from rowB_app (acc := []) (l := l.take m) h4 (by rw [HTK.out]; simp) rfl)
  clear h4 H3 HRD0
  have HRD1 := Lib.hid ((HRR.out _ H4.out.r).2.1.ext ((Ext.refl w4).alloc (o := .cells #[] 5)))
  go_wp2_with (at_builtin; refine wpList_append_rd rfl _ _ 22 rfl i0 _ 1 Try.underlying22 HI.out HZ0.out HZ1.out HZ2.out rfl (by decide) rfl (empty_row H4.out) (.slice (some ⟨ga, oa, none⟩) l.length cap) l.length (bytesB (l)) rfl ?_ ?_ ?_ ?_ ?_)
  · exact HRD1.out
  · exact bytesB_one _
  · have := HL.out; have := HM.out; simp [maxLen]; omega
  · have := HL.out; have := HM.out; simp; omega
  intro v8 w5 h5
  have H5 := Lib.hid (show Sat w (rowB v8 l * (rowB v7 (l.take m) * R)) w5 from rowB_app (acc := []) (l := l) h5 (by simp) rfl)
  clear h5 H4 HRD1
  go_wp2_with (at_builtin; refine wpList_append_sep rfl _ _ 22 rfl i0 _ 1 Try.underlying22 HI.out HZ0.out HZ1.out HZ2.out rfl rfl H5.out.allocD ⟨w5.heap.size, 0, none⟩ 1 1 (bytesB [223]) rfl rfl ?_ ?_ ?_ ?_ ?_)
  · exact new_cells _ _ _
  · exact bytesB_one _
  · have := HL.out; simp [maxLen]; omega
  · have := HL.out; simp; omega
  intro v9 w6 h6
  have H6 := Lib.hid (show Sat w (rowB v9 (l ++ [223]) * (rowB v7 (l.take m) * R)) w6 from rowB_app (acc := l) (l := [223]) h6 rfl rfl)
  clear h6 H5
  have HRD2 := Lib.hid ((HRR.out _ H6.out.r.r).2.1.ext ((Ext.refl w6).alloc (o := .cells #[] 5)))
  go_wp2_with (at_builtin; refine wpList_append_rd rfl _ _ 22 rfl i0 _ 1 Try.underlying22 HI.out HZ0.out HZ1.out HZ2.out rfl (by decide) rfl (empty_row H6.out) (.slice (some ⟨ga, oa, none⟩) l.length cap) l.length (bytesB (l)) rfl ?_ ?_ ?_ ?_ ?_)
  · exact HRD2.out
  · exact bytesB_one _
  · have := HL.out; have := HM.out; simp [maxLen]; omega
  · have := HL.out; have := HM.out; simp; omega
  intro v10 w7 h7
  have H7 := Lib.hid (show Sat w (rowB v10 l * (rowB v9 (l ++ [223]) * (rowB v7 (l.take m) * R))) w7 from rowB_app (acc := []) (l := l) h7 (by simp) rfl)
  clear h7 H6 HRD2
  obtain ⟨nv, hnv⟩ : ∃ nv, V.length = nv + 1 := ⟨V.length - 1, by omega⟩
  have hwv : wrap64 ((V.length : Int) - 1) = (nv : Int) := by rw [hnv]; unfold wrap64; have := HVB.out; omega
  have hqc := (HRR.out _ H7.out.r.r.r).2.2
  rw [hnv, Nat.add_sub_cancel] at hqc
  have hb1 : (nv : Int) < (V.length : Int) := by omega
  have hb2 : (0 : Int) ≤ (nv : Int) := by omega
  clear hnv
  have hidx : ∃ k : Nat, k < 4 ∧ wrap64 (wrap64 ((q.at_ : Int) + 1) + (wrap64 (i.tmod 4 + 4)).tmod 4) = (q.at_ : Int) + 1 + k := by
    have r1 := Int.lt_tmod_of_pos i (b := 4) (by decide)
    have r2 := Int.tmod_lt_of_pos i (b := 4) (by decide)
    have hL := HL.out
    have hq : (q.at_ : Int) + 6 ≤ 1048576 := by omega
    have hq0 : (0 : Int) ≤ (q.at_ : Int) := by omega
    generalize (q.at_ : Int) = z at *
    generalize i.tmod 4 = r at *
    have e1 : wrap64 (r + 4) = r + 4 := wrap64_mid (by omega) (by omega)
    rw [e1, Int.tmod_eq_emod_of_nonneg (by omega), wrap64_mid (x := z + 1) (by omega) (by omega)]
    have e2 : 0 ≤ (r + 4) % 4 ∧ (r + 4) % 4 < 4 := by omega
    generalize (r + 4) % 4 = t at *
    exact ⟨t.toNat, by omega, by rw [wrap64_mid (by omega) (by omega)]; omega⟩
  obtain ⟨k, hk4, hidx⟩ := hidx
  have HIDX := Lib.hid hidx
  clear hidx
  obtain ⟨j, hj⟩ : ∃ j, q.at_ + 1 + k = j := ⟨_, rfl⟩
  have hjl : j < l.length := by omega
  obtain ⟨a10, c10, hv10, hc10, hat10⟩ := rowB_val (l := l) H7.out
  obtain ⟨g10, ha10, -⟩ := hat10 j hjl
  subst hv10 ha10
  obtain ⟨c, hcj⟩ : ∃ c, l[j] = c := ⟨_, rfl⟩
  have hjc : l[j]? = some c := by rw [List.getElem?_eq_getElem hjl, hcj]
  have hcell : w7.cell? ⟨g10, j, none⟩ = some (.int .u8 c.toNat) := (Sat.row_cell (xs := bytesB l) H7.out (by simp [bytesB, hjc]))
  have hfree : w7.frozen? ⟨g10, j, none⟩ = false := Sat.row_free (xs := bytesB l) H7.out
  have hblt : g10 < w7.heap.size := World.block_lt_of_cell? w7 _ hcell
  have hj0 : (0 : Int) ≤ (j : Int) := by omega
  have hj1 : (j : Int) < (l.length : Int) := by omega
  have HOT2 := Lib.hid (HOT.out k c (c + 1) hk4 (by rw [hj]; exact hjc) (by
    intro h
    have := congrArg UInt8.toNat h
    rw [UInt8.toNat_add] at this
    have h1 := c.toNat_lt
    have h2 : (1 : UInt8).toNat = 1 := rfl
    omega))
  rw [hj] at HOT2
  have h8 := Sat.row_set (xs := bytesB l) (i := j) (u := .int .u8 (((c + 1 : UInt8).toNat : Nat) : Int)) H7.out
  have hset : (bytesB l).set j (.int .u8 (((c + 1 : UInt8).toNat : Nat) : Int)) = bytesB (l.set j (c + 1)) := by simp [bytesB, List.map_set]
  rw [hset] at h8
  have hwb : (((c.toNat : Nat) : Int) + 1) % 256 = (((c + 1 : UInt8).toNat : Nat) : Int) := by
    rw [UInt8.toNat_add]
    have h2 : (1 : UInt8).toNat = 1 := rfl
    omega
  generalize c + 1 = c2 at *
  have H8 := Lib.hid h8
  have HJC := Lib.hid hjc
  have hjz : (q.at_ : Int) + 1 + k = (j : Int) := by omega
  have HJZ := Lib.hid hjz
  clear hat10 hcj hjc h8 hset hj hjz
  go_upto_region 10 with fail
  rw [HIDX.out, HJZ.out]
  clear HIDX HJZ hqc hwv hb1 hb2
  generalize (wrap64 (i.tmod 4 + 4)).tmod 4 = z1 at *
  generalize wrap64 (i.tmod 4 + 4) = z2 at *
  generalize i.tmod 4 = z3 at *
  go_upto_region 11 with fail
  have h9 : Sat w (rowB (.slice (some ⟨g10, 0, none⟩) l.length c10) (l.set j c2) * _) _ := H8.out.of_eq (by unfold rowB; rw [List.length_set])
  generalize w7.setCell ⟨g10, j, none⟩ (.int .u8 (c2.toNat : Int)) = W8 at *
  have HK7 := Lib.hid (check_any (rowB_rd h9.r.r))
  have HN7 := Lib.hid (show errM (l.take m) ≠ 0 from err_less (by rw [HTK.out]; have := HM.out; omega))
  have HN9 := Lib.hid (show errM (l ++ [223]) ≠ 0 from err_less (by simp; omega))
  have H9 := Lib.hid h9
  clear h9 H7 H8 hcell hfree hblt hj0 hj1 hwb
  generalize errM (l.take m) = x7 at *
  go_wp2_with fail
  with_reducible refine Calls.mono HK7.out ?_
  rintro e w8 ⟨rfl, h10⟩
  have h11 := H9.out.thru h10
  have HK9 := Lib.hid (check_any (rowB_rd h11.r))
  have H11 := Lib.hid h11
  have hx7 : (x7 != 0) = true := by simpa using HN7.out
  have hx7b : ¬ (x7 = 0) := HN7.out
  clear h10 h11 H9 HK7
  generalize errM (l ++ [223]) = x9 at *
  go_wp2_with (first | (go_at_call 10; with_reducible refine Calls.mono (num_any _ _) ?_; rintro e _ ⟨rfl, rfl⟩) | fail)
  with_reducible refine Calls.mono HK9.out ?_
  rintro e w9 ⟨rfl, h10⟩
  have h11 := H11.out.thru h10
  have HK10 := Lib.hid (check_any (rowB_rd h11))
  rw [HOT2.out] at HK10
  have H12 := Lib.hid h11
  have hx9 : (x9 != 0) = true := by simpa using HN9.out
  have hx9b : ¬ (x9 = 0) := HN9.out
  clear h10 h11 H11 HK9
  go_wp2_with (first | (go_at_call 10; with_reducible refine Calls.mono (num_any _ _) ?_; rintro e _ ⟨rfl, rfl⟩) | fail)
  with_reducible refine Calls.mono HK10.out ?_
  rintro e w10 ⟨rfl, h10⟩
  have h11 := H12.out.thru h10
  have HLV := Lib.hid (live_any (h11.r.r.r))
  clear h10 h11 H12 HK10
  go_wp2_with (first | (go_at_call 10; with_reducible refine Calls.mono (num_any _ _) ?_; rintro e _ ⟨rfl, rfl⟩) | fail)
  with_reducible refine Calls.mono HLV.out ?_
  rintro e w11 ⟨rfl, h12⟩
  have H13 := Lib.hid (HRR.out _ h12).1
  clear h12 HLV
  go_wp2
  go_ret
  exact ⟨rfl, H13.out⟩
theorem spoilt_ext {l : List UInt8} {a : Option Addr} {cap : Nat} (i : Int) (hl : l.length ≤ 1048576) (hcap : l.length ≤ cap) (hv : Rd w (.slice a l.length cap) l.length 1 (l.map byteV)) :
    Calls Try.prog 5 #[.slice a l.length cap, .int .i64 i] w fun e w' => e = .returned (.bool true) ∧ Ext w w' :=
  (spoilt_law i hl hcap hv).mono fun _ _ h => ⟨h.1, h.2.toExt⟩

end Go.Proofs.Ytjeinldhbajknaa
