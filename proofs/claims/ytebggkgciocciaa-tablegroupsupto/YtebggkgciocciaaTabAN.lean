
/-
  A table's codes, told (Codes); a register, told, whatever register it is. Conditions: those that each theorem names.
-/
import Derived.Test.YtebggkgciocciaaTabAM
import Derived.Test.YtebggkgciocciaaFresh
namespace Go.Proofs.Ytebggkgciocciaa
open Go.RowKit Go.Sp
variable {W w w' : World} {F A : HProp}

set_option maxRecDepth 1000000 in
set_option maxHeartbeats 8000000 in
theorem codes_any {b N : Nat} {S : TabS} (h : TabAt W F b N S w) :
    Calls Try.prog 27 #[.pointer (some ⟨b, 0, none⟩)] w fun e w' => e = .returned (codesV (tabCodes S)) ∧ TabAt W F b N S w' := by
  have HG := Lib.hid (good_any (h.allocD.allocD : TabAt W F b N S ((w.alloc (.cells zc256 60)).alloc (.cells zc256 60))))
  obtain ⟨m, nm, gs, lt, R, V, hT, hs⟩ := h
  have HZ := Lib.hid (zero_two hs)
  have HREP := Lib.hid (show ∀ k, k < 256 → Rep m (R (1280 + k)) (S.regs (1280 + k)) from fun k hk => (hT.1 (1280 + k) (by omega)).1)
  have HB := Lib.hid (show ∀ w', Sat W (pts b (.cells (tabCells nm R gs lt) 68) * (roH m * (mapH Value.string Mean.val nm N S.names * (row gs V.length 71 4 (flatG V) * (grpsH m V S.groups * F))))) w' → TabAt W F b N S w' from
    fun w' h => ⟨m, nm, gs, lt, R, V, hT, h⟩)
  obtain ⟨Z, hZ⟩ : ∃ Z, rv256 R = Z := ⟨_, rfl⟩
  have HLD := Lib.hid (range256 HZ.out.r.r)
  have HIF := Lib.hid (info256 R)
  have HIX := Lib.hid (show ∀ (k : Nat), k < 256 → ∀ w, (Instr.index 64 (.agg (rv256 R)) (.int .i64 k)).run Try.prog w = .ok (R (1280 + k)).val w from fun k hk w => idxReg R k hk w)
  rw [hZ] at HLD HIX HIF
  obtain ⟨fl, hfl⟩ : ∃ fl, tabCodes S = fl := ⟨_, rfl⟩
  have HFN := Lib.hid (show fl.length = 256 by rw [← hfl]; exact tabCodes_len S)
  have HFA := Lib.hid (show ∀ k, k < 256 → fl[k]? = some (S.regs (1280 + k)).n from fun k hk => by rw [← hfl]; exact tabCodes_at S k hk)
  rw [hfl]
  clear hs hT hZ hfl
  go_enter Try.func27, Try.ntmps27
  go_wp2_with fail
  refine Calls.mono HG.out ?_
  rintro e w' ⟨rfl, rfl⟩
  go_wp2_with fail
  refine wp_load_mid 64 (.tmp 11) rfl b 8961 rfl Z.toList _ HLD.out Try.underlying64 rfl HIF.out ?_
  rw [Array.toArray_toList]
  go_wp2_with fail
  go_loopg [13] 256 (fun g s13 wx => ∃ (k : Nat) (L : List Int), k ≤ 256 ∧ g = 256 - k ∧ s13 = .int .i64 k ∧ L.length = 256 ∧ L.take k = fl.take k ∧ Sat W (pts (w.heap.size + 1) (codesO L 60) * (pts w.heap.size (codesO (List.replicate 256 0) 60) * (pts b (.cells (tabCells nm R gs lt) 68) * (roH m * (mapH Value.string Mean.val nm N S.names * (row gs V.length 71 4 (flatG V) * (grpsH m V S.groups * F))))))) wx)
  case atStart => exact ⟨0, List.replicate 256 0, by omega, rfl, rfl, by simp, rfl, HZ.out⟩
  case round =>
    obtain ⟨k, L, hk, rfl, rfl, hl, ht, hx⟩ := hrel
    have HL := Lib.hid hl
    have HT := Lib.hid ht
    have HX := Lib.hid hx
    clear hl ht hx
    by_cases hlt : k < 256
    · obtain ⟨h1, h2, h3⟩ := HREP.out k hlt
      obtain ⟨sa, sc, hsv⟩ := (HX.out.r.r.r.ro_rd h3).val
      have hix := HIX.out k hlt
      generalize R (1280 + k) = rk at *
      obtain ⟨rn, ⟨g1, g2, g3, g4, g5⟩, rs⟩ := rk
      simp only at h1 h2 hsv
      subst hsv
      simp only [RegV.val] at hix
      have HS := Lib.hid ((HX.out.setC (i := k) rn).allocD (o := .cells #[.int .i64 rn, .int .i64 g1, .int .i64 g2, .int .i64 g3, .int .i64 g4, .int .i64 g5, .slice sa (S.regs (1280 + k)).toks.length sc] 40))
      have HBB := Lib.hid (take_set_succ HT.out (by rw [HL.out]; exact hlt) ((HFA.out k hlt).trans (by rw [← h1])))
      obtain ⟨x, k0, f0⟩ := HX.out.cellC k (by rw [HL.out]; exact hlt)
      have lb := HX.out.lt
      have i1 : (k : Int) < 256 := by omega
      have i2 : (0 : Int) ≤ (k : Int) := by omega
      generalize (S.regs (1280 + k)).toks.length = tl at *
      clear h1 h2 h3
      go_wp2
      go_roundg (256 - (k + 1))
      case measure => omega
      case rel => exact ⟨k + 1, L.set k rn, by omega, rfl, by go_num, by rw [List.length_set]; exact HL.out, HBB.out, HS.out⟩
    · have hk2 : 256 = k := by omega
      subst hk2
      have hL : L = fl := by
        have := HT.out
        rwa [List.take_of_length_le (by rw [HL.out]; exact Nat.le_refl _), List.take_of_length_le (by rw [HFN.out]; exact Nat.le_refl _)] at this
      subst hL
      have hb1 := HX.out.blk
      have hb0 := HX.out.rot.blk
      clear hlt
      go_wp2_with fail
      refine wp_load_row 60 (.tmp 3) (by rfl) (w.heap.size + 1) (by rfl) _ _ _ _ hb1 Try.underlying60 (by rfl) ?_ ?_
      · rw [size_codes]; simp [HFN.out]
      go_step
      refine wpList_store_row (by rfl) 60 (.tmp 2) (.tmp 22) (by rfl) w.heap.size (L.map (Value.int .i64)).toArray (by rfl) (by rfl) _ _ hb0 ?_ ?_ ?_ ?_
      · rw [size_codes]; simp [HFN.out]
      · simp [HFN.out]
      · exact one_codes L
      have HE := Lib.hid (Sat.setRowC (M := L) HX.out.rot)
      clear hb0 hb1
      go_wp2
      (try simp only [Exit.inBlock, Exit.then])
      refine bodyPost_ret (v := codesV L) (results_cell_row (fn := Try.f27) rfl _ _ w.heap.size 60 (L.map (Value.int .i64)).toArray (0, 0) _ rfl HE.out.blk Try.underlying60 (by rfl) (by rw [size_codes]; simp [HFN.out])) rfl ⟨rfl, HB.out _ HE.out.r.r⟩

set_option maxRecDepth 100000 in
set_option maxHeartbeats 4000000 in
theorem get_no2 {b N : Nat} {S : TabS} {c i : Int} (hw : wrongE c i ≠ 0) (h : TabAt W F b N S w) :
    Calls Try.prog 19 #[.pointer (some ⟨b, 0, none⟩), .int .i64 c, .int .i64 i] w fun e w' => e = .returned (.tuple #[.agg #[.int .i64 0, .int .i64 0, .int .i64 0, .int .i64 0, .int .i64 0, .int .i64 0, .slice none 0 0], .int .i64 (wrongE c i)]) ∧ TabAt W F b N S w' := by
  have hb := h.allocX (.cells #[.int .i64 0, .int .i64 0, .int .i64 0, .int .i64 0, .int .i64 0, .int .i64 0, .slice none 0 0] 40)
  obtain ⟨bz, hbz⟩ : ∃ bz, w.heap.size = bz := ⟨_, rfl⟩
  rw [hbz] at hb
  have HW := Lib.hid (wrong_any c i hb)
  obtain ⟨er, her⟩ : ∃ er, wrongE c i = er := ⟨_, rfl⟩
  rw [her] at HW hw
  rw [her]
  have q1 : (er == 0) = false := by rw [beq_eq_false_iff_ne]; exact hw
  have HER := Lib.hid hw
  obtain ⟨Y, hs0, back⟩ := hb.focus
  have BACK := Lib.hid back
  have hs1 := hs0.asc
  have x0 := hs1.cell (i := 0) rfl
  have x1 := hs1.cell (i := 1) rfl
  have x2 := hs1.cell (i := 2) rfl
  have x3 := hs1.cell (i := 3) rfl
  have x4 := hs1.cell (i := 4) rfl
  have x5 := hs1.cell (i := 5) rfl
  have x6 := hs1.cell (i := 6) rfl
  have f0 := hs1.free (i := 0)
  have f1 := hs1.free (i := 1)
  have f2 := hs1.free (i := 2)
  have f3 := hs1.free (i := 3)
  have f4 := hs1.free (i := 4)
  have f5 := hs1.free (i := 5)
  have f6 := hs1.free (i := 6)
  have lx := hs1.lt
  have hs2 := sat_set7 hs1 (.int .i64 0) (.int .i64 0) (.int .i64 0) (.int .i64 0) (.int .i64 0) (.int .i64 0) (.slice none 0 0)
  have HS2 := Lib.hid hs2
  clear h hb her hw hs0 hs1 hs2 back
  go_enter Try.func19, Try.ntmps19
  go_wp2_with fail
  refine Calls.mono HW.out ?_
  rintro e w' ⟨rfl, rfl⟩
  generalize w.alloc (.cells #[.int .i64 0, .int .i64 0, .int .i64 0, .int .i64 0, .int .i64 0, .int .i64 0, .slice none 0 0] 40) = W1 at *
  go_wp2
  (try simp only [Exit.inBlock, Exit.then])
  refine bodyPost_ret (v := .tuple #[.agg #[.int .i64 0, .int .i64 0, .int .i64 0, .int .i64 0, .int .i64 0, .int .i64 0, .slice none 0 0], .int .i64 er]) (by unfold results; go_simp) rfl ?_
  exact ⟨rfl, (BACK.out _ _ HS2.out.asc').less⟩

/-- what Get tells of a register -/
def getV (S : TabS) (c i : Int) : RegS := if wrongE c i = 0 then S.regs (c.toNat * 256 + i.toNat) else ⟨0, ⟨0, 0, 0, 0, 0⟩, []⟩
theorem get_all {b N : Nat} {S : TabS} (c i : Int) (h : TabAt W F b N S w) :
    Calls Try.prog 19 #[.pointer (some ⟨b, 0, none⟩), .int .i64 c, .int .i64 i] w fun e w' => ∃ u, e = .returned (.tuple #[valA (getV S c i) u, .int .i64 (wrongE c i)]) ∧ TabAt W (rowT u (getV S c i).toks * F) b N S w' := by
  by_cases hw : wrongE c i = 0
  · have e1 : getV S c i = S.regs (c.toNat * 256 + i.toNat) := by rw [getV, if_pos hw]
    rw [e1, hw]
    obtain ⟨c', i', rfl, rfl, h1, h2, h3⟩ := wrongE_nat hw
    rw [Int.toNat_natCast, Int.toNat_natCast]
    exact get_any ⟨h1, h2⟩ h3 h
  · have e1 : getV S c i = ⟨0, ⟨0, 0, 0, 0, 0⟩, []⟩ := by rw [getV, if_neg hw]
    rw [e1]
    refine (get_no2 hw h).mono fun e w' ⟨he, hs⟩ => ⟨.slice none 0 0, he, hs.nil⟩

end Go.Proofs.Ytebggkgciocciaa
