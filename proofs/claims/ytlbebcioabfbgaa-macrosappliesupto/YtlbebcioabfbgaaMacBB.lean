/-
  The reference's Define. Conditions: those that the theorem names.
-/
import Derived.Test.YtlbebcioabfbgaaMacJ
import Derived.Test.YtlbebcioabfbgaaMacT
import Derived.Deep.RegionLaw
namespace Go.Proofs.Ytlbebcioabfbgaa
open Go.RowKit Go.Sp
variable {W w w' : World} {F : HProp}

abbrev Z29 : Obj := .cells #[.slice none 0 0, .slice none 0 0, .bool false] 29

theorem rdT_box (w : World) (t : Tok) : Rd (w.alloc (.cells #[.int .i64 t.cat, .int .u8 t.chr.toNat, .string t.name] 46)) (.slice (some ⟨w.heap.size, 0, none⟩) 1 1) 1 3 [.int .i64 t.cat, .int .u8 t.chr.toNat, .string t.name] := by
  refine ⟨rfl, by simp [maxLen], _, _, rfl, fun j v hv => ⟨_, _, rfl, ?_⟩⟩
  have := new_cells w #[.int .i64 t.cat, .int .u8 t.chr.toNat, .string t.name] 46 j v hv
  rw [Addr.add_lit] at this
  exact this



set_option maxRecDepth 100000 in
set_option maxHeartbeats 16000000 in
theorem defineR_any (P B : List Tok) (vp vb : Value) (long : Bool) (w : World) (hp : RdT w vp P) (hb : RdT w vb B) (hnP : P.length ≤ 4000000000) (hnB : B.length ≤ 4000000000) :
    Calls Try.prog 13 #[vp, vb, .bool long] w (DefPost P B long w) := by
  obtain ⟨i0, hi, hz0, hz1, hz2⟩ := info_parts info_tok
  have HI := Lib.hid hi
  have HZ0 := Lib.hid hz0
  have HZ1 := Lib.hid hz1
  have HZ2 := Lib.hid hz2
  clear hi hz0 hz1 hz2
  obtain ⟨np, hnp⟩ : ∃ np, P.length = np := ⟨_, rfl⟩
  obtain ⟨nb, hnb⟩ : ∃ nb, B.length = nb := ⟨_, rfl⟩
  have HP := Lib.hid hp
  have HB := Lib.hid hb
  obtain ⟨ap, cp, hvp, hcp⟩ := hp.capd
  obtain ⟨ab, cb, hvb, hcb⟩ := hb.capd
  rw [hnp] at hvp hnP hcp
  rw [hnb] at hvb hnB hcb
  subst hvp hvb
  have NP := Lib.hid hnp
  have NB := Lib.hid hnb
  clear hp hb hnp hnb
  have h1 := (Sat.start w).alloc Z29
  by_cases hbig : np ≤ 20000 ∧ nb ≤ 20000
  · have HSZ := Lib.hid (show P.length ≤ 20000 ∧ B.length ≤ 20000 by rw [NP.out, NB.out]; exact hbig)
    obtain ⟨hb1, hb2⟩ := hbig
    have hb1' : ¬ ((20000 : Int) < (np : Int)) := by omega
    have hb2' : ¬ ((20000 : Int) < (nb : Int)) := by omega
    have HX := Lib.hid h1
    generalize hrr : w.heap.size = rr at *
    have HRT1 := Lib.hid (rights_any P (.slice ap np cp) _ (HP.out.ext HX.out.extR))
    clear h1
    go_enter Try.func13, Try.ntmps13
    go_wp2_with fail
    generalize hW1 : w.alloc Z29 = W1 at *
    clear hW1 hrr
    refine Calls.mono HRT1.out ?_
    rintro e w1 ⟨rfl, hx⟩
    have HX1 := Lib.hid (HX.out.ext hx)
    clear hx HRT1
    have HRT2 := Lib.hid (rights_any B (.slice ab nb cb) _ (HB.out.ext HX1.out.extR))
    cases hpr : P.all rightB
    · have HE := Lib.hid (define_160 (long := long) HSZ.out (show (P.all rightB && B.all rightB) = false by rw [hpr]; rfl))
      clear hpr
      have r0 := HX1.out.cell (i := 0) rfl
      have r1 := HX1.out.cell (i := 1) rfl
      have r2 := HX1.out.cell (i := 2) rfl
      have f0 := HX1.out.free (i := 0)
      have f1 := HX1.out.free (i := 1)
      have f2 := HX1.out.free (i := 2)
      have lr := HX1.out.lt
      go_wp2
      (try simp only [Exit.inBlock, Exit.then])
      refine bodyPost_ret (v := .tuple #[.agg #[.slice none 0 0, .slice none 0 0, .bool false], .int .i64 160]) (by unfold results; go_simp) rfl ?_
      exact DefPost.no HE.out ((((HX1.out.set (i := 0)).set (i := 1)).set (i := 2)).r)
    have HPR := Lib.hid hpr
    clear hpr
    go_wp2_with fail
    refine Calls.mono HRT2.out ?_
    rintro e w2 ⟨rfl, hx⟩
    have HX2 := Lib.hid (HX1.out.ext hx)
    clear hx HRT2
    cases hbr : B.all rightB
    · have HE := Lib.hid (define_160 (long := long) HSZ.out (show (P.all rightB && B.all rightB) = false by rw [hbr]; simp))
      clear hbr
      have r0 := HX2.out.cell (i := 0) rfl
      have r1 := HX2.out.cell (i := 1) rfl
      have r2 := HX2.out.cell (i := 2) rfl
      have f0 := HX2.out.free (i := 0)
      have f1 := HX2.out.free (i := 1)
      have f2 := HX2.out.free (i := 2)
      have lr := HX2.out.lt
      go_wp2
      (try simp only [Exit.inBlock, Exit.then])
      refine bodyPost_ret (v := .tuple #[.agg #[.slice none 0 0, .slice none 0 0, .bool false], .int .i64 160]) (by unfold results; go_simp) rfl ?_
      exact DefPost.no HE.out ((((HX2.out.set (i := 0)).set (i := 1)).set (i := 2)).r)
    have HRR := Lib.hid (show (P.all rightB && B.all rightB) = true by rw [HPR.out, hbr]; rfl)
    clear hbr HPR HX1 HX
    go_wp2_with fail
    go_loopw [8] (fun i wr => ∃ j : Nat, j ≤ np ∧ i = .int .i64 j ∧ (P.drop j).any isBrace = P.any isBrace ∧ Sat w (pts rr Z29 * own w) wr) (fun i _ => np - (intOf i).toNat)
    case atStart => exact ⟨0, by omega, rfl, rfl, HX2.out⟩
    case round =>
      obtain ⟨j, hj, rfl, ha, hx⟩ := hrel
      have HA := Lib.hid ha
      have HXX := Lib.hid hx
      clear ha hx
      have r0 := HXX.out.cell (i := 0) rfl
      have r1 := HXX.out.cell (i := 1) rfl
      have r2 := HXX.out.cell (i := 2) rfl
      have f0 := HXX.out.free (i := 0)
      have f1 := HXX.out.free (i := 1)
      have f2 := HXX.out.free (i := 2)
      have lr := HXX.out.lt
      by_cases hlt2 : j < np
      · obtain ⟨b, off, hab, ⟨c0, c1, c2⟩, hb⟩ := (HP.out.ext HXX.out.extR).at (i := j) (by rw [NP.out]; exact hlt2)
        cases hab
        have HT := Lib.hid (any_drop P isBrace j (by rw [NP.out]; exact hlt2))
        generalize P[j]'(by rw [NP.out]; exact hlt2) = t at *
        have lt2 : (j : Int) < (np : Int) := by omega
        by_cases ht1 : t.cat = 1
        · have HE := Lib.hid (define_173 (long := long) HSZ.out HRR.out (.inl (by rw [← HA.out, HT.out]; simp [isBrace, ht1])))
          have e1 : (t.cat == 1) = true := by simp [ht1]
          clear ht1
          go_wp2_with (go_at_call 42; refine (open_any _ _).mono ?_; rintro e w' ⟨rfl, rfl⟩)
          (try simp only [Exit.inBlock, Exit.then])
          refine bodyPost_ret (v := .tuple #[.agg #[.slice none 0 0, .slice none 0 0, .bool false], .int .i64 173]) (by unfold results; go_simp) rfl ?_
          exact DefPost.no HE.out ((((HXX.out.set (i := 0)).set (i := 1)).set (i := 2)).r.allocD)
        · by_cases ht2 : t.cat = 2
          · have HE := Lib.hid (define_173 (long := long) HSZ.out HRR.out (.inl (by rw [← HA.out, HT.out]; simp [isBrace, ht2])))
            have e1 : (t.cat == 1) = false := by simp [ht2]
            have e2 : (t.cat == 2) = true := by simp [ht2]
            clear ht1 ht2
            go_wp2_with first | (go_at_call 42; refine (open_any _ _).mono ?_; rintro e w' ⟨rfl, rfl⟩) | (go_at_call 43; refine (shut_any _ _).mono ?_; rintro e w' ⟨rfl, rfl⟩)
            (try simp only [Exit.inBlock, Exit.then])
            refine bodyPost_ret (v := .tuple #[.agg #[.slice none 0 0, .slice none 0 0, .bool false], .int .i64 173]) (by unfold results; go_simp) rfl ?_
            exact DefPost.no HE.out ((((HXX.out.set (i := 0)).set (i := 1)).set (i := 2)).r.allocD.allocD)
          · have HT2 := Lib.hid (show (P.drop j).any isBrace = (P.drop (j + 1)).any isBrace by rw [HT.out]; simp [isBrace, ht1, ht2])
            have e1 : (t.cat == 1) = false := by simp [ht1]
            have e2 : (t.cat == 2) = false := by simp [ht2]
            clear ht1 ht2
            go_wp2_with first | (go_at_call 42; refine (open_any _ _).mono ?_; rintro e w' ⟨rfl, rfl⟩) | (go_at_call 43; refine (shut_any _ _).mono ?_; rintro e w' ⟨rfl, rfl⟩)
            go_roundw
            case rel => exact ⟨j + 1, by omega, by go_num, by rw [← HT2.out, HA.out], HXX.out.allocD.allocD⟩
            case measure => simp [intOf]; omega
      · obtain rfl : j = np := by omega
        have HNB := Lib.hid (show P.any isBrace = false by rw [← HA.out, List.drop_of_length_le (by rw [NP.out]; omega)]; rfl)
        obtain ⟨wo2, rfl⟩ : ∃ wo2 : World, wo2 = wr := ⟨_, rfl⟩
        have HBX := Lib.hid (HB.out.ext HXX.out.extR)
        clear r0 r1 r2 f0 f1 f2 lr
        cases hbal : bal B
        · have HE := Lib.hid (define_173 (long := long) HSZ.out HRR.out (.inr hbal))
          go_wp2_with (go_at_call 28; refine (balR_any B _ _ HBX.out).mono ?_; rintro e w' ⟨rfl, hx2⟩; (have HF := Lib.hid (HXX.out.ext hx2); clear hx2; rw [hbal]; have r0 := HF.out.cell (i := 0) rfl; have r1 := HF.out.cell (i := 1) rfl; have r2 := HF.out.cell (i := 2) rfl; have f0 := HF.out.free (i := 0); have f1 := HF.out.free (i := 1); have f2 := HF.out.free (i := 2); have lr := HF.out.lt))
          (try simp only [Exit.inBlock, Exit.then])
          refine bodyPost_ret (v := .tuple #[.agg #[.slice none 0 0, .slice none 0 0, .bool false], .int .i64 173]) (by unfold results; go_simp) rfl ?_
          exact DefPost.no HE.out ((((HF.out.set (i := 0)).set (i := 1)).set (i := 2)).r)
        · have HD := Lib.hid (define_rest (long := long) HSZ.out HRR.out HNB.out hbal)
          go_upto_region 10 with fail
          go_wp2_with fail
          refine Calls.mono (balR_any B _ _ HBX.out) ?_
          rintro e w3 ⟨rfl, hx2⟩
          have HF := Lib.hid (HXX.out.ext hx2)
          clear hx2 HBX HXX HX2
          rw [hbal]
          have h4 := (HF.out.alloc (.cells #[.slice none 0 0, .slice none 0 0, .bool long] 29)).alloc (.cells #[.int .i64 1, .int .u8 123, .string ByteArray.empty] 46)
          rw [show (w3.alloc (.cells #[.slice none 0 0, .slice none 0 0, .bool long] 29)).heap.size = w3.heap.size + 1 by simp] at h4
          go_upto_block 2 with fail
          generalize hmm : w3.heap.size = mm at *
          obtain ⟨bb, hbb⟩ : ∃ bb, mm + 1 = bb := ⟨_, rfl⟩
          rw [hbb] at h4 ⊢
          clear hbb
          have H4 := Lib.hid h4
          clear h4
          go_wp2_with fail
          go_loopw [10, 12, 13] (fun pl op i wr => ∃ (k n : Nat) (o : Bool) (acc : List Tok) (u : Value), k ≤ j ∧ n ≤ 9 ∧ acc.length ≤ k ∧ pl = .int .i64 n ∧ op = .bool o ∧ i = .int .i64 k ∧ finP acc o (defP n (P.drop k)) = defP 0 P ∧
            Sat w (pts mm (.cells #[u, .slice none 0 0, .bool long] 29 (0, 0)) * (rowT u acc * (pts bb (.cells #[.int .i64 1, .int .u8 123, .string ByteArray.empty] 46 (0, 0)) * (pts rr Z29 * own w)))) wr) (fun _ _ i _ => j - (intOf i).toNat)
          case atStart => exact ⟨0, 0, false, [], .slice none 0 0, by omega, by omega, by simp, rfl, rfl, rfl, by rw [List.drop_zero, finP_0], (Sat.row_nil (Sat.rot H4.out)).rot⟩
          case round =>
            obtain ⟨k, n, o, acc, u, hk, hn9, hal, rfl, rfl, rfl, ha, hx⟩ := hrel
            have HWA := Lib.hid ha
            have HW := Lib.hid hx
            clear ha hx H4
            obtain ⟨ua, uc, rfl, _⟩ := (rowT_rd HW.out.r).capd
            by_cases hlt : k < j
            · obtain ⟨b, off, hab, ⟨c0, c1, c2⟩, hb⟩ := (HP.out.ext HW.out.r.r.r.extR).at (i := k) (by rw [NP.out]; exact hlt)
              cases hab
              have lt1 : (k : Int) < (j : Int) := by omega
              by_cases h6 : (P[k]'(by rw [NP.out]; exact hlt)).cat = 6
              · have e1 : ((P[k]'(by rw [NP.out]; exact hlt)).cat == 6) = true := by simpa using h6
                by_cases hl : k + 1 = j
                · have HN := Lib.hid (defP_last (P := P) (n := n) (acc := acc) (o := o) (by rw [NP.out]; exact hl) h6)
                  clear h6
                  generalize P[k]'(by rw [NP.out]; exact hlt) = t at *
                  have e2 : ((k : Int) == (j : Int) - 1) = true := by simp; omega
                  go_upto_region 22 with (go_at_call 44; refine (hash_any _ _).mono ?_; rintro e w' ⟨rfl, rfl⟩)
                  replace c0 := ((Ext.refl wr).alloc (o := t.box)).cell c0
                  replace c1 := ((Ext.refl wr).alloc (o := t.box)).cell c1
                  replace c2 := ((Ext.refl wr).alloc (o := t.box)).cell c2
                  have HW2 := Lib.hid (HW.out.allocD (o := t.box))
                  clear HW
                  generalize wr.alloc t.box = W2 at *
                  have m0 := HW2.out.cell (i := 0) rfl
                  have g0 := HW2.out.free (i := 0)
                  have lm := HW2.out.lt
                  have b0 := HW2.out.r.r.cell (i := 0) rfl
                  have b1 := HW2.out.r.r.cell (i := 1) rfl
                  have b2 := HW2.out.r.r.cell (i := 2) rfl
                  have lb := HW2.out.r.r.lt
                  go_wp2_with (at_builtin; refine wpList_append_sep rfl _ _ 22 rfl i0 _ 32 Try.underlying22 HI.out HZ0.out HZ1.out HZ2.out rfl rfl HW2.out.rot.allocD ⟨W2.heap.size, 0, none⟩ 1 1 [.int .i64 1, .int .u8 123, .string ByteArray.empty] rfl rfl ?_ ?_ ?_ ?_ ?_)
                  · exact new_cells _ _ _
                  · simp [Value.oneCell']
                  · simp [maxLen]; omega
                  · omega
                  intro v' w1 h6
                  obtain ⟨va, vc, rfl, -⟩ := h6.row_val
                  have m0 := h6.rot.cell (i := 0) rfl
                  have g0 := h6.rot.free (i := 0)
                  have lm := h6.rot.lt
                  have HS := Lib.hid h6
                  clear h6
                  go_wp2
                  go_roundw
                  case rel => exact ⟨k + 1, n, true, acc ++ [brace], _, by omega, hn9, by simp; omega, rfl, rfl, by go_num, by rw [← HN.out, HWA.out], (rowT_snoc (t := brace) (HS.out.rot.set (i := 0)).rot rfl rfl).rot⟩
                  case measure => simp [intOf]; omega
                · have hk1 : k + 1 < j := by omega
                  have e2 : ((k : Int) == (j : Int) - 1) = false := by simp; omega
                  have HPW := Lib.hid (fun w' (h : Sat w (pts mm (.cells #[.slice ua acc.length uc, .slice none 0 0, .bool long] 29 (0, 0)) * (rowT (.slice ua acc.length uc) acc * (pts bb (.cells #[.int .i64 1, .int .u8 123, .string ByteArray.empty] 46 (0, 0)) * (pts rr Z29 * own w)))) w') => (HP.out.ext h.r.r.r.extR).at (i := k + 1) (by rw [NP.out]; exact hk1))
                  by_cases hd : digitT (P[k + 1]'(by rw [NP.out]; exact hk1)) = n + 1
                  · have HN := Lib.hid (defP_place (acc := acc) (o := o) (by rw [NP.out]; exact hk1) h6 hd)
                    have hn8 : n + 1 ≤ 9 := by rw [← hd]; exact digitT_le _
                    have hd2 : ((digitT (P[k + 1]'(by rw [NP.out]; exact hk1)) : Nat) : Int) = (n : Int) + 1 := by rw [hd]; push_cast; rfl
                    have HTK := Lib.hid (show [Value.int .i64 17, .int .u8 ((n : Int) + 1), .string ByteArray.empty] = (placeT (n + 1)).cells by
                      have := placeT_chr hn8
                      simp only [Tok.cells, this]
                      push_cast
                      rfl)
                    clear h6 hd
                    generalize P[k]'(by rw [NP.out]; exact hlt) = t at *
                    generalize P[k + 1]'(by rw [NP.out]; exact hk1) = t1 at *
                    have hn256 : (n : Int) + 1 < 256 := by omega
                    go_upto_region 22 with (go_at_call 44; refine (hash_any _ _).mono ?_; rintro e w' ⟨rfl, rfl⟩)
                    replace c0 := ((Ext.refl wr).alloc (o := t.box)).cell c0
                    replace c1 := ((Ext.refl wr).alloc (o := t.box)).cell c1
                    replace c2 := ((Ext.refl wr).alloc (o := t.box)).cell c2
                    have HW2 := Lib.hid (HW.out.allocD (o := t.box))
                    clear HW
                    generalize wr.alloc t.box = W2 at *
                    obtain ⟨b', off', hab, ⟨d0, d1, d2⟩, hb'⟩ := HPW.out _ HW2.out
                    cases hab
                    go_upto_region 26 with (go_at_call 45; refine (digitR_any _ _).mono ?_; rintro e w' ⟨rfl, rfl⟩)
                    have HW3 := Lib.hid (HW2.out.allocD (o := t1.box))
                    clear HW2 c0 c1 c2 d0 d1 d2
                    generalize W2.alloc t1.box = W3 at *
                    have m0 := HW3.out.cell (i := 0) rfl
                    have g0 := HW3.out.free (i := 0)
                    have lm := HW3.out.lt
                    clear hd2
                    go_wp2_with (at_builtin; refine wpList_append_sep rfl _ _ 22 rfl i0 _ 32 Try.underlying22 HI.out HZ0.out HZ1.out HZ2.out rfl rfl HW3.out.rot.allocD ⟨W3.heap.size, 0, none⟩ 1 1 [.int .i64 17, .int .u8 ((n : Int) + 1), .string ByteArray.empty] rfl rfl ?_ ?_ ?_ ?_ ?_)
                    · exact new_cells _ _ _
                    · simp [Value.oneCell']
                    · simp [maxLen]; omega
                    · omega
                    intro v' w1 h6
                    obtain ⟨va, vc, rfl, -⟩ := h6.row_val
                    have m0 := h6.rot.cell (i := 0) rfl
                    have g0 := h6.rot.free (i := 0)
                    have lm := h6.rot.lt
                    have HS := Lib.hid h6
                    clear h6
                    go_wp2
                    go_roundw
                    case rel => exact ⟨k + 2, n + 1, o, acc ++ [placeT (n + 1)], _, by omega, hn8, by simp; omega, by go_num, rfl, by go_num, by rw [← HN.out, HWA.out], (rowT_snoc (t := placeT (n + 1)) (HS.out.rot.set (i := 0)).rot rfl (by rw [HTK.out])).rot⟩
                    case measure => simp [intOf]; omega
                  · have HE := Lib.hid (show define P B long = .no 170 by rw [HD.out, ← HWA.out, defP_bad (by rw [NP.out]; exact hk1) h6 hd])
                    have e3 : (((digitT (P[k + 1]'(by rw [NP.out]; exact hk1)) : Nat) : Int) == (n : Int) + 1) = false := by simp; omega
                    clear h6 hd
                    generalize P[k]'(by rw [NP.out]; exact hlt) = t at *
                    generalize P[k + 1]'(by rw [NP.out]; exact hk1) = t1 at *
                    go_upto_region 22 with (go_at_call 44; refine (hash_any _ _).mono ?_; rintro e w' ⟨rfl, rfl⟩)
                    replace c0 := ((Ext.refl wr).alloc (o := t.box)).cell c0
                    replace c1 := ((Ext.refl wr).alloc (o := t.box)).cell c1
                    replace c2 := ((Ext.refl wr).alloc (o := t.box)).cell c2
                    have HW2 := Lib.hid (HW.out.allocD (o := t.box))
                    clear HW
                    generalize wr.alloc t.box = W2 at *
                    obtain ⟨b', off', hab, ⟨d0, d1, d2⟩, hb'⟩ := HPW.out _ HW2.out
                    cases hab
                    have r0 := HW2.out.r.r.r.cell (i := 0) rfl
                    have r1 := HW2.out.r.r.r.cell (i := 1) rfl
                    have r2 := HW2.out.r.r.r.cell (i := 2) rfl
                    have f0 := HW2.out.r.r.r.free (i := 0)
                    have f1 := HW2.out.r.r.r.free (i := 1)
                    have f2 := HW2.out.r.r.r.free (i := 2)
                    have lr := HW2.out.r.r.r.lt
                    go_wp2_with (go_at_call 45; refine (digitR_any _ _).mono ?_; rintro e w' ⟨rfl, rfl⟩)
                    (try simp only [Exit.inBlock, Exit.then])
                    refine bodyPost_ret (v := .tuple #[.agg #[.slice none 0 0, .slice none 0 0, .bool false], .int .i64 170]) (by unfold results; go_simp) rfl ?_
                    exact DefPost.no HE.out ((((HW2.out.r.r.r.set (i := 0)).set (i := 1)).set (i := 2)).r.allocD)
              · have HN := Lib.hid (defP_plain (n := n) (acc := acc) (o := o) (by rw [NP.out]; exact hlt) h6)
                have e1 : ((P[k]'(by rw [NP.out]; exact hlt)).cat == 6) = false := by simpa using h6
                clear h6
                generalize P[k]'(by rw [NP.out]; exact hlt) = t at *
                go_upto_region 21 with (go_at_call 44; refine (hash_any _ _).mono ?_; rintro e w' ⟨rfl, rfl⟩)
                replace c0 := ((Ext.refl wr).alloc (o := t.box)).cell c0
                replace c1 := ((Ext.refl wr).alloc (o := t.box)).cell c1
                replace c2 := ((Ext.refl wr).alloc (o := t.box)).cell c2
                have HW2 := Lib.hid (HW.out.allocD (o := t.box))
                clear HW
                generalize wr.alloc t.box = W2 at *
                have m0 := HW2.out.cell (i := 0) rfl
                have lm := HW2.out.lt
                have HA := Lib.hid (HW2.out.rot.drew.allocD (o := .cells #[.int .i64 t.cat, .int .u8 t.chr.toNat, .string t.name] 46))
                go_region_law
                  (refine step_append_rd rfl _ _ 22 rfl i0 _ 32 Try.underlying22 HI.out HZ0.out HZ1.out HZ2.out rfl (by omega) rfl HA.out _ 1 [.int .i64 t.cat, .int .u8 t.chr.toNat, .string t.name] rfl (rdT_box W2.drew t) ?_ ?_ ?_ ?_
                   · simp [Value.oneCell']
                   · simp [maxLen]; omega
                   · omega
                   intro v1 w1 h7 _
                   obtain ⟨ya, yc, rfl, -⟩ := h7.row_val
                   have H7 := Lib.hid h7
                   have c41 := h7.rot.cell (i := 0) rfl
                   have f41 := h7.rot.free (i := 0)
                   have l41 := h7.rot.lt
                   clear h7)
                all_goals
                  go_wp2
                  go_roundw
                  case rel => exact ⟨k + 1, n, o, acc ++ [t], _, by omega, hn9, by simp; omega, rfl, rfl, by go_num, by rw [← HN.out, HWA.out], (rowT_snoc (t := t) (H7.out.rot.set (i := 0)).rot rfl rfl).rot⟩
                  case measure => simp [intOf]; omega
            · obtain rfl : k = j := by omega
              have HDP := Lib.hid (show defP 0 P = some (acc, n, o) by rw [← HWA.out, List.drop_of_length_le (by rw [NP.out]; omega)]; simp [defP, finP])
              have HD2 := Lib.hid (show define P B long = match defB n B with
                  | none => .no 170
                  | some B' => if 20000 < (bodyO o B').length then .no 6 else ⟨acc, bodyO o B', long, 0⟩ by rw [HD.out, HDP.out]; try rfl)
              obtain ⟨wo3, rfl⟩ : ∃ wo3 : World, wo3 = wr := ⟨_, rfl⟩
              have H6 := Lib.hid ((Sat.row_nil (e := 46) (size := 3) HW.out).rot.of_eq (show _ = pts mm (.cells #[.slice ua acc.length uc, .slice none 0 0, .bool long] 29 (0, 0)) * (rowT (.slice none 0 0) [] * (rowT (.slice ua acc.length uc) acc * (pts bb (.cells #[.int .i64 1, .int .u8 123, .string ByteArray.empty] 46 (0, 0)) * (pts rr Z29 * own w)))) from rfl))
              go_wp2
              go_loopw [14] (fun i wr => ∃ (k2 : Nat) (accB : List Tok) (u : Value), k2 ≤ nb ∧ accB.length ≤ k2 ∧ i = .int .i64 k2 ∧ finB accB (defB n (B.drop k2)) = defB n B ∧
                Sat w (pts mm (.cells #[.slice ua acc.length uc, u, .bool long] 29 (0, 0)) * (rowT u accB * (rowT (.slice ua acc.length uc) acc * (pts bb (.cells #[.int .i64 1, .int .u8 123, .string ByteArray.empty] 46 (0, 0)) * (pts rr Z29 * own w))))) wr) (fun i _ => nb - (intOf i).toNat)
              case atStart => exact ⟨0, [], .slice none 0 0, by omega, by simp, rfl, by rw [List.drop_zero, finB_0], H6.out⟩
              case round =>
                obtain ⟨k2, accB, ub, hk2, hal2, rfl, ha, hx⟩ := hrel
                have HVA := Lib.hid ha
                have HV := Lib.hid hx
                clear ha hx H6 HW
                obtain ⟨va, vc, rfl, _⟩ := (rowT_rd HV.out.r).capd
                by_cases hlt3 : k2 < nb
                · obtain ⟨b, off, hab, ⟨c0, c1, c2⟩, hb⟩ := (HB.out.ext HV.out.r.r.r.r.extR).at (i := k2) (by rw [NB.out]; exact hlt3)
                  cases hab
                  have lt3 : (k2 : Int) < (nb : Int) := by omega
                  have HW := Lib.hid HV.out
                  clear HV
                  by_cases h6 : (B[k2]'(by rw [NB.out]; exact hlt3)).cat = 6
                  · have e1 : ((B[k2]'(by rw [NB.out]; exact hlt3)).cat == 6) = true := by simpa using h6
                    by_cases hl : k2 + 1 = nb
                    · have HE := Lib.hid (show define P B long = .no 170 by rw [HD2.out, ← HVA.out, defB_last (by rw [NB.out]; exact hl) h6])
                      have e2 : ((k2 : Int) == (nb : Int) - 1) = true := by simp; omega
                      clear h6
                      generalize B[k2]'(by rw [NB.out]; exact hlt3) = t at *
                      go_upto_region 34 with (go_at_call 44; refine (hash_any _ _).mono ?_; rintro e w' ⟨rfl, rfl⟩)
                      replace c0 := ((Ext.refl wr).alloc (o := t.box)).cell c0
                      replace c1 := ((Ext.refl wr).alloc (o := t.box)).cell c1
                      replace c2 := ((Ext.refl wr).alloc (o := t.box)).cell c2
                      have HW2 := Lib.hid (HW.out.allocD (o := t.box))
                      clear HW
                      generalize wr.alloc t.box = W2 at *
                      have r0 := HW2.out.r.r.r.r.cell (i := 0) rfl
                      have r1 := HW2.out.r.r.r.r.cell (i := 1) rfl
                      have r2 := HW2.out.r.r.r.r.cell (i := 2) rfl
                      have f0 := HW2.out.r.r.r.r.free (i := 0)
                      have f1 := HW2.out.r.r.r.r.free (i := 1)
                      have f2 := HW2.out.r.r.r.r.free (i := 2)
                      have lr := HW2.out.r.r.r.r.lt
                      go_wp2
                      (try simp only [Exit.inBlock, Exit.then])
                      refine bodyPost_ret (v := .tuple #[.agg #[.slice none 0 0, .slice none 0 0, .bool false], .int .i64 170]) (by unfold results; go_simp) rfl ?_
                      exact DefPost.no HE.out ((((HW2.out.r.r.r.r.set (i := 0)).set (i := 1)).set (i := 2)).r)
                    · have hk1 : k2 + 1 < nb := by omega
                      have e2 : ((k2 : Int) == (nb : Int) - 1) = false := by simp; omega
                      have HPW := Lib.hid (fun w' (h : Sat w (pts mm (.cells #[.slice ua acc.length uc, .slice va accB.length vc, .bool long] 29 (0, 0)) * (rowT (.slice va accB.length vc) accB * (rowT (.slice ua acc.length uc) acc * (pts bb (.cells #[.int .i64 1, .int .u8 123, .string ByteArray.empty] 46 (0, 0)) * (pts rr Z29 * own w))))) w') => (HB.out.ext h.r.r.r.r.extR).at (i := k2 + 1) (by rw [NB.out]; exact hk1))
                      by_cases h7 : (B[k2 + 1]'(by rw [NB.out]; exact hk1)).cat = 6
                      · have HN := Lib.hid (defB_hash (n := n) (acc := accB) (by rw [NB.out]; exact hk1) h6 h7)
                        have e3 : ((B[k2 + 1]'(by rw [NB.out]; exact hk1)).cat == 6) = true := by simpa using h7
                        clear h6 h7
                        generalize B[k2]'(by rw [NB.out]; exact hlt3) = t at *
                        generalize B[k2 + 1]'(by rw [NB.out]; exact hk1) = t1 at *
                        go_upto_region 34 with (go_at_call 44; refine (hash_any _ _).mono ?_; rintro e w' ⟨rfl, rfl⟩)
                        replace c0 := ((Ext.refl wr).alloc (o := t.box)).cell c0
                        replace c1 := ((Ext.refl wr).alloc (o := t.box)).cell c1
                        replace c2 := ((Ext.refl wr).alloc (o := t.box)).cell c2
                        have HW2 := Lib.hid (HW.out.allocD (o := t.box))
                        clear HW
                        generalize wr.alloc t.box = W2 at *
                        obtain ⟨b', off', hab, ⟨d0, d1, d2⟩, hb'⟩ := HPW.out _ HW2.out
                        cases hab
                        go_upto_region 39 with (go_at_call 45; refine (digitR_any _ _).mono ?_; rintro e w' ⟨rfl, rfl⟩)
                        replace d0 := ((Ext.refl W2).alloc (o := t1.box)).cell d0
                        replace d1 := ((Ext.refl W2).alloc (o := t1.box)).cell d1
                        replace d2 := ((Ext.refl W2).alloc (o := t1.box)).cell d2
                        have HW3 := Lib.hid (HW2.out.allocD (o := t1.box))
                        clear HW2 c0 c1 c2
                        generalize W2.alloc t1.box = W3 at *
                        go_upto_region 40 with (go_at_call 44; refine (hash_any _ _).mono ?_; rintro e w' ⟨rfl, rfl⟩)
                        replace d0 := ((Ext.refl W3).alloc (o := t1.box)).cell d0
                        replace d1 := ((Ext.refl W3).alloc (o := t1.box)).cell d1
                        replace d2 := ((Ext.refl W3).alloc (o := t1.box)).cell d2
                        have HW4 := Lib.hid (HW3.out.allocD (o := t1.box))
                        clear HW3
                        generalize W3.alloc t1.box = W4 at *
                        have m1 := HW4.out.cell (i := 1) rfl
                        have lm := HW4.out.lt
                        have j1 : (0 : Int) ≤ (k2 : Int) + 1 := by omega
                        have j2 : (k2 : Int) + 1 < (nb : Int) := by omega
                        have HA := Lib.hid (HW4.out.rot.drew.allocD (o := .cells #[.int .i64 t1.cat, .int .u8 t1.chr.toNat, .string t1.name] 46))
                        go_region_law
                          (refine step_append_rd rfl _ _ 22 rfl i0 _ 32 Try.underlying22 HI.out HZ0.out HZ1.out HZ2.out rfl (by omega) rfl HA.out _ 1 [.int .i64 t1.cat, .int .u8 t1.chr.toNat, .string t1.name] rfl (rdT_box W4.drew t1) ?_ ?_ ?_ ?_
                           · simp [Value.oneCell']
                           · simp [maxLen]; omega
                           · omega
                           intro v1 w1 h7 _
                           obtain ⟨ya, yc, rfl, -⟩ := h7.row_val
                           have H7 := Lib.hid h7
                           have c41 := h7.rot.cell (i := 1) rfl
                           have f41 := h7.rot.free (i := 1)
                           have l41 := h7.rot.lt
                           clear h7)
                        all_goals
                          go_wp2
                          go_roundw
                          case rel => exact ⟨k2 + 2, accB ++ [t1], _, by omega, by simp; omega, by go_num, by rw [← HN.out, HVA.out], (rowT_snoc (t := t1) (H7.out.rot.set (i := 1)).rot rfl rfl).rot⟩
                          case measure => simp [intOf]; omega
                      · have e3 : ((B[k2 + 1]'(by rw [NB.out]; exact hk1)).cat == 6) = false := by simpa using h7
                        by_cases hd : 1 ≤ digitT (B[k2 + 1]'(by rw [NB.out]; exact hk1)) ∧ digitT (B[k2 + 1]'(by rw [NB.out]; exact hk1)) ≤ n
                        · have HN := Lib.hid (defB_place (acc := accB) (by rw [NB.out]; exact hk1) h6 h7 hd)
                          have hn8 : digitT (B[k2 + 1]'(by rw [NB.out]; exact hk1)) ≤ 9 := digitT_le _
                          have HTK := Lib.hid (show [Value.int .i64 17, .int .u8 (digitT (B[k2 + 1]'(by rw [NB.out]; exact hk1)) : Nat), .string ByteArray.empty] = (placeT (digitT (B[k2 + 1]'(by rw [NB.out]; exact hk1)))).cells by
                            have := placeT_chr hn8
                            simp only [Tok.cells, this]
                            rfl)
                          clear h6 h7
                          generalize B[k2]'(by rw [NB.out]; exact hlt3) = t at *
                          generalize B[k2 + 1]'(by rw [NB.out]; exact hk1) = t1 at *
                          obtain ⟨dg, hdg⟩ : ∃ dg, digitT t1 = dg := ⟨_, rfl⟩
                          rw [hdg] at HN HTK hd hn8
                          have HDG := Lib.hid hdg
                          clear hdg
                          obtain ⟨hd1, hd2⟩ := hd
                          have q1 : (1 : Int) ≤ (dg : Int) := by omega
                          have q2 : (dg : Int) ≤ (n : Int) := by omega
                          have q3 : (dg : Int) < 256 := by omega
                          go_upto_region 34 with (go_at_call 44; refine (hash_any _ _).mono ?_; rintro e w' ⟨rfl, rfl⟩)
                          replace c0 := ((Ext.refl wr).alloc (o := t.box)).cell c0
                          replace c1 := ((Ext.refl wr).alloc (o := t.box)).cell c1
                          replace c2 := ((Ext.refl wr).alloc (o := t.box)).cell c2
                          have HW2 := Lib.hid (HW.out.allocD (o := t.box))
                          clear HW
                          generalize wr.alloc t.box = W2 at *
                          obtain ⟨b', off', hab, ⟨d0, d1, d2⟩, hb'⟩ := HPW.out _ HW2.out
                          cases hab
                          go_upto_region 39 with (go_at_call 45; refine (digitR_any _ _).mono ?_; rintro e w' ⟨rfl, rfl⟩; rw [HDG.out])
                          replace d0 := ((Ext.refl W2).alloc (o := t1.box)).cell d0
                          replace d1 := ((Ext.refl W2).alloc (o := t1.box)).cell d1
                          replace d2 := ((Ext.refl W2).alloc (o := t1.box)).cell d2
                          have HW3 := Lib.hid (HW2.out.allocD (o := t1.box))
                          clear HW2 c0 c1 c2
                          generalize W2.alloc t1.box = W3 at *
                          go_upto_region 42 with (go_at_call 44; refine (hash_any _ _).mono ?_; rintro e w' ⟨rfl, rfl⟩)
                          have HW4 := Lib.hid (HW3.out.allocD (o := t1.box))
                          clear HW3 d0 d1 d2
                          generalize W3.alloc t1.box = W4 at *
                          have m1 := HW4.out.cell (i := 1) rfl
                          have g1 := HW4.out.free (i := 1)
                          have lm := HW4.out.lt
                          go_wp2_with (at_builtin; refine wpList_append_sep rfl _ _ 22 rfl i0 _ 32 Try.underlying22 HI.out HZ0.out HZ1.out HZ2.out rfl rfl HW4.out.rot.allocD ⟨W4.heap.size, 0, none⟩ 1 1 [.int .i64 17, .int .u8 (dg : Nat), .string ByteArray.empty] rfl rfl ?_ ?_ ?_ ?_ ?_)
                          · exact new_cells _ _ _
                          · simp [Value.oneCell']
                          · simp [maxLen]; omega
                          · omega
                          intro v' w1 h6
                          obtain ⟨xa, xc, rfl, -⟩ := h6.row_val
                          have m1 := h6.rot.cell (i := 1) rfl
                          have g1 := h6.rot.free (i := 1)
                          have lm := h6.rot.lt
                          have HS := Lib.hid h6
                          clear h6
                          go_wp2
                          go_roundw
                          case rel => exact ⟨k2 + 2, accB ++ [placeT dg], _, by omega, by simp; omega, by go_num, by rw [← HN.out, HVA.out], (rowT_snoc (t := placeT dg) (HS.out.rot.set (i := 1)).rot rfl (by rw [HTK.out])).rot⟩
                          case measure => simp [intOf]; omega
                        · have HE := Lib.hid (show define P B long = .no 170 by rw [HD2.out, ← HVA.out, defB_bad (by rw [NB.out]; exact hk1) h6 h7 hd])
                          clear h6 h7
                          generalize B[k2]'(by rw [NB.out]; exact hlt3) = t at *
                          generalize B[k2 + 1]'(by rw [NB.out]; exact hk1) = t1 at *
                          obtain ⟨dg, hdg⟩ : ∃ dg, digitT t1 = dg := ⟨_, rfl⟩
                          rw [hdg] at hd
                          have HDG := Lib.hid hdg
                          clear hdg
                          by_cases q1 : (1 : Int) ≤ (dg : Int)
                          · have q2 : ¬ ((dg : Int) ≤ (n : Int)) := by omega
                            clear hd
                            go_upto_region 34 with (go_at_call 44; refine (hash_any _ _).mono ?_; rintro e w' ⟨rfl, rfl⟩)
                            replace c0 := ((Ext.refl wr).alloc (o := t.box)).cell c0
                            replace c1 := ((Ext.refl wr).alloc (o := t.box)).cell c1
                            replace c2 := ((Ext.refl wr).alloc (o := t.box)).cell c2
                            have HW2 := Lib.hid (HW.out.allocD (o := t.box))
                            clear HW
                            generalize wr.alloc t.box = W2 at *
                            obtain ⟨b', off', hab, ⟨d0, d1, d2⟩, hb'⟩ := HPW.out _ HW2.out
                            cases hab
                            go_upto_region 39 with (go_at_call 45; refine (digitR_any _ _).mono ?_; rintro e w' ⟨rfl, rfl⟩; rw [HDG.out])
                            replace d0 := ((Ext.refl W2).alloc (o := t1.box)).cell d0
                            replace d1 := ((Ext.refl W2).alloc (o := t1.box)).cell d1
                            replace d2 := ((Ext.refl W2).alloc (o := t1.box)).cell d2
                            have HW3 := Lib.hid (HW2.out.allocD (o := t1.box))
                            clear HW2 c0 c1 c2
                            generalize W2.alloc t1.box = W3 at *
                            go_upto_region 38 with (go_at_call 44; refine (hash_any _ _).mono ?_; rintro e w' ⟨rfl, rfl⟩)
                            have HW4 := Lib.hid (HW3.out.allocD (o := t1.box))
                            clear HW3 d0 d1 d2
                            generalize W3.alloc t1.box = W4 at *
                            have r0 := HW4.out.r.r.r.r.cell (i := 0) rfl
                            have r1 := HW4.out.r.r.r.r.cell (i := 1) rfl
                            have r2 := HW4.out.r.r.r.r.cell (i := 2) rfl
                            have f0 := HW4.out.r.r.r.r.free (i := 0)
                            have f1 := HW4.out.r.r.r.r.free (i := 1)
                            have f2 := HW4.out.r.r.r.r.free (i := 2)
                            have lr := HW4.out.r.r.r.r.lt
                            go_wp2
                            (try simp only [Exit.inBlock, Exit.then])
                            refine bodyPost_ret (v := .tuple #[.agg #[.slice none 0 0, .slice none 0 0, .bool false], .int .i64 170]) (by unfold results; go_simp) rfl ?_
                            exact DefPost.no HE.out ((((HW4.out.r.r.r.r.set (i := 0)).set (i := 1)).set (i := 2)).r)
                          · clear hd
                            go_upto_region 34 with (go_at_call 44; refine (hash_any _ _).mono ?_; rintro e w' ⟨rfl, rfl⟩)
                            replace c0 := ((Ext.refl wr).alloc (o := t.box)).cell c0
                            replace c1 := ((Ext.refl wr).alloc (o := t.box)).cell c1
                            replace c2 := ((Ext.refl wr).alloc (o := t.box)).cell c2
                            have HW2 := Lib.hid (HW.out.allocD (o := t.box))
                            clear HW
                            generalize wr.alloc t.box = W2 at *
                            obtain ⟨b', off', hab, ⟨d0, d1, d2⟩, hb'⟩ := HPW.out _ HW2.out
                            cases hab
                            go_upto_region 39 with (go_at_call 45; refine (digitR_any _ _).mono ?_; rintro e w' ⟨rfl, rfl⟩; rw [HDG.out])
                            replace d0 := ((Ext.refl W2).alloc (o := t1.box)).cell d0
                            replace d1 := ((Ext.refl W2).alloc (o := t1.box)).cell d1
                            replace d2 := ((Ext.refl W2).alloc (o := t1.box)).cell d2
                            have HW3 := Lib.hid (HW2.out.allocD (o := t1.box))
                            clear HW2 c0 c1 c2
                            generalize W2.alloc t1.box = W3 at *
                            go_upto_region 38 with (go_at_call 44; refine (hash_any _ _).mono ?_; rintro e w' ⟨rfl, rfl⟩)
                            have HW4 := Lib.hid (HW3.out.allocD (o := t1.box))
                            clear HW3 d0 d1 d2
                            generalize W3.alloc t1.box = W4 at *
                            have r0 := HW4.out.r.r.r.r.cell (i := 0) rfl
                            have r1 := HW4.out.r.r.r.r.cell (i := 1) rfl
                            have r2 := HW4.out.r.r.r.r.cell (i := 2) rfl
                            have f0 := HW4.out.r.r.r.r.free (i := 0)
                            have f1 := HW4.out.r.r.r.r.free (i := 1)
                            have f2 := HW4.out.r.r.r.r.free (i := 2)
                            have lr := HW4.out.r.r.r.r.lt
                            go_wp2
                            (try simp only [Exit.inBlock, Exit.then])
                            refine bodyPost_ret (v := .tuple #[.agg #[.slice none 0 0, .slice none 0 0, .bool false], .int .i64 170]) (by unfold results; go_simp) rfl ?_
                            exact DefPost.no HE.out ((((HW4.out.r.r.r.r.set (i := 0)).set (i := 1)).set (i := 2)).r)
                  · have HN := Lib.hid (defB_plain (n := n) (acc := accB) (by rw [NB.out]; exact hlt3) h6)
                    have e1 : ((B[k2]'(by rw [NB.out]; exact hlt3)).cat == 6) = false := by simpa using h6
                    clear h6
                    generalize B[k2]'(by rw [NB.out]; exact hlt3) = t at *
                    go_upto_region 33 with (go_at_call 44; refine (hash_any _ _).mono ?_; rintro e w' ⟨rfl, rfl⟩)
                    replace c0 := ((Ext.refl wr).alloc (o := t.box)).cell c0
                    replace c1 := ((Ext.refl wr).alloc (o := t.box)).cell c1
                    replace c2 := ((Ext.refl wr).alloc (o := t.box)).cell c2
                    have HW2 := Lib.hid (HW.out.allocD (o := t.box))
                    clear HW
                    generalize wr.alloc t.box = W2 at *
                    have m1 := HW2.out.cell (i := 1) rfl
                    have lm := HW2.out.lt
                    have HA := Lib.hid (HW2.out.rot.drew.allocD (o := .cells #[.int .i64 t.cat, .int .u8 t.chr.toNat, .string t.name] 46))
                    go_region_law
                      (refine step_append_rd rfl _ _ 22 rfl i0 _ 32 Try.underlying22 HI.out HZ0.out HZ1.out HZ2.out rfl (by omega) rfl HA.out _ 1 [.int .i64 t.cat, .int .u8 t.chr.toNat, .string t.name] rfl (rdT_box W2.drew t) ?_ ?_ ?_ ?_
                       · simp [Value.oneCell']
                       · simp [maxLen]; omega
                       · omega
                       intro v1 w1 h7 _
                       obtain ⟨ya, yc, rfl, -⟩ := h7.row_val
                       have H7 := Lib.hid h7
                       have c41 := h7.rot.cell (i := 1) rfl
                       have f41 := h7.rot.free (i := 1)
                       have l41 := h7.rot.lt
                       clear h7)
                    all_goals
                      go_wp2
                      go_roundw
                      case rel => exact ⟨k2 + 1, accB ++ [t], _, by omega, by simp; omega, by go_num, by rw [← HN.out, HVA.out], (rowT_snoc (t := t) (H7.out.rot.set (i := 1)).rot rfl rfl).rot⟩
                      case measure => simp [intOf]; omega
                · obtain rfl : k2 = nb := by omega
                  have HDB := Lib.hid (show defB n B = some accB by have := HVA.out; rw [List.drop_of_length_le (by rw [NB.out]; omega)] at this; rw [← this]; simp [defB, finB])
                  have HD3 := Lib.hid (show define P B long = if 20000 < (bodyO o accB).length then .no 6 else ⟨acc, bodyO o accB, long, 0⟩ by rw [HD2.out, HDB.out])
                  have hne : mm ≠ rr := (HV.out.of_eq (show _ = pts mm _ * (pts rr Z29 * (rowT (.slice va accB.length vc) accB * (rowT (.slice ua acc.length uc) acc * (pts bb (.cells #[.int .i64 1, .int .u8 123, .string ByteArray.empty] 46 (0, 0)) * own w)))) by ac_rfl)).ne
                  have hne' : rr ≠ mm := hne.symm
                  have m0 := HV.out.cell (i := 0) rfl
                  have m1 := HV.out.cell (i := 1) rfl
                  have m2 := HV.out.cell (i := 2) rfl
                  have g1 := HV.out.free (i := 1)
                  have lm := HV.out.lt
                  have r0 := HV.out.r.r.r.r.cell (i := 0) rfl
                  have r1 := HV.out.r.r.r.r.cell (i := 1) rfl
                  have r2 := HV.out.r.r.r.r.cell (i := 2) rfl
                  have f0 := HV.out.r.r.r.r.free (i := 0)
                  have f1 := HV.out.r.r.r.r.free (i := 1)
                  have f2 := HV.out.r.r.r.r.free (i := 2)
                  have lr := HV.out.r.r.r.r.lt
                  have b0 := HV.out.r.r.r.cell (i := 0) rfl
                  have b1 := HV.out.r.r.r.cell (i := 1) rfl
                  have b2 := HV.out.r.r.r.cell (i := 2) rfl
                  have lb := HV.out.r.r.r.lt
                  cases o
                  · by_cases hbg : 20000 < accB.length
                    · have HE := Lib.hid (show define P B long = .no 6 by rw [HD3.out, if_pos (by simpa [bodyO] using hbg)])
                      have hbg' : decide ((20000 : Int) < (accB.length : Int)) = true := by simp; omega
                      clear hbg
                      go_wp2
                      (try simp only [Exit.inBlock, Exit.then])
                      refine bodyPost_ret (v := .tuple #[.agg #[.slice none 0 0, .slice none 0 0, .bool false], .int .i64 6]) (by unfold results; go_simp) rfl ?_
                      exact DefPost.no HE.out ((((HV.out.r.r.r.r.set (i := 0)).set (i := 1)).set (i := 2)).r)
                    · have HE := Lib.hid (show define P B long = ⟨acc, accB, long, 0⟩ by rw [HD3.out, if_neg (by simpa [bodyO] using hbg)]; rfl)
                      have hbg' : ¬ (20000 : Int) < (accB.length : Int) := by omega
                      have HRR2 := Lib.hid (show Sat w (pts rr Z29 * (pts mm (.cells #[.slice ua acc.length uc, .slice va accB.length vc, .bool long] 29 (0, 0)) * (pts bb (.cells #[.int .i64 1, .int .u8 123, .string ByteArray.empty] 46 (0, 0)) * (rowT (.slice ua acc.length uc) acc * (rowT (.slice va accB.length vc) accB * own w))))) wr from HV.out.of_eq (by ac_rfl))
                      clear hbg
                      go_wp2
                      (try simp only [Exit.inBlock, Exit.then])
                      refine bodyPost_ret (v := .tuple #[.agg #[.slice ua acc.length uc, .slice va accB.length vc, .bool long], .int .i64 0]) (by unfold results; go_simp) rfl ?_
                      exact ⟨.slice ua acc.length uc, .slice va accB.length vc, by rw [HE.out], by rw [HE.out]; exact (((HRR2.out.set (i := 0)).set (i := 1)).set (i := 2)).r.r.r⟩
                  · go_wp2_with (at_builtin; refine wpList_append_sep rfl _ _ 22 rfl i0 _ 32 Try.underlying22 HI.out HZ0.out HZ1.out HZ2.out rfl rfl HV.out.rot.allocD ⟨wr.heap.size, 0, none⟩ 1 1 [.int .i64 1, .int .u8 123, .string ByteArray.empty] rfl rfl ?_ ?_ ?_ ?_ ?_)
                    · exact new_cells _ _ _
                    · simp [Value.oneCell']
                    · simp [maxLen]; omega
                    · omega
                    intro v' w1 h6
                    obtain ⟨xa, xc, rfl, -⟩ := h6.row_val
                    clear m0 m1 m2 g1 lm r0 r1 r2 f0 f1 f2 lr b0 b1 b2 lb
                    have m0 := h6.rot.cell (i := 0) rfl
                    have m1 := h6.rot.cell (i := 1) rfl
                    have m2 := h6.rot.cell (i := 2) rfl
                    have g1 := h6.rot.free (i := 1)
                    have lm := h6.rot.lt
                    have r0 := h6.r.r.r.r.cell (i := 0) rfl
                    have r1 := h6.r.r.r.r.cell (i := 1) rfl
                    have r2 := h6.r.r.r.r.cell (i := 2) rfl
                    have f0 := h6.r.r.r.r.free (i := 0)
                    have f1 := h6.r.r.r.r.free (i := 1)
                    have f2 := h6.r.r.r.r.free (i := 2)
                    have lr := h6.r.r.r.r.lt
                    have HS := Lib.hid (h6.rot.set (i := 1) (v := .slice xa (accB.length + 1) xc))
                    clear h6
                    by_cases hbg : 20000 < accB.length + 1
                    · have HE := Lib.hid (show define P B long = .no 6 by rw [HD3.out, if_pos (by simpa [bodyO] using hbg)])
                      have hbg' : (20000 : Int) < (accB.length : Int) + 1 := by omega
                      go_wp2
                      (try simp only [Exit.inBlock, Exit.then])
                      refine bodyPost_ret (v := .tuple #[.agg #[.slice none 0 0, .slice none 0 0, .bool false], .int .i64 6]) (by unfold results; go_simp) rfl ?_
                      exact DefPost.no HE.out ((((HS.out.r.r.r.r.set (i := 0)).set (i := 1)).set (i := 2)).r)
                    · have HE := Lib.hid (show define P B long = ⟨acc, accB ++ [brace], long, 0⟩ by rw [HD3.out, if_neg (by simpa [bodyO] using hbg)]; rfl)
                      have hbg' : ¬ (20000 : Int) < (accB.length : Int) + 1 := by omega
                      have hS2 := HS.out.rot.of_eq (show _ = pts rr Z29 * (pts mm (.cells #[.slice ua acc.length uc, .slice xa (accB.length + 1) xc, .bool long] 29 (0, 0)) * (pts bb (.cells #[.int .i64 1, .int .u8 123, .string ByteArray.empty] 46 (0, 0)) * (rowT (.slice ua acc.length uc) acc * (row (.slice xa (accB.length + 1) xc) (accB.length + 1) 46 3 (flat accB ++ brace.cells) * own w)))) by simp only [rowT]; ac_rfl)
                      have HRR2 := Lib.hid hS2
                      clear hbg hS2
                      go_wp2
                      (try simp only [Exit.inBlock, Exit.then])
                      refine bodyPost_ret (v := .tuple #[.agg #[.slice ua acc.length uc, .slice xa (accB.length + 1) xc, .bool long], .int .i64 0]) (by unfold results; go_simp) rfl ?_
                      refine ⟨.slice ua acc.length uc, .slice xa (accB.length + 1) xc, by rw [HE.out], ?_⟩
                      rw [HE.out]
                      exact (rowT_snoc (t := brace) (((((HRR2.out.set (i := 0)).set (i := 1)).set (i := 2)).r.r.r).rot) rfl rfl).rot
  · have HE := Lib.hid (define_6 (long := long) (show ¬ (P.length ≤ 20000 ∧ B.length ≤ 20000) by rw [NP.out, NB.out]; exact hbig))
    by_cases h3 : (20000 : Int) < (np : Int)
    · clear hbig
      go_enter Try.func13, Try.ntmps13
      go_wp2
      (try simp only [Exit.inBlock, Exit.then])
      refine bodyPost_ret (v := .tuple #[.agg #[.slice none 0 0, .slice none 0 0, .bool false], .int .i64 6]) (by unfold results; go_simp) rfl ?_
      exact DefPost.no HE.out (Sat.start w).allocD
    · have h4 : (20000 : Int) < (nb : Int) := by omega
      clear hbig
      go_enter Try.func13, Try.ntmps13
      go_wp2
      (try simp only [Exit.inBlock, Exit.then])
      refine bodyPost_ret (v := .tuple #[.agg #[.slice none 0 0, .slice none 0 0, .bool false], .int .i64 6]) (by unfold results; go_simp) rfl ?_
      exact DefPost.no HE.out (Sat.start w).allocD

end Go.Proofs.Ytlbebcioabfbgaa
