
/-
  The law LogsBack, walked. Conditions: those that each theorem names.
-/
import Derived.Test.YtpcdbeicpmjooaaDoorBackA
import Derived.Test.YtpcdbeicpmjooaaDoorCodK
import Derived.Test.YtpcdbeicpmjooaaDoorLogG
import Derived.Test.YtpcdbeicpmjooaaDoorSameT
import Derived.Test.YtpcdbeicpmjooaaDoorAnyC
import Derived.Test.YtpcdbeicpmjooaaDoorStep
namespace Go.Proofs.YtpcdbeicpmjooaaDoor
open Go.RowKit Go.Sp
variable {W w w' : World} {F F' : HProp}

set_option maxRecDepth 100000 in
theorem plainT_any (C : List Int) (hC : C.length = 256) (c : UInt8) (h : Sat W F w) : Calls Tryd.prog 5 #[.int .u8 c.toNat, codesV C] w fun e w' => e = .returned (Tok.val (charT (codeAt C c) c)) ∧ Sat W F w' := by
  have h0 := ((h.alloc (codesO C 22)).alloc (.cells #[.int .i64 0, .int .u8 0, .string ⟨#[]⟩] 26))
  have k0 := codes_cell h0.r hC c
  have l0 := h0.r.lt
  have hc := c.toNat_lt
  have i1 : (c.toNat : Int) < 256 := by omega
  clear h hC
  rw [show (w.alloc (codesO C 22)).heap.size = w.heap.size + 1 by simp] at h0
  have HK := Lib.hid k0
  have HL := Lib.hid l0
  have HZ := Lib.hid h0
  clear k0 l0 h0
  go_enter Tryd.func5, Tryd.ntmps5
  go_upto_region 1 with fail
  generalize (w.alloc (codesO C 22)).alloc (.cells #[.int .i64 0, .int .u8 0, .string ⟨#[]⟩] 26) = W2 at *
  have k0 := HK.out
  have l0 := HL.out
  have r0 := HZ.out.cell (i := 0) rfl
  have r1 := HZ.out.cell (i := 1) rfl
  have r2 := HZ.out.cell (i := 2) rfl
  have f0 := HZ.out.free (i := 0)
  have f1 := HZ.out.free (i := 1)
  have f2 := HZ.out.free (i := 2)
  have lz := HZ.out.lt
  generalize w.heap.size = bw at *
  go_wp2
  (try simp only [Exit.inBlock, Exit.then])
  refine bodyPost_ret (v := Tok.val (charT (codeAt C c) c)) (by unfold results; go_simp; all_goals (first | exact ⟨rfl, rfl, rfl⟩ | rfl)) rfl ⟨rfl, ?_⟩
  exact (((HZ.out.set (i := 0)).set (i := 1)).set (i := 2)).r.r



set_option maxRecDepth 1000000 in
set_option maxHeartbeats 16000000 in
theorem back_any (l : List UInt8) (hl : l.length ≤ 1000000000000000) : Calls Tryd.prog 3 #[(.string ⟨l.toArray⟩)] w fun e w' => e = .returned (.bool true) ∧ Sat w (own w) w' := by
  obtain ⟨i0, hi, hz0, hz1, hz2⟩ := info_parts3 info_tok
  have HI := Lib.hid hi
  have HZ0 := Lib.hid hz0
  have HZ1 := Lib.hid hz1
  have HZ2 := Lib.hid hz2
  clear hi hz0 hz1 hz2
  have hsz : (⟨l.toArray⟩ : ByteArray).size = l.length := by simp [ByteArray.size]
  have HGET := Lib.hid (fun (i : Nat) (h : i < (⟨l.toArray⟩ : ByteArray).size) => Lib.getElem_mk l i h)
  obtain ⟨n, hn⟩ : ∃ n, l.length = n := ⟨_, rfl⟩
  rw [hn] at hsz hl
  have HN := Lib.hid hn
  generalize (⟨l.toArray⟩ : ByteArray) = s at *
  have HP := Lib.hid (plain_any (Sat.start w))
  have hd : (Tryd.prog.info? 22).map (·.size) = some ((plainL.map (Value.int .i64)).toArray).size := by rw [size_codes]; simp [plainL_len]
  have HD := Lib.hid hd
  clear hn hd
  go_enter Tryd.func3, Tryd.ntmps3
  go_wp2_with fail
  refine Calls.mono HP.out ?_
  rintro e w1 ⟨rfl, hx⟩
  have ha := zero_one hx
  have HA := Lib.hid ha
  have HBK := Lib.hid ha.blk
  clear hx ha HP
  go_simp
  go_step
  go_step
  go_simp
  go_step
  refine (wpList_store_row (by rfl) 22 (.tmp 3) (.tmp 10) (by rfl) w1.heap.size (plainL.map (Value.int .i64)).toArray (by rfl) (by rfl) _ _ HBK.out ?_ ?_ ?_ ?_)
  · rw [size_codes]; simp [plainL_len]
  · simp [plainL_len]
  · exact one_codes plainL
  have HX0 := Lib.hid (Sat.setRowC (M := plainL) HA.out)
  clear HBK HA
  generalize (w1.alloc (.cells Tryd.zeroCells22 22)).setRow w1.heap.size (plainL.map (Value.int .i64)).toArray = W1 at *
  generalize w1.heap.size = b1 at *
  go_upto_block 0 with fail
  go_wp2_with fail
  go_loopw [4, 5] (fun s4 s5 wr => ∃ (k : Nat) (bs : List UInt8) (v : Value), k ≤ n ∧ s5 = .int .i64 k ∧ bs.length ≤ 20000 ∧ (∀ c ∈ bs, goodB c) ∧ s4 = v ∧ Sat w (rowT v (lettersT plainL bs) * (pts b1 (codesO plainL 22) * own w)) wr) (fun _ s5 _ => n - (intOf s5).toNat)
  case atStart => exact ⟨0, [], _, by omega, rfl, by simp, by simp, rfl, HX0.out.row_nil⟩
  case round =>
    obtain ⟨k, bs, v, hk, rfl, hb, hg, rfl, hx⟩ := hrel
    obtain ⟨a, cp, hv, -⟩ := (rowT_rd hx).capd
    obtain ⟨m, hm⟩ : ∃ m, bs.length = m := ⟨_, rfl⟩
    rw [show (lettersT plainL bs).length = bs.length by simp [lettersT], hm] at hv
    subst hv
    have HX := Lib.hid hx
    have HB := Lib.hid hb
    have HG := Lib.hid hg
    have HM := Lib.hid hm
    rw [hm] at hb
    clear hx hg hm
    by_cases hlt : k < n
    · have i1 : (k : Int) < (n : Int) := by omega
      by_cases hfull : m < 20000
      · have i2 : (m : Int) < 20000 := by omega
        have hkl : k < l.length := by rw [HN.out]; exact hlt
        have hget : s[k]'(by omega) = l[k] := by
          have := HGET.out k (by omega)
          rw [List.getElem?_eq_getElem hkl] at this
          exact (Option.some.inj this).symm
        obtain ⟨c, hc⟩ : ∃ c, l[k] = c := ⟨_, rfl⟩
        rw [hc] at hget
        have k0 := codes_cell HX.out.r plainL_len c
        have l0 := HX.out.r.lt
        have hc8 := c.toNat_lt
        clear hc hkl
        by_cases h1 : 32 < c.toNat
        · have j1 : (32 : Int) < (c.toNat : Int) := by omega
          by_cases h2 : c.toNat < 127
          · have j2 : (c.toNat : Int) < 127 := by omega
            by_cases h34 : codeAt plainL c = 11 ∨ codeAt plainL c = 12
            · have HGC := Lib.hid (show goodB c from ⟨h1, h2, h34⟩)
              have HPT := Lib.hid (fun (w' : World) (h : Sat w (rowT (.slice a m cp) (lettersT plainL bs) * (pts b1 (codesO plainL 22) * own w)) w') => plainT_any plainL plainL_len c h)
              have q12 : (codeAt plainL c == 11) = true ∨ ((codeAt plainL c == 11) = false ∧ (codeAt plainL c == 12) = true) := by
                rcases h34 with h | h
                · exact .inl (by simp [h])
                · exact .inr ⟨by simp [h], by simp [h]⟩
              clear h34 h1 h2
              obtain ⟨kc, hkc⟩ : ∃ kc, codeAt plainL c = kc := ⟨_, rfl⟩
              have HKC := Lib.hid hkc
              rw [hkc] at k0 q12 HPT
              clear hkc
              rcases q12 with q1 | ⟨q1, q2⟩
              all_goals
                go_upto_region 7 with fail
                refine wp_region_C (Sat w (pts b1 (codesO plainL 22) * own w)) (by kernel_rfl) ?_
                refine wpC_take (i := 0) (v := ?_) rfl (by kernel_rfl) (by kernel_rfl) (by kernel_rfl) (fun _ _ _ h => h) (by rfl) ?_ ?_
                rotate_left 1
                · intro w hw; go_simp; try with_reducible rfl
                refine wpC_take (i := 1) (v := ?_) rfl (by kernel_rfl) (by kernel_rfl) (by kernel_rfl) (fun _ _ _ h => h) (by rfl) ?_ ?_
                rotate_left 1
                · intro w hw; go_simp; try with_reducible rfl
                refine wpC_take (i := 2) (v := ?_) rfl (by kernel_rfl) (by kernel_rfl) (by kernel_rfl) (fun _ _ _ h => h) (by rfl) ?_ ?_
                rotate_left 1
                · intro w hw; go_simp; try with_reducible rfl
                refine wpC_take (i := 3) (v := ?_) rfl (by kernel_rfl) (by kernel_rfl) (by kernel_rfl) (fun _ _ _ h => h) (by rfl) ?_ ?_
                rotate_left 1
                · intro w hw; go_simp; try with_reducible rfl
                refine wpC_take (i := 4) (v := ?_) rfl (by kernel_rfl) (by kernel_rfl) (by kernel_rfl) (fun _ _ _ h => h) (by rfl) ?_ ?_
                rotate_left 1
                · intro w hw; refine exec_load_row 22 (.tmp 3) ?_ b1 ?_ 22 _ _ _ hw.blk Tryd.underlying22 (by rfl) HD.out; rfl; first | (go_simp; done) | rfl
                refine wpC_one (i := 5) rfl (by kernel_rfl) (HX.out.drew.r) (fun K hK => ?_)
                go_simp
                refine Calls.mono (HPT.out _ HX.out.drew) ?_
                rintro e w2 ⟨rfl, h2⟩
                have H2 := Lib.hid h2
                clear h2
                go_simp
                refine hK _ _ ?_
                clear hK K
                have H3 := Lib.hid ((H2.out.alloc (.cells #[.int .i64 kc, .int .u8 c.toNat, .string ⟨#[]⟩] 26)).row_whole 1 (size := 3) (by simp [maxLen]) rfl)
                refine wpC_one (i := 6) rfl (by kernel_rfl) (H2.out.r) (fun K hK => ?_)
                go_simp
                refine hK _ _ ?_
                clear hK K
                refine wpC_one (i := 7) rfl (by kernel_rfl) (H3.out.r.r) (fun K hK => ?_)
                refine step_append_rd rfl _ _ 24 rfl i0 _ 32 Tryd.underlying24 HI.out HZ0.out HZ1.out HZ2.out rfl (by omega) rfl (show Sat w (row (.slice a m cp) m 26 3 (flat (lettersT plainL bs)) * (pts b1 (codesO plainL 22) * own w)) _ from (H3.out.r.of_eq (by unfold rowT; rw [show (lettersT plainL bs).length = m by simp [lettersT, HM.out]]))) (.slice (some ⟨w2.heap.size, 0, none⟩) 1 1) 1 [.int .i64 kc, .int .u8 c.toNat, .string ⟨#[]⟩] rfl H3.out.rd (by simp [Value.oneCell']) (by simp [maxLen]; omega) (by omega) ?_
                intro v2 w3 h3 _
                have H4 := Lib.hid (rowT_snoc (acc := lettersT plainL bs) (t := charT kc c) h3 (by simp [lettersT, HM.out]) rfl)
                clear h3 H3
                go_simp
                refine hK _ _ ?_
                clear hK K
                refine wpC_take (i := 8) (v := ?_) rfl (by kernel_rfl) (by kernel_rfl) (by kernel_rfl) (fun _ _ _ h => h) (by rfl) ?_ ?_
                rotate_left 1
                · intro w hw; go_simp; try with_reducible rfl
                refine wpC_done (by kernel_rfl) (H4.out.r) ?_
                have H5 := Lib.hid (show Sat w (rowT v2 (lettersT plainL (bs ++ [c])) * (pts b1 (codesO plainL 22) * own w)) w3 from H4.out.of_eq (by simp [lettersT, HKC.out]))
                have HG2 := Lib.hid (show ∀ d ∈ bs ++ [c], goodB d from fun d hd => by
                  rcases List.mem_append.1 hd with h | h
                  · exact HG.out d h
                  · obtain rfl : d = c := by simpa using h
                    exact HGC.out)
                have HB2 := Lib.hid (show (bs ++ [c]).length ≤ 20000 by rw [List.length_append, HM.out]; simp; omega)
                clear k0 l0
                go_wp2
                go_roundw
                case rel => exact ⟨k + 1, bs ++ [c], _, by omega, by go_num, HB2.out, HG2.out, rfl, H5.out⟩
                case measure => simp [intOf]; omega
            · have q1 : (codeAt plainL c == 11) = false := by simp; omega
              have q2 : (codeAt plainL c == 12) = false := by simp; omega
              clear h34
              go_wp2
              go_roundw
              case rel => exact ⟨k + 1, bs, _, by omega, by go_num, HB.out, HG.out, rfl, HX.out⟩
              case measure => simp [intOf]; omega
          · have j2 : ¬ (c.toNat : Int) < 127 := by omega
            go_wp2
            go_roundw
            case rel => exact ⟨k + 1, bs, _, by omega, by go_num, HB.out, HG.out, rfl, HX.out⟩
            case measure => simp [intOf]; omega
        · have j1 : ¬ (32 : Int) < (c.toNat : Int) := by omega
          go_wp2
          go_roundw
          case rel => exact ⟨k + 1, bs, _, by omega, by go_num, HB.out, HG.out, rfl, HX.out⟩
          case measure => simp [intOf]; omega
      · have i2 : ¬ (m : Int) < 20000 := by omega
        have HS := Lib.hid HX.out
        have HGC := Lib.hid (good_cut bs HG.out (by have := HB.out; omega))
        have HGA := Lib.hid (good_all bs HG.out (by have := HB.out; omega))
        have HT1 := Lib.hid (tokens_few plainL plainL_len (.slice a m cp) (lettersT plainL bs) 1073741824 (by omega) (by unfold maxLen; omega) (fun w' h => rowT_rd h) (by simp [lettersT]; have := HB.out; have := HM.out; omega) (by rw [good_text bs HG.out]; have := HB.out; have := HM.out; omega) (fun t ht => by
          simp only [lettersT, List.mem_map] at ht
          obtain ⟨c, _, rfl⟩ := ht
          simp [charT]) HX.out)
        rw [HGC.out] at HT1
        have HSZ := Lib.hid (show (⟨bs.toArray⟩ : ByteArray).size = m by rw [← HM.out]; simp [ByteArray.size])
        go_upto_region 8 with fail
        go_step
        refine wpList_plain rfl (fun K hK => ?_)
        go_simp
        refine hK _ _ ?_
        clear hK K
        refine wpList_load_row rfl 22 (.tmp 3) rfl b1 rfl 22 _ _ _ HX.out.r.blk Tryd.underlying22 rfl HD.out ?_
        go_wp2_with fail
        refine Calls.mono HT1.out ?_
        rintro e w5 ⟨rfl, h5⟩
        have H5 := Lib.hid h5
        have HA := Lib.hid (all_any plainL plainL_len (-1) bs h5)
        rw [HGA.out] at HA
        clear h5 HT1
        go_upto_region 9 with fail
        go_step
        refine wpList_plain rfl (fun K hK => ?_)
        go_simp
        refine hK _ _ ?_
        clear hK K
        refine wpList_load_row rfl 22 (.tmp 3) rfl b1 rfl 22 _ _ _ H5.out.r.blk Tryd.underlying22 rfl HD.out ?_
        go_wp2_with fail
        refine Calls.mono HA.out ?_
        rintro e w6 ⟨u, rfl, h6⟩
        obtain ⟨ua, uc, rfl, -⟩ := (rowT_rd h6).capd
        have H6 := Lib.hid h6
        have HSM := Lib.hid (sameT_any (lettersT plainL bs) (lettersT plainL bs) _ _ w6 (rowT_rd h6) (rowT_rd h6.r))
        have hz := HSZ.out
        have hll : decide (lettersT plainL bs = lettersT plainL bs) = true := by simp
        clear h6 HA
        go_wp2_with (go_at_call 8; with_reducible refine Calls.mono (num_any _ _) ?_; rintro e w' ⟨rfl, rfl⟩)
        refine Calls.mono HSM.out ?_
        rintro e w7 ⟨rfl, q, rfl⟩
        have HK := Lib.hid (knows_any (H6.out.drewN (n := q)))
        clear HSM
        go_wp2_with fail
        refine Calls.mono HK.out ?_
        rintro e w8 ⟨rfl, h8⟩
        have H8 := Lib.hid h8.r.r.r
        clear h8
        go_wp2
        go_ret
        exact ⟨rfl, H8.out⟩
    · have i1 : ¬ (k : Int) < (n : Int) := by omega
      have HS := Lib.hid HX.out
      have HGC := Lib.hid (good_cut bs HG.out (by have := HB.out; omega))
      have HGA := Lib.hid (good_all bs HG.out (by have := HB.out; omega))
      have HT1 := Lib.hid (tokens_few plainL plainL_len (.slice a m cp) (lettersT plainL bs) 1073741824 (by omega) (by unfold maxLen; omega) (fun w' h => rowT_rd h) (by simp [lettersT]; have := HB.out; have := HM.out; omega) (by rw [good_text bs HG.out]; have := HB.out; have := HM.out; omega) (fun t ht => by
        simp only [lettersT, List.mem_map] at ht
        obtain ⟨c, _, rfl⟩ := ht
        simp [charT]) HX.out)
      rw [HGC.out] at HT1
      have HSZ := Lib.hid (show (⟨bs.toArray⟩ : ByteArray).size = m by rw [← HM.out]; simp [ByteArray.size])
      go_upto_region 8 with fail
      go_step
      refine wpList_plain rfl (fun K hK => ?_)
      go_simp
      refine hK _ _ ?_
      clear hK K
      refine wpList_load_row rfl 22 (.tmp 3) rfl b1 rfl 22 _ _ _ HX.out.r.blk Tryd.underlying22 rfl HD.out ?_
      go_wp2_with fail
      refine Calls.mono HT1.out ?_
      rintro e w5 ⟨rfl, h5⟩
      have H5 := Lib.hid h5
      have HA := Lib.hid (all_any plainL plainL_len (-1) bs h5)
      rw [HGA.out] at HA
      clear h5 HT1
      go_upto_region 9 with fail
      go_step
      refine wpList_plain rfl (fun K hK => ?_)
      go_simp
      refine hK _ _ ?_
      clear hK K
      refine wpList_load_row rfl 22 (.tmp 3) rfl b1 rfl 22 _ _ _ H5.out.r.blk Tryd.underlying22 rfl HD.out ?_
      go_wp2_with fail
      refine Calls.mono HA.out ?_
      rintro e w6 ⟨u, rfl, h6⟩
      obtain ⟨ua, uc, rfl, -⟩ := (rowT_rd h6).capd
      have H6 := Lib.hid h6
      have HSM := Lib.hid (sameT_any (lettersT plainL bs) (lettersT plainL bs) _ _ w6 (rowT_rd h6) (rowT_rd h6.r))
      have hz := HSZ.out
      have hll : decide (lettersT plainL bs = lettersT plainL bs) = true := by simp
      clear h6 HA
      go_wp2_with (go_at_call 8; with_reducible refine Calls.mono (num_any _ _) ?_; rintro e w' ⟨rfl, rfl⟩)
      refine Calls.mono HSM.out ?_
      rintro e w7 ⟨rfl, q, rfl⟩
      have HK := Lib.hid (knows_any (H6.out.drewN (n := q)))
      clear HSM
      go_wp2_with fail
      refine Calls.mono HK.out ?_
      rintro e w8 ⟨rfl, h8⟩
      have H8 := Lib.hid h8.r.r.r
      clear h8
      go_wp2
      go_ret
      exact ⟨rfl, H8.out⟩

end Go.Proofs.YtpcdbeicpmjooaaDoor
