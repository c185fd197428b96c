import Derived.Test.YticljfpippbkkaaMNA
import Derived.Deep.LoopGhost
import Derived.Lib.TrimByte
/-
  keyword, out of any source that leads to a list. Conditions: those that each theorem names.
-/
namespace Go.Proofs.Yticljfpippbkkaa
open Go.RowKit Go.Sp
variable {W w w' : World} {A : HProp}

/-- what is asked of the tokens that are left, where k letters have come -/
def keyX (wd : List UInt8) (k : Nat) (L : List Tok) : Option (List Tok) := if k = 0 then keyM wd L else keyGo (wd.drop k) L
theorem keyX_end {wd : List UInt8} (hw : wd ≠ []) (L : List Tok) : keyX wd wd.length L = some L := by
  unfold keyX
  rw [if_neg (by simpa using hw), List.drop_length]
  rfl
theorem keyX_nil {wd : List UInt8} {k : Nat} (hk : k < wd.length) : keyX wd k [] = none := by
  unfold keyX
  split
  · subst k
    unfold keyM
    rw [blanksM]
    cases wd with
    | nil => simp at hk
    | cons c cs => rfl
  · rw [List.drop_eq_getElem_cons hk]; rfl
theorem keyX_blank {wd : List UInt8} {x : Tok} {L : List Tok} (hb : blankB x = true) : keyX wd 0 (x :: L) = keyX wd 0 L := by
  unfold keyX keyM
  rw [if_pos rfl, if_pos rfl, blanksM, if_pos hb]
theorem keyX_cons {wd : List UInt8} {k : Nat} {x : Tok} {L : List Tok} (hk : k < wd.length) (hb : k = 0 → blankB x = false) :
    keyX wd k (x :: L) = if (x.cat = 11 ∨ x.cat = 12) ∧ (x.chr = wd[k] ∨ x.chr = wd[k] - 97 + 65) then keyX wd (k + 1) L else none := by
  have e : keyX wd k (x :: L) = keyGo (wd.drop k) (x :: L) := by
    unfold keyX
    split
    · rename_i h
      subst h
      unfold keyM
      rw [blanksM, if_neg (by rw [hb rfl]; simp), List.drop_zero]
    · rfl
  rw [e, List.drop_eq_getElem_cons hk, keyGo]
  simp only [keyX, Nat.add_one_ne_zero, if_false]

theorem u8_sub97 (c : UInt8) : IntKind.u8.wrap ((c.toNat : Int) - 97) = ((c - 97).toNat : Int) := by
  have := c.toNat_lt
  rw [UInt8.toNat_sub]
  unfold IntKind.wrap
  simp [IntKind.bits, IntKind.signed]
  omega
theorem u8_add65 (c : UInt8) : IntKind.u8.wrap ((c.toNat : Int) + 65) = ((c + 65).toNat : Int) := by
  have := c.toNat_lt
  rw [UInt8.toNat_add]
  unfold IntKind.wrap
  simp [IntKind.bits, IntKind.signed]
theorem u8_beq (a b : UInt8) : ((a.toNat : Int) == (b.toNat : Int)) = (a == b) := by
  rw [Bool.eq_iff_iff, beq_iff_eq, beq_iff_eq]
  constructor
  · intro h; exact UInt8.toNat_inj.1 (by omega)
  · intro h; rw [h]

theorem rowT_nil {b : Nat} {L : List Tok} (h : LsAt W A b L w) : LsAt W (rowT (.slice none 0 0) [] * A) b L w := by
  obtain ⟨Y, h1, back⟩ := h.focus
  exact back _ _ ((Sat.row_nil h1).of_eq (by unfold rowT; ac_rfl))

set_option maxRecDepth 100000 in
set_option maxHeartbeats 4000000 in
theorem keyword_any {t : TypeId} {v : Value} {b : Nat} {L : List Tok} {wd : List UInt8} (hw : wd ≠ []) (hwl : wd.length ≤ 1000) (hs : SrcOk W A t v b) (hl : L.length ≤ 2000000) (h : LsAt W A b L w) :
    Calls Try.prog 32 #[.iface t v, (.string ⟨wd.toArray⟩)] w fun e w' => e = .returned (.bool (keyM wd L).isSome) ∧ LsAt W A b ((keyM wd L).getD L) w' := by
  have HS := Lib.hid hs
  have H := Lib.hid (rowT_nil h)
  have hsz : (⟨wd.toArray⟩ : ByteArray).size = wd.length := by simp [ByteArray.size]
  have HGET := Lib.hid (fun (i : Nat) (h : i < (⟨wd.toArray⟩ : ByteArray).size) => Lib.getElem_mk wd i h)
  obtain ⟨n, hn⟩ : ∃ n, wd.length = n := ⟨_, rfl⟩
  rw [hn] at hsz hwl
  have HN := Lib.hid hn
  have HW := Lib.hid hw
  obtain ⟨r, hr⟩ : ∃ r, keyM wd L = r := ⟨_, rfl⟩
  rw [hr]
  have HR := Lib.hid hr
  have HL := Lib.hid hl
  generalize (⟨wd.toArray⟩ : ByteArray) = s at *
  obtain ⟨i0, hi, hz0, hz1, hz2⟩ := info_parts3 info_tok
  have HI := Lib.hid hi
  have HZ0 := Lib.hid hz0
  have HZ1 := Lib.hid hz1
  have HZ2 := Lib.hid hz2
  clear h hn hs hw hr hl hi hz0 hz1 hz2
  go_enter Try.func32, Try.ntmps32
  go_upto_block 0 with fail
  go_cut [6, 7] from 8 to 63 (fun s6 s7 wx => ∃ (T : List Tok) (k : Nat) (L' : List Tok), T ++ L' = L ∧ s7 = .int .i64 k ∧ LsAt W (rowT s6 T * A) b L' wx ∧ ((k = n ∧ r = some L') ∨ (k < n ∧ r = none)))
  case first =>
    go_wp2_with fail
    go_loopg [6, 7] (L.length + 1) (fun gg s6 s7 wx => ∃ (T : List Tok) (k : Nat) (L' : List Tok), T ++ L' = L ∧ k ≤ n ∧ gg = L'.length + 1 ∧ s7 = .int .i64 k ∧ keyX wd k L' = r ∧ LsAt W (rowT s6 T * A) b L' wx)
    case atStart => exact ⟨[], 0, L, rfl, Nat.zero_le _, rfl, rfl, HR.out, H.out⟩
    case round =>
      obtain ⟨T, k, L', hT, hk, rfl, rfl, hX, hx⟩ := hrel
      have HTT := Lib.hid hT
      have HK := Lib.hid hX
      have HX := Lib.hid hx
      have hTL : T.length + L'.length ≤ 2000000 := by
        have := congrArg List.length HTT.out
        rw [List.length_append] at this
        have := HL.out
        omega
      clear hT hX hx H
      by_cases hlt : k < n
      · have i1 : (k : Int) < (n : Int) := by omega
        have m1 := (HS.out _ HX.out.sat.r).1
        have HN1 := Lib.hid (lsnext_any HX.out)
        go_wp2_with fail
        with_reducible refine Calls.mono HN1.out ?_
        rintro e w2 ⟨rfl, h2⟩
        clear m1 HN1 HX
        cases L' with
        | nil =>
          have H2 := Lib.hid (h2.ext ((Ext.refl _).alloc (o := tok0.box)))
          clear h2
          go_wp2
          go_meet
          refine ⟨T, k, [], HTT.out, rfl, H2.out, .inr ⟨hlt, ?_⟩⟩
          rw [← HK.out, keyX_nil (by rw [HN.out]; exact hlt)]
        | cons x L' =>
          simp only [List.headD_cons, List.isEmpty_cons, Bool.not_false, List.tail_cons, List.length_cons] at *
          obtain ⟨Y, h3, back⟩ := h2.focus
          have HBK := Lib.hid back
          have h4 := (h3.alloc x.box).of_eq (show _ = rowT u6 T * (pts w2.heap.size x.box * (A * Y)) by ac_rfl)
          obtain ⟨sa, sc, hu⟩ := (rowT_rd h4).val
          subst hu
          have HS4 := Lib.hid h4
          obtain ⟨tn, htn⟩ : ∃ tn, T.length = tn := ⟨_, rfl⟩
          rw [htn] at HS4 hTL
          have HTN := Lib.hid htn
          clear h2 h3 h4 back htn
          rw [HTN.out]
          go_wp2_with (at_builtin; refine wpList_append_sep rfl _ _ 22 rfl i0 _ 32 Try.underlying22 HI.out HZ0.out HZ1.out HZ2.out rfl rfl HS4.out.allocD ⟨w2.heap.size + 1, 0, none⟩ 1 1 x.cells rfl rfl ?_ ?_ ?_ ?_ ?_)
          · exact new_cells1 _ _ _ _
          · simp [Value.oneCell', Tok.cells]
          · have := HTN.out; simp [maxLen]; omega
          · have := HTN.out; omega
          intro v' w4 h6
          have h7 := rowT_snoc (acc := T) (t := x) h6 (by rw [HTN.out]) rfl
          have h8 := HBK.out (rowT v' (T ++ [x]) * (pts w2.heap.size x.box * A)) w4 (h7.of_eq (by ac_rfl))
          have H8 := Lib.hid h8
          have c0 := h7.r.cell (i := 0) rfl
          have c1 := h7.r.cell (i := 1) rfl
          have c2 := h7.r.cell (i := 2) rfl
          have lx := h7.r.lt
          clear h6 h7 h8 HS4 HBK
          by_cases hkb : k = 0 ∧ blankB x = true
          · obtain ⟨rfl, hb⟩ := hkb
            have HB := Lib.hid hb
            clear hb
            go_wp2_with fail
            with_reducible refine Calls.mono (blank_any x) ?_
            rintro e w5 ⟨rfl, hex⟩
            rw [HB.out]
            have H5 := Lib.hid (H8.out.ext hex)
            clear hex c0 c1 c2 lx H8
            go_wp2
            go_roundg (L'.length + 1)
            case measure => omega
            case rel => exact ⟨T ++ [x], 0, L', by rw [← HTT.out]; simp, Nat.zero_le _, rfl, by go_num, by rw [← HK.out, keyX_blank HB.out], H5.out.of_eq (show _ = pts w2.heap.size x.box * (rowT v' (T ++ [x]) * A) by ac_rfl) |>.less⟩
          · have HKC := Lib.hid (keyX_cons (x := x) (L := L') (show k < wd.length by rw [HN.out]; exact hlt) (fun h0 => by
              cases hbb : blankB x with
              | false => rfl
              | true => exact (hkb ⟨h0, hbb⟩).elim))
            have hget : s[k]'(by omega) = wd[k]'(by rw [HN.out]; exact hlt) := by
              have := HGET.out k (by omega)
              rw [List.getElem?_eq_getElem (by rw [HN.out]; exact hlt)] at this
              exact (Option.some.inj this).symm
            obtain ⟨c, hc⟩ : ∃ c, wd[k]'(by rw [HN.out]; exact hlt) = c := ⟨_, rfl⟩
            rw [hc] at hget HKC
            rw [HK.out] at HKC
            have HKB := Lib.hid (show k = 0 → blankB x = false from fun h0 => by
              cases hbb : blankB x with
              | false => rfl
              | true => exact (hkb ⟨h0, hbb⟩).elim)
            clear hkb hc
            by_cases k0 : k = 0
            · subst k0
              go_wp2_with fail
              with_reducible refine Calls.mono (blank_any x) ?_
              rintro e w5 ⟨rfl, hex⟩
              have hb : blankB x = false := by
                first
                  | exact HKB.out rfl
                  | exact HKB.out trivial
              rw [hb]
              have H5 := Lib.hid (H8.out.ext hex)
              have d0 := hex.cell c0
              have d1 := hex.cell c1
              have d2 := hex.cell c2
              clear hex c0 c1 c2 lx H8
              go_upto_region 9 with fail
              obtain ⟨W9, hW9⟩ : ∃ W9, w5.drew = W9 := ⟨_, rfl⟩
              have e0 := (show w5.drew.cell? ⟨w2.heap.size, 0, none⟩ = _ from d0)
              have e1 := (show w5.drew.cell? ⟨w2.heap.size, 1, none⟩ = _ from d1)
              rw [hW9] at e0 e1
              have h9 := (H5.out.of_eq (show _ = pts w2.heap.size x.box * (rowT v' (T ++ [x]) * A) by ac_rfl)).less.drew
              rw [hW9] at h9
              have hTX : (T ++ [x]) ++ L' = L := by rw [← HTT.out]; simp
              generalize T ++ [x] = TX at h9 hTX
              have H9 := Lib.hid h9
              have HT9 := Lib.hid hTX
              clear d0 d1 d2 H5 h9 hTX
              have HKD := HKC.out
              clear HKC
              obtain ⟨xcat, xchr, xname⟩ := x
              simp only at e0 e1 HKD
              have s1 := u8_sub97 c
              have s2 := u8_add65 (c - 97)
              obtain ⟨c2, hc2⟩ : ∃ c2, c - 97 = c2 := ⟨_, rfl⟩
              rw [hc2] at s1 s2 HKD
              obtain ⟨c3, hc3⟩ : ∃ c3, c2 + 65 = c3 := ⟨_, rfl⟩
              rw [hc3] at s2 HKD
              clear hc2 hc3
              have q1 := u8_beq xchr c
              have q2 := u8_beq xchr c3
              by_cases hcat : xcat = 11 ∨ xcat = 12
              · by_cases h1 : xchr = c
                · subst h1
                  rw [if_pos ⟨hcat, .inl rfl⟩] at HKD
                  have HKC := Lib.hid HKD
                  clear HKD
                  rcases hcat with rfl | rfl
                  · skip
                    refine wp_region_tail (fun w' => w' = W9) 25 (by kernel_rfl) (by kernel_rfl) hW9 ?_
                    clear hW9
                    simp only [List.take_succ_cons, List.take_zero, List.drop_succ_cons, List.drop_zero]
                    iterate 25
                      with_reducible refine wpQuiet_step ?_
                      intro K hK
                      go_simp
                      first
                        | (with_reducible refine hK _ ?_
                           clear hK K)
                        | (rw [if_neg (by intro h; cases h)]
                           with_reducible refine hK _ ?_
                           clear hK K)
                        | (refine Exists.intro _ ⟨fun w9 hw9 => ?_, ?_⟩
                           rotate_left 1
                           with_reducible refine hK _ ?_
                           clear hK K
                           rotate_left 1
                           · subst hw9; go_simp; try with_reducible rfl)
                    refine wpQuiet_nil ?_
                    rintro w17 rfl
                    clear e0 e1
                    go_wp2
                    go_roundg (L'.length + 1)
                    case measure => omega
                    case rel => exact ⟨TX, 0 + 1, L', HT9.out, by omega, rfl, by go_num, HKC.out.symm, H9.out⟩
                  · skip
                    refine wp_region_tail (fun w' => w' = W9) 25 (by kernel_rfl) (by kernel_rfl) hW9 ?_
                    clear hW9
                    simp only [List.take_succ_cons, List.take_zero, List.drop_succ_cons, List.drop_zero]
                    iterate 25
                      with_reducible refine wpQuiet_step ?_
                      intro K hK
                      go_simp
                      first
                        | (with_reducible refine hK _ ?_
                           clear hK K)
                        | (rw [if_neg (by intro h; cases h)]
                           with_reducible refine hK _ ?_
                           clear hK K)
                        | (refine Exists.intro _ ⟨fun w9 hw9 => ?_, ?_⟩
                           rotate_left 1
                           with_reducible refine hK _ ?_
                           clear hK K
                           rotate_left 1
                           · subst hw9; go_simp; try with_reducible rfl)
                    refine wpQuiet_nil ?_
                    rintro w17 rfl
                    clear e0 e1
                    go_wp2
                    go_roundg (L'.length + 1)
                    case measure => omega
                    case rel => exact ⟨TX, 0 + 1, L', HT9.out, by omega, rfl, by go_num, HKC.out.symm, H9.out⟩
                · rw [show (xchr == c) = false by rw [beq_eq_false_iff_ne]; exact h1] at q1
                  have n1 : ¬ (xchr.toNat : Int) = (c.toNat : Int) := fun h => h1 (UInt8.toNat_inj.1 (by omega))
                  have b1 : ((xchr.toNat : Int) != (c.toNat : Int)) = true := by rw [bne_iff_ne]; exact n1
                  by_cases h2 : xchr = c3
                  · subst h2
                    rw [if_pos ⟨hcat, .inr rfl⟩] at HKD
                    have HKC := Lib.hid HKD
                    clear HKD
                    rcases hcat with rfl | rfl
                    · skip
                      refine wp_region_tail (fun w' => w' = W9) 25 (by kernel_rfl) (by kernel_rfl) hW9 ?_
                      clear hW9
                      simp only [List.take_succ_cons, List.take_zero, List.drop_succ_cons, List.drop_zero]
                      iterate 25
                        with_reducible refine wpQuiet_step ?_
                        intro K hK
                        go_simp
                        first
                          | (with_reducible refine hK _ ?_
                             clear hK K)
                          | (rw [if_neg (by intro h; cases h)]
                             with_reducible refine hK _ ?_
                             clear hK K)
                          | (refine Exists.intro _ ⟨fun w9 hw9 => ?_, ?_⟩
                             rotate_left 1
                             with_reducible refine hK _ ?_
                             clear hK K
                             rotate_left 1
                             · subst hw9; go_simp; try with_reducible rfl)
                      refine wpQuiet_nil ?_
                      rintro w17 rfl
                      clear e0 e1
                      go_wp2
                      go_roundg (L'.length + 1)
                      case measure => omega
                      case rel => exact ⟨TX, 0 + 1, L', HT9.out, by omega, rfl, by go_num, HKC.out.symm, H9.out⟩
                    · skip
                      refine wp_region_tail (fun w' => w' = W9) 25 (by kernel_rfl) (by kernel_rfl) hW9 ?_
                      clear hW9
                      simp only [List.take_succ_cons, List.take_zero, List.drop_succ_cons, List.drop_zero]
                      iterate 25
                        with_reducible refine wpQuiet_step ?_
                        intro K hK
                        go_simp
                        first
                          | (with_reducible refine hK _ ?_
                             clear hK K)
                          | (rw [if_neg (by intro h; cases h)]
                             with_reducible refine hK _ ?_
                             clear hK K)
                          | (refine Exists.intro _ ⟨fun w9 hw9 => ?_, ?_⟩
                             rotate_left 1
                             with_reducible refine hK _ ?_
                             clear hK K
                             rotate_left 1
                             · subst hw9; go_simp; try with_reducible rfl)
                      refine wpQuiet_nil ?_
                      rintro w17 rfl
                      clear e0 e1
                      go_wp2
                      go_roundg (L'.length + 1)
                      case measure => omega
                      case rel => exact ⟨TX, 0 + 1, L', HT9.out, by omega, rfl, by go_num, HKC.out.symm, H9.out⟩
                  · rw [show (xchr == c3) = false by rw [beq_eq_false_iff_ne]; exact h2] at q2
                    have n2 : ¬ (xchr.toNat : Int) = (c3.toNat : Int) := fun h => h2 (UInt8.toNat_inj.1 (by omega))
                    have b2 : ((xchr.toNat : Int) != (c3.toNat : Int)) = true := by rw [bne_iff_ne]; exact n2
                    rw [if_neg (fun h => h.2.elim h1 h2)] at HKD
                    have HKC := Lib.hid HKD
                    clear HKD
                    rcases hcat with rfl | rfl
                    · skip
                      refine wp_region_tail (fun w' => w' = W9) 25 (by kernel_rfl) (by kernel_rfl) hW9 ?_
                      clear hW9
                      simp only [List.take_succ_cons, List.take_zero, List.drop_succ_cons, List.drop_zero]
                      iterate 25
                        with_reducible refine wpQuiet_step ?_
                        intro K hK
                        go_simp
                        first
                          | (with_reducible refine hK _ ?_
                             clear hK K)
                          | (rw [if_neg (by intro h; cases h)]
                             with_reducible refine hK _ ?_
                             clear hK K)
                          | (refine Exists.intro _ ⟨fun w9 hw9 => ?_, ?_⟩
                             rotate_left 1
                             with_reducible refine hK _ ?_
                             clear hK K
                             rotate_left 1
                             · subst hw9; go_simp; try with_reducible rfl)
                      refine wpQuiet_nil ?_
                      rintro w17 rfl
                      clear e0 e1
                      go_wp2
                      go_meet
                      exact ⟨TX, 0, L', HT9.out, by go_num, H9.out, .inr ⟨by omega, HKC.out⟩⟩
                    · skip
                      refine wp_region_tail (fun w' => w' = W9) 25 (by kernel_rfl) (by kernel_rfl) hW9 ?_
                      clear hW9
                      simp only [List.take_succ_cons, List.take_zero, List.drop_succ_cons, List.drop_zero]
                      iterate 25
                        with_reducible refine wpQuiet_step ?_
                        intro K hK
                        go_simp
                        first
                          | (with_reducible refine hK _ ?_
                             clear hK K)
                          | (rw [if_neg (by intro h; cases h)]
                             with_reducible refine hK _ ?_
                             clear hK K)
                          | (refine Exists.intro _ ⟨fun w9 hw9 => ?_, ?_⟩
                             rotate_left 1
                             with_reducible refine hK _ ?_
                             clear hK K
                             rotate_left 1
                             · subst hw9; go_simp; try with_reducible rfl)
                      refine wpQuiet_nil ?_
                      rintro w17 rfl
                      clear e0 e1
                      go_wp2
                      go_meet
                      exact ⟨TX, 0, L', HT9.out, by go_num, H9.out, .inr ⟨by omega, HKC.out⟩⟩
              · rw [if_neg (fun h => hcat h.1)] at HKD
                have HKC := Lib.hid HKD
                clear HKD
                have q3 : (xcat == 11) = false := by rw [beq_eq_false_iff_ne]; exact fun h => hcat (.inl h)
                have q4 : (xcat == 12) = false := by rw [beq_eq_false_iff_ne]; exact fun h => hcat (.inr h)
                have n3 : ¬ xcat = 11 := fun h => hcat (.inl h)
                have n4 : ¬ xcat = 12 := fun h => hcat (.inr h)
                have b3 : (xcat != 11) = true := by rw [bne_iff_ne]; exact n3
                have b4 : (xcat != 12) = true := by rw [bne_iff_ne]; exact n4
                refine wp_region_tail (fun w' => w' = W9) 25 (by kernel_rfl) (by kernel_rfl) hW9 ?_
                clear hW9
                simp only [List.take_succ_cons, List.take_zero, List.drop_succ_cons, List.drop_zero]
                iterate 25
                  with_reducible refine wpQuiet_step ?_
                  intro K hK
                  go_simp
                  first
                    | (with_reducible refine hK _ ?_
                       clear hK K)
                    | (rw [if_neg (by intro h; cases h)]
                       with_reducible refine hK _ ?_
                       clear hK K)
                    | (refine Exists.intro _ ⟨fun w9 hw9 => ?_, ?_⟩
                       rotate_left 1
                       with_reducible refine hK _ ?_
                       clear hK K
                       rotate_left 1
                       · subst hw9; go_simp; try with_reducible rfl)
                refine wpQuiet_nil ?_
                rintro w17 rfl
                clear e0 e1
                go_wp2
                go_meet
                exact ⟨TX, 0, L', HT9.out, by go_num, H9.out, .inr ⟨by omega, HKC.out⟩⟩
            · have k1 : ((k : Int) == 0) = false := by rw [beq_eq_false_iff_ne]; omega
              have d0 := c0
              have d1 := c1
              have d2 := c2
              have H5 := Lib.hid H8.out
              clear c0 c1 c2 H8
              go_upto_region 9 with fail
              obtain ⟨W9, hW9⟩ : ∃ W9, w4.drew = W9 := ⟨_, rfl⟩
              have e0 := (show w4.drew.cell? ⟨w2.heap.size, 0, none⟩ = _ from d0)
              have e1 := (show w4.drew.cell? ⟨w2.heap.size, 1, none⟩ = _ from d1)
              rw [hW9] at e0 e1
              have h9 := (H5.out.of_eq (show _ = pts w2.heap.size x.box * (rowT v' (T ++ [x]) * A) by ac_rfl)).less.drew
              rw [hW9] at h9
              have hTX : (T ++ [x]) ++ L' = L := by rw [← HTT.out]; simp
              generalize T ++ [x] = TX at h9 hTX
              have H9 := Lib.hid h9
              have HT9 := Lib.hid hTX
              clear d0 d1 d2 H5 h9 hTX
              have HKD := HKC.out
              clear HKC
              obtain ⟨xcat, xchr, xname⟩ := x
              simp only at e0 e1 HKD
              have s1 := u8_sub97 c
              have s2 := u8_add65 (c - 97)
              obtain ⟨c2, hc2⟩ : ∃ c2, c - 97 = c2 := ⟨_, rfl⟩
              rw [hc2] at s1 s2 HKD
              obtain ⟨c3, hc3⟩ : ∃ c3, c2 + 65 = c3 := ⟨_, rfl⟩
              rw [hc3] at s2 HKD
              clear hc2 hc3
              have q1 := u8_beq xchr c
              have q2 := u8_beq xchr c3
              by_cases hcat : xcat = 11 ∨ xcat = 12
              · by_cases h1 : xchr = c
                · subst h1
                  rw [if_pos ⟨hcat, .inl rfl⟩] at HKD
                  have HKC := Lib.hid HKD
                  clear HKD
                  rcases hcat with rfl | rfl
                  · skip
                    refine wp_region_tail (fun w' => w' = W9) 25 (by kernel_rfl) (by kernel_rfl) hW9 ?_
                    clear hW9
                    simp only [List.take_succ_cons, List.take_zero, List.drop_succ_cons, List.drop_zero]
                    iterate 25
                      with_reducible refine wpQuiet_step ?_
                      intro K hK
                      go_simp
                      first
                        | (with_reducible refine hK _ ?_
                           clear hK K)
                        | (rw [if_neg (by intro h; cases h)]
                           with_reducible refine hK _ ?_
                           clear hK K)
                        | (refine Exists.intro _ ⟨fun w9 hw9 => ?_, ?_⟩
                           rotate_left 1
                           with_reducible refine hK _ ?_
                           clear hK K
                           rotate_left 1
                           · subst hw9; go_simp; try with_reducible rfl)
                    refine wpQuiet_nil ?_
                    rintro w17 rfl
                    clear e0 e1
                    go_wp2
                    go_roundg (L'.length + 1)
                    case measure => omega
                    case rel => exact ⟨TX, k + 1, L', HT9.out, by omega, rfl, by go_num, HKC.out.symm, H9.out⟩
                  · skip
                    refine wp_region_tail (fun w' => w' = W9) 25 (by kernel_rfl) (by kernel_rfl) hW9 ?_
                    clear hW9
                    simp only [List.take_succ_cons, List.take_zero, List.drop_succ_cons, List.drop_zero]
                    iterate 25
                      with_reducible refine wpQuiet_step ?_
                      intro K hK
                      go_simp
                      first
                        | (with_reducible refine hK _ ?_
                           clear hK K)
                        | (rw [if_neg (by intro h; cases h)]
                           with_reducible refine hK _ ?_
                           clear hK K)
                        | (refine Exists.intro _ ⟨fun w9 hw9 => ?_, ?_⟩
                           rotate_left 1
                           with_reducible refine hK _ ?_
                           clear hK K
                           rotate_left 1
                           · subst hw9; go_simp; try with_reducible rfl)
                    refine wpQuiet_nil ?_
                    rintro w17 rfl
                    clear e0 e1
                    go_wp2
                    go_roundg (L'.length + 1)
                    case measure => omega
                    case rel => exact ⟨TX, k + 1, L', HT9.out, by omega, rfl, by go_num, HKC.out.symm, H9.out⟩
                · rw [show (xchr == c) = false by rw [beq_eq_false_iff_ne]; exact h1] at q1
                  have n1 : ¬ (xchr.toNat : Int) = (c.toNat : Int) := fun h => h1 (UInt8.toNat_inj.1 (by omega))
                  have b1 : ((xchr.toNat : Int) != (c.toNat : Int)) = true := by rw [bne_iff_ne]; exact n1
                  by_cases h2 : xchr = c3
                  · subst h2
                    rw [if_pos ⟨hcat, .inr rfl⟩] at HKD
                    have HKC := Lib.hid HKD
                    clear HKD
                    rcases hcat with rfl | rfl
                    · skip
                      refine wp_region_tail (fun w' => w' = W9) 25 (by kernel_rfl) (by kernel_rfl) hW9 ?_
                      clear hW9
                      simp only [List.take_succ_cons, List.take_zero, List.drop_succ_cons, List.drop_zero]
                      iterate 25
                        with_reducible refine wpQuiet_step ?_
                        intro K hK
                        go_simp
                        first
                          | (with_reducible refine hK _ ?_
                             clear hK K)
                          | (rw [if_neg (by intro h; cases h)]
                             with_reducible refine hK _ ?_
                             clear hK K)
                          | (refine Exists.intro _ ⟨fun w9 hw9 => ?_, ?_⟩
                             rotate_left 1
                             with_reducible refine hK _ ?_
                             clear hK K
                             rotate_left 1
                             · subst hw9; go_simp; try with_reducible rfl)
                      refine wpQuiet_nil ?_
                      rintro w17 rfl
                      clear e0 e1
                      go_wp2
                      go_roundg (L'.length + 1)
                      case measure => omega
                      case rel => exact ⟨TX, k + 1, L', HT9.out, by omega, rfl, by go_num, HKC.out.symm, H9.out⟩
                    · skip
                      refine wp_region_tail (fun w' => w' = W9) 25 (by kernel_rfl) (by kernel_rfl) hW9 ?_
                      clear hW9
                      simp only [List.take_succ_cons, List.take_zero, List.drop_succ_cons, List.drop_zero]
                      iterate 25
                        with_reducible refine wpQuiet_step ?_
                        intro K hK
                        go_simp
                        first
                          | (with_reducible refine hK _ ?_
                             clear hK K)
                          | (rw [if_neg (by intro h; cases h)]
                             with_reducible refine hK _ ?_
                             clear hK K)
                          | (refine Exists.intro _ ⟨fun w9 hw9 => ?_, ?_⟩
                             rotate_left 1
                             with_reducible refine hK _ ?_
                             clear hK K
                             rotate_left 1
                             · subst hw9; go_simp; try with_reducible rfl)
                      refine wpQuiet_nil ?_
                      rintro w17 rfl
                      clear e0 e1
                      go_wp2
                      go_roundg (L'.length + 1)
                      case measure => omega
                      case rel => exact ⟨TX, k + 1, L', HT9.out, by omega, rfl, by go_num, HKC.out.symm, H9.out⟩
                  · rw [show (xchr == c3) = false by rw [beq_eq_false_iff_ne]; exact h2] at q2
                    have n2 : ¬ (xchr.toNat : Int) = (c3.toNat : Int) := fun h => h2 (UInt8.toNat_inj.1 (by omega))
                    have b2 : ((xchr.toNat : Int) != (c3.toNat : Int)) = true := by rw [bne_iff_ne]; exact n2
                    rw [if_neg (fun h => h.2.elim h1 h2)] at HKD
                    have HKC := Lib.hid HKD
                    clear HKD
                    rcases hcat with rfl | rfl
                    · skip
                      refine wp_region_tail (fun w' => w' = W9) 25 (by kernel_rfl) (by kernel_rfl) hW9 ?_
                      clear hW9
                      simp only [List.take_succ_cons, List.take_zero, List.drop_succ_cons, List.drop_zero]
                      iterate 25
                        with_reducible refine wpQuiet_step ?_
                        intro K hK
                        go_simp
                        first
                          | (with_reducible refine hK _ ?_
                             clear hK K)
                          | (rw [if_neg (by intro h; cases h)]
                             with_reducible refine hK _ ?_
                             clear hK K)
                          | (refine Exists.intro _ ⟨fun w9 hw9 => ?_, ?_⟩
                             rotate_left 1
                             with_reducible refine hK _ ?_
                             clear hK K
                             rotate_left 1
                             · subst hw9; go_simp; try with_reducible rfl)
                      refine wpQuiet_nil ?_
                      rintro w17 rfl
                      clear e0 e1
                      go_wp2
                      go_meet
                      exact ⟨TX, k, L', HT9.out, by go_num, H9.out, .inr ⟨by omega, HKC.out⟩⟩
                    · skip
                      refine wp_region_tail (fun w' => w' = W9) 25 (by kernel_rfl) (by kernel_rfl) hW9 ?_
                      clear hW9
                      simp only [List.take_succ_cons, List.take_zero, List.drop_succ_cons, List.drop_zero]
                      iterate 25
                        with_reducible refine wpQuiet_step ?_
                        intro K hK
                        go_simp
                        first
                          | (with_reducible refine hK _ ?_
                             clear hK K)
                          | (rw [if_neg (by intro h; cases h)]
                             with_reducible refine hK _ ?_
                             clear hK K)
                          | (refine Exists.intro _ ⟨fun w9 hw9 => ?_, ?_⟩
                             rotate_left 1
                             with_reducible refine hK _ ?_
                             clear hK K
                             rotate_left 1
                             · subst hw9; go_simp; try with_reducible rfl)
                      refine wpQuiet_nil ?_
                      rintro w17 rfl
                      clear e0 e1
                      go_wp2
                      go_meet
                      exact ⟨TX, k, L', HT9.out, by go_num, H9.out, .inr ⟨by omega, HKC.out⟩⟩
              · rw [if_neg (fun h => hcat h.1)] at HKD
                have HKC := Lib.hid HKD
                clear HKD
                have q3 : (xcat == 11) = false := by rw [beq_eq_false_iff_ne]; exact fun h => hcat (.inl h)
                have q4 : (xcat == 12) = false := by rw [beq_eq_false_iff_ne]; exact fun h => hcat (.inr h)
                have n3 : ¬ xcat = 11 := fun h => hcat (.inl h)
                have n4 : ¬ xcat = 12 := fun h => hcat (.inr h)
                have b3 : (xcat != 11) = true := by rw [bne_iff_ne]; exact n3
                have b4 : (xcat != 12) = true := by rw [bne_iff_ne]; exact n4
                refine wp_region_tail (fun w' => w' = W9) 25 (by kernel_rfl) (by kernel_rfl) hW9 ?_
                clear hW9
                simp only [List.take_succ_cons, List.take_zero, List.drop_succ_cons, List.drop_zero]
                iterate 25
                  with_reducible refine wpQuiet_step ?_
                  intro K hK
                  go_simp
                  first
                    | (with_reducible refine hK _ ?_
                       clear hK K)
                    | (rw [if_neg (by intro h; cases h)]
                       with_reducible refine hK _ ?_
                       clear hK K)
                    | (refine Exists.intro _ ⟨fun w9 hw9 => ?_, ?_⟩
                       rotate_left 1
                       with_reducible refine hK _ ?_
                       clear hK K
                       rotate_left 1
                       · subst hw9; go_simp; try with_reducible rfl)
                refine wpQuiet_nil ?_
                rintro w17 rfl
                clear e0 e1
                go_wp2
                go_meet
                exact ⟨TX, k, L', HT9.out, by go_num, H9.out, .inr ⟨by omega, HKC.out⟩⟩
      · obtain rfl : k = n := by omega
        go_wp2
        go_meet
        refine ⟨T, k, L', HTT.out, rfl, HX.out, .inl ⟨rfl, ?_⟩⟩
        have h1 := HK.out
        rw [← HN.out, keyX_end HW.out] at h1
        exact h1.symm
  case rest =>
    obtain ⟨T, k, L', hT, rfl, hx, hr⟩ := hcut
    have HTT := Lib.hid hT
    have HX := Lib.hid hx
    have HRR := Lib.hid hr
    have hTL : T.length + L'.length ≤ 2000000 := by
      have := congrArg List.length HTT.out
      rw [List.length_append] at this
      have := HL.out
      omega
    clear hT hx hr
    by_cases hk : k = n
    · subst hk
      rcases HRR.out with ⟨-, h1⟩ | ⟨h1, -⟩
      · subst h1
        go_wp2
        go_ret
        exact ⟨rfl, HX.out.less⟩
      · omega
    · rcases HRR.out with ⟨h1, -⟩ | ⟨h0, h1⟩
      · exact absurd h1 hk
      · subst h1
        have q1 : ((k : Int) == (n : Int)) = false := by rw [beq_eq_false_iff_ne]; omega
        obtain ⟨sa, sc, hu⟩ := (rowT_rd HX.out.sat).val
        subst hu
        obtain ⟨tn, htn⟩ : ∃ tn, T.length = tn := ⟨_, rfl⟩
        rw [htn] at HX hTL
        have HTN := Lib.hid htn
        rw [HTN.out]
        clear htn
        go_wp2_with fail
        go_loopg [10] tn (fun gg s10 wx => ∃ i : Nat, i ≤ tn ∧ gg = i ∧ s10 = .int .i64 ((i : Int) - 1) ∧ LsAt W (rowT (.slice sa tn sc) T * A) b (T.drop i ++ L') wx)
        case atStart => exact ⟨tn, Nat.le_refl _, rfl, by go_num, by rw [List.drop_of_length_le (by rw [HTN.out]; exact Nat.le_refl _)]; exact HX.out⟩
        case round =>
          obtain ⟨i, hi, rfl, rfl, hx⟩ := hrel
          have HX2 := Lib.hid hx
          clear hx HX
          rcases Nat.eq_zero_or_pos gk with h0 | h0
          · subst h0
            go_wp2
            go_ret
            refine ⟨rfl, ?_⟩
            have h9 := HX2.out
            rw [List.drop_zero, HTT.out] at h9
            exact h9.less
          · obtain ⟨j, rfl⟩ : ∃ j, gk = j + 1 := ⟨gk - 1, by omega⟩
            have hj : j < T.length := by rw [HTN.out]; omega
            obtain ⟨b', off, hab, ⟨a0, a1, a2⟩, hb'⟩ := (rowT_rd HX2.out.sat).at hj
            subst hab
            obtain ⟨x, hx⟩ : ∃ x, T[j] = x := ⟨_, rfl⟩
            rw [hx] at a0 a1 a2
            have m2 := (HS.out _ HX2.out.sat.r).2
            have HB := Lib.hid (lsback_any x (by rw [List.length_append, List.length_drop]; have := HTN.out; omega) HX2.out)
            have HDR := Lib.hid (show x :: (T.drop (j + 1) ++ L') = T.drop j ++ L' by rw [List.drop_eq_getElem_cons hj, hx]; rfl)
            have i1 : (0 : Int) ≤ ((j + 1 : Nat) : Int) - 1 := by omega
            have i2 : ((j + 1 : Nat) : Int) - 1 < (tn : Int) := by omega
            have i3 : (((j + 1 : Nat) : Int) - 1).toNat = j := by omega
            clear hx HX2
            go_wp2_with fail
            with_reducible refine Calls.mono HB.out ?_
            rintro e w3 ⟨rfl, h3⟩
            rw [HDR.out] at h3
            have H3 := Lib.hid h3
            clear h3 HB m2 a0 a1 a2 hb'
            go_wp2
            go_roundg j
            case measure => omega
            case rel => exact ⟨j, by omega, rfl, by go_num, H3.out⟩

end Go.Proofs.Yticljfpippbkkaa
