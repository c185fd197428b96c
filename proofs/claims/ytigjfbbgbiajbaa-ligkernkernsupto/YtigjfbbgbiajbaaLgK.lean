/-
  A new machine. Conditions: those that each theorem names.
-/
import Derived.Test.YtigjfbbgbiajbaaLgJ
namespace Go.Proofs.Ytigjfbbgbiajbaa
open Go.RowKit Go.Sp
variable {w W : World} {x : FV} {F : Fnt} {A : HProp}

theorem MAt.sat {b : Nat} {D T : List Mk} (h : MAt W A b x F D T w) : ∃ Y, Sat W (A * Y) w ∧ ∀ w', Ext w w' → MAt W A b x F D T w' := by
  obtain ⟨dv, tv, h⟩ := h
  exact ⟨_, h.of_eq (show _ = A * (pts b (F.mbox x dv tv) * (rowK dv D * rowK tv T)) by ac_rfl), fun w' k => ⟨dv, tv, h.ext k⟩⟩
theorem MAt.ext {b : Nat} {D T : List Mk} {w' : World} (h : MAt W A b x F D T w) (k : Ext w w') : MAt W A b x F D T w' := by
  obtain ⟨dv, tv, h⟩ := h
  exact ⟨dv, tv, h.ext k⟩
set_option maxRecDepth 100000 in
set_option maxHeartbeats 8000000 in
theorem newMachine_any {v : Value} {L : List Mk} (hL : L.length ≤ 900000) (h : Sat W (rowK v L * A) w) :
    Calls Try.prog 19 #[F.pval x, v] w fun e w' => ∃ b, e = .returned (.pointer (some ⟨b, 0, none⟩)) ∧ MAt W (rowK v L * A) b x F [] L.reverse w' := by
  have h2 := (h.alloc (F.pbox x)).alloc (F.mbox x (.slice none 0 0) (.slice none 0 0))
  obtain ⟨W1, hW1⟩ : ∃ W1, (w.alloc (F.pbox x)).alloc (F.mbox x (.slice none 0 0) (.slice none 0 0)) = W1 := ⟨_, rfl⟩
  obtain ⟨b2, hb2⟩ : ∃ b2, w.heap.size = b2 := ⟨_, rfl⟩
  rw [hW1, World.size_alloc, hb2] at h2
  have h3 := (h2.row_nil (e := 58) (size := 5)).row_nil (e := 58) (size := 5)
  obtain ⟨AA, hAA⟩ : ∃ AA, rowK v L * (pts b2 (F.pbox x) * A) = AA := ⟨_, rfl⟩
  have HM := Lib.hid (show MAt W AA (b2 + 1) x F [] [] W1 from ⟨.slice none 0 0, .slice none 0 0, h3.of_eq (show _ = pts (b2 + 1) (F.mbox x (.slice none 0 0) (.slice none 0 0)) * (rowK (.slice none 0 0) [] * (rowK (.slice none 0 0) [] * AA)) by rw [← hAA]; show row _ 0 _ 5 [] * (row _ 0 _ 5 [] * _) = _ * (row _ 0 _ 5 [] * (row _ 0 _ 5 [] * _)); ac_rfl)⟩)
  have HAA := Lib.hid hAA
  obtain ⟨a, c, hv, -⟩ := (rowK_rd h).val
  subst hv
  obtain ⟨dx1, dx2, dx3, dx4, dx5⟩ := x
  have HW1 := Lib.hid (show (w.alloc (.cells #[.int .u32 F.check, .int .i64 F.design, .int .i64 F.first, dx1, dx2, dx3, dx4, dx5, .int .i64 (edgeM F)] 47)).alloc (.cells #[.slice none 0 0, .slice none 0 0, .int .u32 F.check, .int .i64 F.design, .int .i64 F.first, dx1, dx2, dx3, dx4, dx5, .int .i64 (edgeM F)] 65) = W1 from hW1)
  have HB2 := Lib.hid hb2
  have HL := Lib.hid hL
  clear h h2 h3 hW1 hb2 hAA
  go_enter Try.func19, Try.ntmps19
  go_upto_region 2 with fail
  rw [HB2.out, HW1.out]
  clear HB2 HW1
  go_wp2_with fail
  go_loopg [6] L.length (fun gg s6 wx => ∃ (k : Nat) (q : Int), k ≤ L.length ∧ gg = k ∧ s6 = .int .i64 q ∧ q = (k : Int) - 1 ∧ MAt W AA (b2 + 1) ⟨dx1, dx2, dx3, dx4, dx5⟩ F [] (L.drop k).reverse wx)
  case atStart => exact ⟨L.length, _, Nat.le_refl _, rfl, rfl, by first | rfl | go_num, by rw [List.drop_length]; exact HM.out⟩
  case round =>
    obtain ⟨k, q, hk, hg, rfl, hq, hm⟩ := hrel
    subst hg
    have HM2 := Lib.hid hm
    have HQ := Lib.hid hq
    clear hm hq HM
    cases gk with
    | zero =>
      have hq0 : ¬ 0 ≤ q := by have := HQ.out; omega
      go_wp2
      go_ret
      refine ⟨b2 + 1, rfl, ?_⟩
      obtain ⟨dv, tv, h9⟩ := HM2.out
      rw [List.drop_zero, ← HAA.out] at h9
      exact ⟨dv, tv, (h9.of_eq (show _ = pts b2 (F.pbox ⟨dx1, dx2, dx3, dx4, dx5⟩) * (pts (b2 + 1) (F.mbox ⟨dx1, dx2, dx3, dx4, dx5⟩ dv tv) * (rowK dv [] * (rowK tv L.reverse * (rowK (.slice a L.length c) L * A)))) by ac_rfl)).r⟩
    | succ k =>
      obtain rfl : q = k := by have := HQ.out; omega
      have hkl : k < L.length := by omega
      have hki : (k : Int) < L.length := by omega
      have hk0 : (0 : Int) ≤ k := by omega
      have hm3 := HM2.out.ext ((Ext.refl wr).drew)
      obtain ⟨W9, hW9⟩ : ∃ W9, wr.drew = W9 := ⟨_, rfl⟩
      rw [hW9] at hm3
      have hm4 := hm3
      obtain ⟨dv, tv, h9⟩ := hm4
      rw [← HAA.out] at h9
      have h10 := h9.of_eq (show _ = rowK (.slice a L.length c) L * (pts (b2 + 1) (F.mbox ⟨dx1, dx2, dx3, dx4, dx5⟩ dv tv) * (rowK dv [] * (rowK tv (L.drop (k + 1)).reverse * (pts b2 (F.pbox ⟨dx1, dx2, dx3, dx4, dx5⟩) * A)))) by ac_rfl)
      obtain ⟨g, o, rfl, hc, lb⟩ := (rowK_rd h10).at mk_len (by omega) hkl
      obtain ⟨c0, c1, c2, c3, c4⟩ := MkAt.mk' hc
      have hlm := h10.r.lt
      have hdr : (L.drop k).reverse = (L.drop (k + 1)).reverse ++ [L[k]] := by rw [List.drop_eq_getElem_cons hkl, List.reverse_cons]
      obtain ⟨y, hy⟩ : ∃ y, L[k] = y := ⟨_, rfl⟩
      rw [hy] at c0 c1 c2 c3 c4 hdr
      have HDR := Lib.hid hdr
      have HBK := Lib.hid (back_any y (by rw [List.length_reverse, List.length_drop]; have := HL.out; omega) hm3)
      clear hm3 h9 h10 hc hdr hy HM2 HQ
      obtain ⟨y1, y2, y3, y4, y5⟩ := y
      simp only at c0 c1 c2 c3 c4
      go_upto_region 5 with fail
      refine wp_region_tail (fun w' => w' = W9) 7 (by kernel_rfl) (by kernel_rfl) hW9 ?_
      clear hW9
      simp only [List.take_succ_cons, List.take_zero, List.drop_succ_cons, List.drop_zero]
      iterate 7
        with_reducible refine wpQuiet_step ?_
        intro K hK
        go_simp
        first
          | (with_reducible refine hK _ ?_
             clear hK K)
          | (rw [if_neg (by intro h; cases h)]
             with_reducible refine hK _ ?_
             clear hK K)
          | (refine Exists.intro _ ⟨fun w9 hw9 => ?_, ?_⟩
             rotate_left 1
             with_reducible refine hK _ ?_
             clear hK K
             rotate_left 1
             · subst hw9; go_simp; try with_reducible rfl)
      refine wpQuiet_nil ?_
      rintro w17 rfl
      go_wp2_with fail
      with_reducible refine Calls.mono HBK.out ?_
      rintro e w4 ⟨rfl, h4⟩
      have H4 := Lib.hid h4
      clear h4 HBK c0 c1 c2 c3 c4 lb hlm
      go_wp2
      go_roundg k
      case measure => omega
      case rel => exact ⟨k, _, by omega, rfl, rfl, by first | rfl | go_num, by rw [HDR.out]; exact H4.out⟩
end Go.Proofs.Ytigjfbbgbiajbaa
