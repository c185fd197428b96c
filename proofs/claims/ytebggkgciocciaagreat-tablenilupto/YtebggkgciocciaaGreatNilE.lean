
/-
  The law of no table. Conditions: those that each theorem names.
-/
import Derived.Test.YtebggkgciocciaaGreatNilC
import Derived.Test.YtebggkgciocciaaGreatNilD
namespace Go.Proofs.YtebggkgciocciaaGreat
open Go.RowKit Go.Sp
variable {W w w' : World} {F A : HProp} {p : Value}

theorem RdO.rng {v : Value} {L : List (OpS × Value)} (h : RdO W v L) {k : Nat} (hk : k < L.length) : ∃ a cap b off, v = .slice a L.length cap ∧ a = some ⟨b, off, none⟩ ∧ (∀ w', Ext W w' → w'.rangeAt b (off + k * 21) (L[k].1.cells L[k].2).toList) := by
  obtain ⟨a, cap, h1, h2⟩ := h.val
  obtain ⟨b, off, h3, h4⟩ := h2 k hk
  exact ⟨a, cap, b, off, h1, h3, fun w' hx j u hu => hx.cell (h4 j u (by rw [Array.getElem?_toList] at hu; exact hu))⟩

theorem zero_names : Tryz.zeroCells34[0]? = some (.map none) := by kernel_rfl

set_option maxRecDepth 100000 in
set_option maxHeartbeats 8000000 in
theorem nil_law (v : Value) (ops : List (OpS × Value)) (W : World) (hv : RdO W v ops) (hn : ops.length ≤ 1048576) :
    Calls Tryz.prog 3 #[v] W fun e w' => e = .returned (.bool true) ∧ Ext W w' := by
  obtain ⟨a, cap, hva, -⟩ := hv.val
  subst hva
  have HV := Lib.hid hv
  obtain ⟨nx, hnx⟩ : ∃ n, ops.length = n := ⟨_, rfl⟩
  rw [hnx] at HV hn
  rw [hnx]
  have HNX := Lib.hid hnx
  have hb := (Sat.start W).alloc (.cells Tryz.zeroCells34 34)
  obtain ⟨b, hbb⟩ : ∃ b, W.heap.size = b := ⟨_, rfl⟩
  rw [hbb] at hb
  have HNT := Lib.hid (show NoT _ (.pointer (some ⟨b, 0, none⟩)) from .inr ⟨b, rfl, hb.cell zero_names⟩)
  have HX0 := Lib.hid hb.r.toExt
  obtain ⟨W1, hW1⟩ : ∃ W1, W.alloc (.cells Tryz.zeroCells34 34) = W1 := ⟨_, rfl⟩
  rw [hW1] at HNT HX0
  clear hb hv hnx
  go_enter Tryz.func3, Tryz.ntmps3
  go_wp2_with fail
  (try rw [hW1])
  clear hW1
  go_loopg [5] nx (fun gg s5 wx => ∃ (q : Nat), q ≤ nx ∧ gg = nx - q ∧ s5 = .int .i64 q ∧ Ext W1 wx)
  case atStart => exact ⟨0, by omega, rfl, by go_num, Ext.refl _⟩
  case round =>
    obtain ⟨q, hq, rfl, rfl, hx⟩ := hrel
    by_cases hlt : q < nx
    · have i1 : (q : Int) < (nx : Int) := by omega
      obtain ⟨a', cap', b', off, hva, rfl, hat⟩ := HV.out.rng (k := q) (by rw [HNX.out]; exact hlt)
      simp only [Value.slice.injEq, HNX.out, true_and] at hva
      obtain ⟨rfl, rfl⟩ := hva
      obtain ⟨⟨oq, sq⟩, hoq⟩ : ∃ x, ops[q]'(by rw [HNX.out]; exact hlt) = x := ⟨_, rfl⟩
      rw [hoq] at hat
      have hmem : (oq, sq) ∈ ops := by rw [← hoq]; exact List.getElem_mem _
      have HT := Lib.hid ((HV.out.toks _ hmem).ext HX0.out)
      have HLN := Lib.hid (HV.out.len _ hmem)
      have HAT := Lib.hid (show ∀ w', Ext W1 w' → w'.rangeAt b' (off + q * 21) (oq.cells sq).toList from fun w' h => hat _ (HX0.out.trans h))
      have HX := Lib.hid hx
      clear hat hoq hmem hx
      go_upto_region 6 with fail
      go_step
      refine wpList_plain rfl (fun K hK => ?_)
      go_simp
      refine hK _ _ ?_
      clear hK K
      refine wpList_plain rfl (fun K hK => ?_)
      go_simp
      refine hK _ _ ?_
      clear hK K
      refine wpList_plain rfl (fun K hK => ?_)
      go_simp
      refine hK _ _ ?_
      clear hK K
      refine wpList_plain rfl (fun K hK => ?_)
      go_simp
      refine hK _ _ ?_
      clear hK K
      refine BigFrame.wpList_want (by kernel_rfl) (fun K hK => ?_)
      refine wp_load_mid 42 (.tmp 17) rfl b' (off + q * 21) ?_ (oq.cells sq).toList _ (HAT.out _ HX.out) Tryz.underlying42 rfl (by kernel_rfl) ?_
      · kernel_rfl
      rw [show (oq.cells sq).toList.toArray = oq.cells sq from Array.toArray_toList]
      refine hK _ _ ?_
      clear hK K
      refine BigFrame.wpList_want (by kernel_rfl) (fun K hK => ?_)
      go_simp
      refine Calls.mono (changes_no oq sq (HT.out.ext HX.out) HLN.out (.inl rfl)) ?_
      rintro e w4 ⟨rfl, hx4⟩
      have HX := Lib.hid (HX.out.trans hx4)
      clear hx4
      go_simp
      refine hK _ _ ?_
      clear hK K
      refine BigFrame.wpList_want (by kernel_rfl) (fun K hK => ?_)
      go_simp
      refine hK _ _ ?_
      clear hK K
      refine BigFrame.wpList_want (by kernel_rfl) (fun K hK => ?_)
      go_simp
      refine hK _ _ ?_
      clear hK K
      refine BigFrame.wpList_want (by kernel_rfl) (fun K hK => ?_)
      go_simp
      refine hK _ _ ?_
      clear hK K
      refine BigFrame.wpList_want (by kernel_rfl) (fun K hK => ?_)
      go_simp
      refine hK _ _ ?_
      clear hK K
      refine BigFrame.wpList_want (by kernel_rfl) (fun K hK => ?_)
      go_simp
      refine hK _ _ ?_
      clear hK K
      refine BigFrame.wpList_want (by kernel_rfl) (fun K hK => ?_)
      go_simp
      refine hK _ _ ?_
      clear hK K
      refine BigFrame.wpList_want (by kernel_rfl) (fun K hK => ?_)
      refine wp_load_mid 42 (.tmp 25) rfl b' (off + q * 21) ?_ (oq.cells sq).toList _ (HAT.out _ HX.out) Tryz.underlying42 rfl (by kernel_rfl) ?_
      · kernel_rfl
      rw [show (oq.cells sq).toList.toArray = oq.cells sq from Array.toArray_toList]
      refine hK _ _ ?_
      clear hK K
      refine BigFrame.wpList_want (by kernel_rfl) (fun K hK => ?_)
      go_simp
      refine Calls.mono (looks_no oq sq (.inl rfl)) ?_
      rintro e w4 ⟨rfl, hx4⟩
      have HX := Lib.hid (HX.out.trans hx4)
      clear hx4
      go_simp
      refine hK _ _ ?_
      clear hK K
      refine BigFrame.wpList_want (by kernel_rfl) (fun K hK => ?_)
      go_simp
      refine hK _ _ ?_
      clear hK K
      refine BigFrame.wpList_want (by kernel_rfl) (fun K hK => ?_)
      go_simp
      refine hK _ _ ?_
      clear hK K
      refine BigFrame.wpList_want (by kernel_rfl) (fun K hK => ?_)
      go_simp
      refine hK _ _ ?_
      clear hK K
      refine BigFrame.wpList_want (by kernel_rfl) (fun K hK => ?_)
      go_simp
      refine hK _ _ ?_
      clear hK K
      refine BigFrame.wpList_want (by kernel_rfl) (fun K hK => ?_)
      go_simp
      refine hK _ _ ?_
      clear hK K
      refine BigFrame.wpList_want (by kernel_rfl) (fun K hK => ?_)
      go_simp
      refine hK _ _ ?_
      clear hK K
      refine BigFrame.wpList_want (by kernel_rfl) (fun K hK => ?_)
      go_simp
      refine hK _ _ ?_
      clear hK K
      refine BigFrame.wpList_want (by kernel_rfl) (fun K hK => ?_)
      refine wp_load_mid 42 (.tmp 34) rfl b' (off + q * 21) ?_ (oq.cells sq).toList _ (HAT.out _ HX.out) Tryz.underlying42 rfl (by kernel_rfl) ?_
      · kernel_rfl
      rw [show (oq.cells sq).toList.toArray = oq.cells sq from Array.toArray_toList]
      refine hK _ _ ?_
      clear hK K
      refine BigFrame.wpList_want (by kernel_rfl) (fun K hK => ?_)
      go_simp
      refine Calls.mono (changes_no oq sq (HT.out.ext HX.out) HLN.out (HNT.out.ext HX.out)) ?_
      rintro e w4 ⟨rfl, hx4⟩
      have HX := Lib.hid (HX.out.trans hx4)
      clear hx4
      go_simp
      refine hK _ _ ?_
      clear hK K
      refine BigFrame.wpList_want (by kernel_rfl) (fun K hK => ?_)
      go_simp
      refine hK _ _ ?_
      clear hK K
      refine BigFrame.wpList_want (by kernel_rfl) (fun K hK => ?_)
      go_simp
      refine hK _ _ ?_
      clear hK K
      refine BigFrame.wpList_want (by kernel_rfl) (fun K hK => ?_)
      go_simp
      refine hK _ _ ?_
      clear hK K
      refine BigFrame.wpList_want (by kernel_rfl) (fun K hK => ?_)
      go_simp
      refine hK _ _ ?_
      clear hK K
      refine BigFrame.wpList_want (by kernel_rfl) (fun K hK => ?_)
      go_simp
      refine hK _ _ ?_
      clear hK K
      refine BigFrame.wpList_want (by kernel_rfl) (fun K hK => ?_)
      go_simp
      refine hK _ _ ?_
      clear hK K
      refine BigFrame.wpList_want (by kernel_rfl) (fun K hK => ?_)
      go_simp
      refine hK _ _ ?_
      clear hK K
      refine BigFrame.wpList_want (by kernel_rfl) (fun K hK => ?_)
      refine wp_load_mid 42 (.tmp 43) rfl b' (off + q * 21) ?_ (oq.cells sq).toList _ (HAT.out _ HX.out) Tryz.underlying42 rfl (by kernel_rfl) ?_
      · kernel_rfl
      rw [show (oq.cells sq).toList.toArray = oq.cells sq from Array.toArray_toList]
      refine hK _ _ ?_
      clear hK K
      refine BigFrame.wpList_want (by kernel_rfl) (fun K hK => ?_)
      go_simp
      refine Calls.mono (looks_no oq sq (HNT.out.ext HX.out)) ?_
      rintro e w4 ⟨rfl, hx4⟩
      have HX := Lib.hid (HX.out.trans hx4)
      clear hx4
      go_simp
      refine hK _ _ ?_
      clear hK K
      refine BigFrame.wpList_want (by kernel_rfl) (fun K hK => ?_)
      go_simp
      refine hK _ _ ?_
      clear hK K
      refine BigFrame.wpList_want (by kernel_rfl) (fun K hK => ?_)
      go_simp
      refine hK _ _ ?_
      clear hK K
      go_wp2
      go_roundg (nx - (q + 1))
      case measure => omega
      case rel => exact ⟨q + 1, by omega, rfl, by go_num, HX.out⟩
    · obtain rfl : nx = q := by omega
      have HX := Lib.hid (HX0.out.trans hx)
      clear hx
      go_wp2_with fail
      refine Calls.mono (knows_any HX.out.toSat) ?_
      rintro e w5 ⟨rfl, hs⟩
      have HE := Lib.hid hs.toExt
      clear hs
      go_wp2
      go_ret
      exact ⟨rfl, HE.out⟩

end Go.Proofs.YtebggkgciocciaaGreat
