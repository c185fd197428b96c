
/-
  A table: groups begin; what is kept and looked up. Conditions: those that each theorem names.
-/
import Derived.Test.YtebggkgciocciaaGreatTabC
import Derived.Deep.DeepCutAuto
import Derived.Deep.CutBlock
import Derived.Deep.LoopGhost
import Derived.Lib.SliceRun
import Derived.IntWalk
namespace Go.Proofs.YtebggkgciocciaaGreat
open Go.RowKit Go.Sp
variable {W w w' : World} {F A : HProp}

theorem row_empty (h : Sat W F w) : Sat W (row (.slice (some ⟨w.heap.size, 0, none⟩) 0 0) 0 40 3 [] * F) (w.alloc (.cells #[] 40)) :=
  (h.alloc (.cells #[] 40)).row_whole 0 (size := 3) (by simp [maxLen]) (by simp)
theorem rowT_one {v : Value} {X : List Tok} {n : Nat} {xs : List Value} (h : Sat W (row v n 40 3 xs * F) w) (hn : n = X.length) (hx : xs = flat X) : Sat W (rowT v X * F) w := by
  subst hn hx; exact h

set_option maxRecDepth 100000 in
set_option maxHeartbeats 4000000 in
theorem clone_any (v : Value) (L : List Tok) (hv : ∀ w', Sat W F w' → RdT w' v L) (hl : L.length ≤ 1000000) (h : Sat W F w) :
    Calls Tryz.prog 69 #[v] w fun e w' => ∃ u, e = .returned u ∧ Sat W (rowT u L * F) w' := by
  obtain ⟨i0, hi, hz0, hz1, hz2⟩ := info_parts3 info_tok
  have HI := Lib.hid hi
  have HZ0 := Lib.hid hz0
  have HZ1 := Lib.hid hz1
  have HZ2 := Lib.hid hz2
  clear hi hz0 hz1 hz2
  obtain ⟨a, cap, rfl⟩ := (hv w h).val
  have H := Lib.hid h
  have HV := Lib.hid hv
  have qT : (binOp .eql 27 (.slice a L.length cap) (.slice none 0 0)).run Tryz.prog w = .ok (.bool a.isNone) w := Lib.run_eql_slice_nil w _ _ a _ _ _ _ Tryz.underlying27
  have HL := Lib.hid hl
  clear h hv hl
  cases a with
  | none =>
    have h0 : L = [] := by
      rcases Nat.eq_zero_or_pos L.length with h0 | h0
      · exact List.eq_nil_of_length_eq_zero h0
      · obtain ⟨b, off, c, e, _⟩ := (HV.out w H.out).head h0
        cases e
    subst h0
    simp only [List.length_nil] at qT
    go_enter Tryz.func69, Tryz.ntmps69
    go_wp2
    go_ret
    exact ⟨_, rfl, H.out.row_nil⟩
  | some a =>
    have HE := Lib.hid (row_empty H.out)
    have HR := Lib.hid ((HV.out w H.out).ext (Ext.alloc (Ext.refl w) (o := .cells #[] 40))).1
    go_enter Tryz.func69, Tryz.ntmps69
    go_upto_region 3 with fail
    go_step
    refine wpList_plain rfl (fun K hK => ?_)
    go_simp
    refine hK _ _ ?_
    clear hK K
    refine wpList_plain rfl (fun K hK => ?_)
    go_simp
    refine hK _ _ ?_
    clear hK K
    refine wpList_append_rd rfl _ _ 27 rfl i0 _ 32 Tryz.underlying27 HI.out HZ0.out HZ1.out HZ2.out rfl (by omega) rfl HE.out (.slice (some a) L.length cap) L.length (flat L) rfl HR.out (flat_one L) ?_ ?_ ?_
    · have := HL.out; simp [maxLen]; omega
    · have := HL.out; omega
    intro v1 w1 h1
    have H1 := Lib.hid (rowT_one (X := L) h1 (by simp) (by simp))
    clear h1
    go_wp2
    go_ret
    exact ⟨_, rfl, H1.out⟩

set_option maxRecDepth 100000 in
theorem later_any {b N : Nat} {S : TabS} (h : TabAt W F b N S w) : Calls Tryz.prog 39 #[.pointer (some ⟨b, 0, none⟩)] w fun e w' => ∃ u, e = .returned u ∧ TabAt W (rowT u S.later * F) b N S w' := by
  have HG := Lib.hid (good_any h)
  obtain ⟨m, nm, gs, lt, R, V, ⟨h1, h2, h2b, h3, h4⟩, hs⟩ := h
  have c0 := hs.cell (i := 10754) (tab_later nm R gs lt)
  have HCL := Lib.hid (clone_any lt S.later (fun w' h => (h.r.ro_rd h2)) (by omega) hs)
  have HK := Lib.hid (show ∀ (u : Value) (w' : World), Sat W (rowT u S.later * (pts b (.cells (tabCells nm R gs lt) 34) * (roH m * (mapH Value.string Mean.val nm N S.names * (row gs V.length 83 4 (flatG V) * (grpsH m V S.groups * F)))))) w' → TabAt W (rowT u S.later * F) b N S w' from
    fun u w' h => ⟨m, nm, gs, lt, R, V, ⟨h1, h2, h2b, h3, h4⟩, h.of_eq (by ac_rfl)⟩)
  clear hs h1 h2 h2b h3 h4
  go_enter Tryz.func39, Tryz.ntmps39
  go_wp2_with fail
  refine Calls.mono HG.out ?_
  rintro e w' ⟨rfl, rfl⟩
  go_wp2_with fail
  refine Calls.mono HCL.out ?_
  rintro e w1 ⟨u, rfl, h1⟩
  have H1 := Lib.hid (HK.out u w1 h1)
  clear h1
  go_wp2
  go_ret
  exact ⟨_, rfl, H1.out⟩

end Go.Proofs.YtebggkgciocciaaGreat
