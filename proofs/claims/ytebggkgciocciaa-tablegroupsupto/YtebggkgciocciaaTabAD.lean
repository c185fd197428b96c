
/-
  A table: what a name means; is it a meaning? Conditions: those that each theorem names.
-/
import Derived.Test.YtebggkgciocciaaTabAA
namespace Go.Proofs.Ytebggkgciocciaa
open Go.RowKit Go.Sp
variable {W w w' : World} {F A : HProp}

/-- what a name means, in a table's names -/
def lookN (T : ByteArray → Option Mean) (k : ByteArray) : Mean := (T k).getD mean0
theorem lookN_val (T : ByteArray → Option Mean) (k : ByteArray) : ((T k).map Mean.val).getD mean0.val = (lookN T k).val := by
  unfold lookN
  cases T k <;> rfl

theorem zero_mean (w : World) : (zeroValue 52).run Try.prog w = .ok mean0.val w := by
  simp only [Mean.val, mean0]
  go_simp

set_option maxRecDepth 100000 in
set_option maxHeartbeats 4000000 in
theorem look_any {b N : Nat} {S : TabS} (k : ByteArray) (h : TabAt W F b N S w) :
    Calls Try.prog 24 #[.pointer (some ⟨b, 0, none⟩), .string k] w fun e w' => e = .returned (lookN S.names k).val ∧ TabAt W F b N S w' := by
  have hK : KeyT Try.prog 9 Value.string := keyT_string Try.underlying9
  have hb := h.allocX (.cells #[.int .i64 0, .int .i64 0, .int .i64 0, .int .i64 0, .string ⟨#[]⟩] 52)
  obtain ⟨bz, hbz⟩ : ∃ bz, w.heap.size = bz := ⟨_, rfl⟩
  rw [hbz] at hb
  have HG := Lib.hid (good_any hb)
  obtain ⟨Y, hs0, back⟩ := hb.focus
  have BACK := Lib.hid back
  obtain ⟨m, nm, gs, lt, R, V, hT, hs⟩ := hb
  have hl := Sat.map_look hK Try.underlying63 zero_mean (hs.of_eq (show _ = mapH Value.string Mean.val nm N S.names * (pts b (.cells (tabCells nm R gs lt) 68) * (roH m * (row gs V.length 71 4 (flatG V) * (grpsH m V S.groups * (pts bz (.cells #[.int .i64 0, .int .i64 0, .int .i64 0, .int .i64 0, .string ⟨#[]⟩] 52) * F))))) by ac_rfl)) k false
  simp only [Bool.false_eq_true, if_false, lookN_val] at hl
  have c0 := hs.cell (i := 0) (tab_names nm R gs lt)
  have lb := hs.lt
  have hs1 := hs0.asc
  have x0 := hs1.cell (i := 0) rfl
  have x1 := hs1.cell (i := 1) rfl
  have x2 := hs1.cell (i := 2) rfl
  have x3 := hs1.cell (i := 3) rfl
  have x4 := hs1.cell (i := 4) rfl
  have f0 := hs1.free (i := 0)
  have f1 := hs1.free (i := 1)
  have f2 := hs1.free (i := 2)
  have f3 := hs1.free (i := 3)
  have f4 := hs1.free (i := 4)
  have lz := hs1.lt
  generalize lookN S.names k = lk at *
  obtain ⟨l1, l2, l3, l4, l5⟩ := lk
  simp only [Mean.val] at hl
  have hs2 := ((((hs1.set (i := 0) (v := .int .i64 l1)).set (i := 1) (v := .int .i64 l2)).set (i := 2) (v := .int .i64 l3)).set (i := 3) (v := .int .i64 l4)).set (i := 4) (v := .string l5)
  have HS2 := Lib.hid (show Sat W (pts bz (.cells #[.int .i64 l1, .int .i64 l2, .int .i64 l3, .int .i64 l4, .string l5] 52) * (F * Y)) _ from hs2)
  clear hs hs0 hs1 hs2 back h hT
  go_enter Try.func24, Try.ntmps24
  go_wp2_with fail
  refine Calls.mono HG.out ?_
  rintro e w' ⟨rfl, rfl⟩
  generalize w.alloc (.cells #[.int .i64 0, .int .i64 0, .int .i64 0, .int .i64 0, .string ⟨#[]⟩] 52) = W1 at *
  go_wp2
  (try simp only [Exit.inBlock, Exit.then])
  refine bodyPost_ret (v := .agg #[.int .i64 l1, .int .i64 l2, .int .i64 l3, .int .i64 l4, .string l5]) (by unfold results; go_simp) rfl ?_
  exact ⟨rfl, (BACK.out _ _ HS2.out.asc').less⟩

def BoolR (e : Ending) : Prop := ∃ r : Bool, e = .returned (.bool r)
theorem BoolR.mk (r : Bool) : BoolR (.returned (.bool r)) := ⟨r, rfl⟩

set_option maxRecDepth 100000 in
set_option maxHeartbeats 8000000 in
theorem mright_any (m : Mean) (w : World) : Calls Try.prog 44 #[m.val] w fun e w' => BoolR e ∧ Ext w w' := by
  obtain ⟨m1, m2, m3, m4, m5⟩ := m
  by_cases h0 : m1 = 0
  · subst h0
    have q1 := fun w => run_eql_mean w ⟨0, m2, m3, m4, m5⟩ ⟨0, 0, 0, 0, ⟨#[]⟩⟩
    simp only [Mean.val] at q1
    generalize meanB ⟨0, m2, m3, m4, m5⟩ ⟨0, 0, 0, 0, ⟨#[]⟩⟩ = rq at q1
    go_enter Try.func44, Try.ntmps44
    go_wp2
    go_ret
    exact ⟨BoolR.mk _, (Ext.refl w).alloc.alloc⟩
  · have k0 : (m1 == 0) = false := by rw [beq_eq_false_iff_ne]; exact h0
    by_cases h1 : m1 = 1
    · subst h1
      have q1 := fun w => run_eql_mean w ⟨1, m2, m3, m4, m5⟩ ⟨1, 0, 0, 0, m5⟩
      simp only [Mean.val] at q1
      generalize meanB ⟨1, m2, m3, m4, m5⟩ ⟨1, 0, 0, 0, m5⟩ = rq at q1
      clear h0 k0
      go_enter Try.func44, Try.ntmps44
      rcases rq with _ | _
      · go_wp2
        go_ret
        exact ⟨BoolR.mk _, (Ext.refl w).alloc.alloc⟩
      · go_wp2
        go_ret
        exact ⟨BoolR.mk _, (Ext.refl w).alloc.alloc⟩
    · have k1 : (m1 == 1) = false := by rw [beq_eq_false_iff_ne]; exact h1
      by_cases h2 : m1 = 2
      · subst h2
        have q1 := fun w => run_eql_mean w ⟨2, m2, m3, m4, m5⟩ ⟨2, 0, m3, 0, ⟨#[]⟩⟩
        simp only [Mean.val] at q1
        generalize meanB ⟨2, m2, m3, m4, m5⟩ ⟨2, 0, m3, 0, ⟨#[]⟩⟩ = rq at q1
        clear h0 k0 h1 k1
        go_enter Try.func44, Try.ntmps44
        rcases rq with _ | _
        · go_wp2
          go_ret
          exact ⟨BoolR.mk _, (Ext.refl w).alloc.alloc⟩
        · go_wp2
          go_ret
          exact ⟨BoolR.mk _, (Ext.refl w).alloc.alloc⟩
      · have k2 : (m1 == 2) = false := by rw [beq_eq_false_iff_ne]; exact h2
        by_cases h3 : m1 = 3
        · subst h3
          clear h0 k0 h1 k1 h2 k2
          have q1 := fun w => run_eql_mean w ⟨3, m2, m3, m4, m5⟩ ⟨3, 0, m3, m4, ⟨#[]⟩⟩
          simp only [Mean.val] at q1
          generalize meanB ⟨3, m2, m3, m4, m5⟩ ⟨3, 0, m3, m4, ⟨#[]⟩⟩ = rq at q1
          have hs := ((Sat.start w).alloc (.cells #[.int .i64 3, .int .i64 m2, .int .i64 m3, .int .i64 m4, .string m5] 52)).alloc (.cells #[.int .i64 3, .int .i64 0, .int .i64 0, .int .i64 0, .string ⟨#[]⟩] 52)
          rw [show (w.alloc (.cells #[.int .i64 3, .int .i64 m2, .int .i64 m3, .int .i64 m4, .string m5] 52)).heap.size = w.heap.size + 1 by simp] at hs
          obtain ⟨bz, hbz⟩ : ∃ bz, w.heap.size = bz := ⟨_, rfl⟩
          rw [hbz] at hs
          have HS := Lib.hid hs.drew
          clear hs
          go_enter Try.func44, Try.ntmps44
          go_upto_region 12 with fail
          refine wp_region_E (fun w' => ∃ X, Sat w (X * (pts bz (.cells #[.int .i64 3, .int .i64 m2, .int .i64 m3, .int .i64 m4, .string m5] 52) * own w)) w') (by kernel_rfl) ?_
          generalize ((w.alloc (.cells #[.int .i64 3, .int .i64 m2, .int .i64 m3, .int .i64 m4, .string m5] 52)).alloc (.cells #[.int .i64 3, .int .i64 0, .int .i64 0, .int .i64 0, .string ⟨#[]⟩] 52)).drew = W2 at *
          clear hbz
          refine wpE_take (i := 0) (q := 7) (v := ?_) rfl (by kernel_rfl) (by kernel_rfl) (by kernel_rfl) (by kernel_rfl) (by kernel_rfl) (fun _ _ _ h => h) (by rfl) ?_ ?_
          rotate_left 1
          · intro w hw; go_simp; try with_reducible rfl
          refine wpE_take (i := 1) (q := 7) (v := ?_) rfl (by kernel_rfl) (by kernel_rfl) (by kernel_rfl) (by kernel_rfl) (by kernel_rfl) (fun _ _ _ h => h) (by rfl) ?_ ?_
          rotate_left 1
          · intro w hw; (obtain ⟨X, hw⟩ := hw; have x1 := hw.r.cell (i := 1) rfl; have x2 := hw.r.cell (i := 2) rfl; have x3 := hw.r.cell (i := 3) rfl; have lx := hw.r.lt; go_simp; try with_reducible rfl)
          refine wpE_take (i := 2) (q := 7) (v := ?_) rfl (by kernel_rfl) (by kernel_rfl) (by kernel_rfl) (by kernel_rfl) (by kernel_rfl) (fun _ _ _ h => h) (by rfl) ?_ ?_
          rotate_left 1
          · intro w hw; go_simp; try with_reducible rfl
          refine wpE_take (i := 3) (q := 7) (v := ?_) rfl (by kernel_rfl) (by kernel_rfl) (by kernel_rfl) (by kernel_rfl) (by kernel_rfl) (fun _ _ _ h => h) (by rfl) ?_ ?_
          rotate_left 1
          · intro w hw; (obtain ⟨X, hw⟩ := hw; have x1 := hw.r.cell (i := 1) rfl; have x2 := hw.r.cell (i := 2) rfl; have x3 := hw.r.cell (i := 3) rfl; have lx := hw.r.lt; go_simp; try with_reducible rfl)
          refine wpE_take (i := 4) (q := 7) (v := ?_) rfl (by kernel_rfl) (by kernel_rfl) (by kernel_rfl) (by kernel_rfl) (by kernel_rfl) (fun _ _ _ h => h) (by rfl) ?_ ?_
          rotate_left 1
          · intro w hw; go_simp; try with_reducible rfl
          have y2 := HS.out.cell (i := 2) rfl
          have y3 := HS.out.cell (i := 3) rfl
          have f2 := HS.out.free (i := 2)
          have f3 := HS.out.free (i := 3)
          have ly := HS.out.lt
          refine wpE_one (i := 5) rfl (by kernel_rfl) (⟨_, HS.out⟩) (fun K hK => ?_)
          go_simp
          refine hK _ _ ?_
          clear hK K
          refine wpE_take (i := 6) (q := 7) (v := ?_) rfl (by kernel_rfl) (by kernel_rfl) (by kernel_rfl) (by kernel_rfl) (by kernel_rfl) (fun _ _ _ h => h) (by rfl) ?_ ?_
          rotate_left 1
          · intro w hw; go_simp; try with_reducible rfl
          refine wpE_one (i := 7) rfl (by kernel_rfl) (⟨_, HS.out.set (i := 2) (v := .int .i64 m3)⟩) (fun K hK => ?_)
          go_simp
          refine hK _ _ ?_
          clear hK K
          refine wpE_done (by kernel_rfl) (by kernel_rfl) ?_
          have h2 := (HS.out.set (i := 2) (v := .int .i64 m3)).set (i := 3) (v := .int .i64 m4)
          generalize (W2.setCell ⟨bz + 1, 2, none⟩ (.int .i64 m3)).setCell ⟨bz + 1, 3, none⟩ (.int .i64 m4) = W3 at *
          have HX := Lib.hid h2.r.r.toExt
          clear y2 y3 f2 f3 ly HS
          have y0 := h2.cell (i := 0) rfl
          have y1 := h2.cell (i := 1) rfl
          have y2 := h2.cell (i := 2) rfl
          have y3 := h2.cell (i := 3) rfl
          have y4 := h2.cell (i := 4) rfl
          have ly := h2.lt
          have x0 := h2.r.cell (i := 0) rfl
          have x1 := h2.r.cell (i := 1) rfl
          have x2 := h2.r.cell (i := 2) rfl
          have x3 := h2.r.cell (i := 3) rfl
          have x4 := h2.r.cell (i := 4) rfl
          have lx := h2.r.lt
          clear h2
          rcases rq with _ | _
          · skip
            go_wp2
            go_ret
            exact ⟨BoolR.mk _, HX.out⟩
          · by_cases g1 : 0 ≤ m3
            · by_cases g2 : m3 ≤ 255
              · by_cases g3 : 0 ≤ m4
                · by_cases g4 : m4 ≤ 15
                  · skip
                    go_wp2
                    go_ret
                    exact ⟨BoolR.mk _, HX.out⟩
                  · skip
                    go_wp2
                    go_ret
                    exact ⟨BoolR.mk _, HX.out⟩
                · skip
                  go_wp2
                  go_ret
                  exact ⟨BoolR.mk _, HX.out⟩
              · skip
                go_wp2
                go_ret
                exact ⟨BoolR.mk _, HX.out⟩
            · skip
              go_wp2
              go_ret
              exact ⟨BoolR.mk _, HX.out⟩
        · have k3 : (m1 == 3) = false := by rw [beq_eq_false_iff_ne]; exact h3
          by_cases h4 : m1 = 4
          · subst h4
            clear h0 k0 h1 k1 h2 k2 h3 k3
            have q1 := fun w => run_eql_mean w ⟨4, m2, m3, m4, m5⟩ ⟨4, m2, m3, 0, ⟨#[]⟩⟩
            simp only [Mean.val] at q1
            generalize meanB ⟨4, m2, m3, m4, m5⟩ ⟨4, m2, m3, 0, ⟨#[]⟩⟩ = rq at q1
            have hs := ((Sat.start w).alloc (.cells #[.int .i64 4, .int .i64 m2, .int .i64 m3, .int .i64 m4, .string m5] 52)).alloc (.cells #[.int .i64 4, .int .i64 0, .int .i64 0, .int .i64 0, .string ⟨#[]⟩] 52)
            rw [show (w.alloc (.cells #[.int .i64 4, .int .i64 m2, .int .i64 m3, .int .i64 m4, .string m5] 52)).heap.size = w.heap.size + 1 by simp] at hs
            obtain ⟨bz, hbz⟩ : ∃ bz, w.heap.size = bz := ⟨_, rfl⟩
            rw [hbz] at hs
            have HS := Lib.hid hs.drew
            clear hs
            go_enter Try.func44, Try.ntmps44
            go_upto_region 15 with fail
            refine wp_region_E (fun w' => ∃ X, Sat w (X * (pts bz (.cells #[.int .i64 4, .int .i64 m2, .int .i64 m3, .int .i64 m4, .string m5] 52) * own w)) w') (by kernel_rfl) ?_
            generalize ((w.alloc (.cells #[.int .i64 4, .int .i64 m2, .int .i64 m3, .int .i64 m4, .string m5] 52)).alloc (.cells #[.int .i64 4, .int .i64 0, .int .i64 0, .int .i64 0, .string ⟨#[]⟩] 52)).drew = W2 at *
            clear hbz
            refine wpE_take (i := 0) (q := 7) (v := ?_) rfl (by kernel_rfl) (by kernel_rfl) (by kernel_rfl) (by kernel_rfl) (by kernel_rfl) (fun _ _ _ h => h) (by rfl) ?_ ?_
            rotate_left 1
            · intro w hw; go_simp; try with_reducible rfl
            refine wpE_take (i := 1) (q := 7) (v := ?_) rfl (by kernel_rfl) (by kernel_rfl) (by kernel_rfl) (by kernel_rfl) (by kernel_rfl) (fun _ _ _ h => h) (by rfl) ?_ ?_
            rotate_left 1
            · intro w hw; (obtain ⟨X, hw⟩ := hw; have x1 := hw.r.cell (i := 1) rfl; have x2 := hw.r.cell (i := 2) rfl; have x3 := hw.r.cell (i := 3) rfl; have lx := hw.r.lt; go_simp; try with_reducible rfl)
            refine wpE_take (i := 2) (q := 7) (v := ?_) rfl (by kernel_rfl) (by kernel_rfl) (by kernel_rfl) (by kernel_rfl) (by kernel_rfl) (fun _ _ _ h => h) (by rfl) ?_ ?_
            rotate_left 1
            · intro w hw; go_simp; try with_reducible rfl
            refine wpE_take (i := 3) (q := 7) (v := ?_) rfl (by kernel_rfl) (by kernel_rfl) (by kernel_rfl) (by kernel_rfl) (by kernel_rfl) (fun _ _ _ h => h) (by rfl) ?_ ?_
            rotate_left 1
            · intro w hw; (obtain ⟨X, hw⟩ := hw; have x1 := hw.r.cell (i := 1) rfl; have x2 := hw.r.cell (i := 2) rfl; have x3 := hw.r.cell (i := 3) rfl; have lx := hw.r.lt; go_simp; try with_reducible rfl)
            refine wpE_take (i := 4) (q := 7) (v := ?_) rfl (by kernel_rfl) (by kernel_rfl) (by kernel_rfl) (by kernel_rfl) (by kernel_rfl) (fun _ _ _ h => h) (by rfl) ?_ ?_
            rotate_left 1
            · intro w hw; go_simp; try with_reducible rfl
            have y1 := HS.out.cell (i := 1) rfl
            have y2 := HS.out.cell (i := 2) rfl
            have f1 := HS.out.free (i := 1)
            have f2 := HS.out.free (i := 2)
            have ly := HS.out.lt
            refine wpE_one (i := 5) rfl (by kernel_rfl) (⟨_, HS.out⟩) (fun K hK => ?_)
            go_simp
            refine hK _ _ ?_
            clear hK K
            refine wpE_take (i := 6) (q := 7) (v := ?_) rfl (by kernel_rfl) (by kernel_rfl) (by kernel_rfl) (by kernel_rfl) (by kernel_rfl) (fun _ _ _ h => h) (by rfl) ?_ ?_
            rotate_left 1
            · intro w hw; go_simp; try with_reducible rfl
            refine wpE_one (i := 7) rfl (by kernel_rfl) (⟨_, HS.out.set (i := 1) (v := .int .i64 m2)⟩) (fun K hK => ?_)
            go_simp
            refine hK _ _ ?_
            clear hK K
            refine wpE_done (by kernel_rfl) (by kernel_rfl) ?_
            have h2 := (HS.out.set (i := 1) (v := .int .i64 m2)).set (i := 2) (v := .int .i64 m3)
            generalize (W2.setCell ⟨bz + 1, 1, none⟩ (.int .i64 m2)).setCell ⟨bz + 1, 2, none⟩ (.int .i64 m3) = W3 at *
            have HX := Lib.hid h2.r.r.toExt
            clear y1 y2 f1 f2 ly HS
            have y0 := h2.cell (i := 0) rfl
            have y1 := h2.cell (i := 1) rfl
            have y2 := h2.cell (i := 2) rfl
            have y3 := h2.cell (i := 3) rfl
            have y4 := h2.cell (i := 4) rfl
            have ly := h2.lt
            have x0 := h2.r.cell (i := 0) rfl
            have x1 := h2.r.cell (i := 1) rfl
            have x2 := h2.r.cell (i := 2) rfl
            have x3 := h2.r.cell (i := 3) rfl
            have x4 := h2.r.cell (i := 4) rfl
            have lx := h2.r.lt
            clear h2
            rcases rq with _ | _
            · skip
              go_wp2
              go_ret
              exact ⟨BoolR.mk _, HX.out⟩
            · by_cases g1 : 1 ≤ m2
              · by_cases g2 : m2 ≤ 4
                · by_cases g3 : 0 ≤ m3
                  · by_cases g4 : m3 ≤ 255
                    · skip
                      go_wp2
                      go_ret
                      exact ⟨BoolR.mk _, HX.out⟩
                    · skip
                      go_wp2
                      go_ret
                      exact ⟨BoolR.mk _, HX.out⟩
                  · skip
                    go_wp2
                    go_ret
                    exact ⟨BoolR.mk _, HX.out⟩
                · skip
                  go_wp2
                  go_ret
                  exact ⟨BoolR.mk _, HX.out⟩
              · skip
                go_wp2
                go_ret
                exact ⟨BoolR.mk _, HX.out⟩
          · have k4 : (m1 == 4) = false := by rw [beq_eq_false_iff_ne]; exact h4
            go_enter Try.func44, Try.ntmps44
            go_wp2
            go_ret
            exact ⟨BoolR.mk _, (Ext.refl w).alloc.alloc⟩

end Go.Proofs.Ytebggkgciocciaa
