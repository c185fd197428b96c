/-
  The reference's first. Conditions: those that each theorem names.
-/
import Derived.Test.YtkfobimigiaknaaDoorCodRB
namespace Go.Proofs.YtkfobimigiaknaaDoor
open Go.RowKit Go.Sp
variable {W w w' : World} {F F' : HProp}

set_option maxRecDepth 100000 in
theorem firstR_any (C : List Int) (hC : C.length = 256) {R : Rs} {b : Nat} {c : UInt8} {r : List UInt8} (hl : R.left = c :: r) (hr : r.length ≤ 1000000) (h : RefAt W F b R w) :
    Calls Tryd.prog 34 #[.pointer (some ⟨b, 0, none⟩), codesV C] w fun e w' => e = .returned (.tuple #[.int .u8 c.toNat, .int .i64 (codeAt C c)]) ∧ RefAt W F b { R with left := r } w' := by
  obtain ⟨i0, hi, hz0, hz1, hz2⟩ := info_parts3B info_u8B
  have HI := Lib.hid hi
  have HZ0 := Lib.hid hz0
  have HZ1 := Lib.hid hz1
  have HZ2 := Lib.hid hz2
  clear hi hz0 hz1 hz2
  obtain ⟨he, vl, vL, v0, ls, k, h1, h2, hs⟩ := h
  rw [hl] at hs
  have HE := Lib.hid (show R.ended = false by cases hh : R.ended with | false => rfl | true => exact absurd (he hh) (by rw [hl]; simp))
  have HV := Lib.hid (And.intro h1 h2)
  clear h1 h2 he
  have HS := Lib.hid (hs.alloc (codesO C 22))
  obtain ⟨a, cap, rfl, hcap, -, hcell⟩ := hs.rot.rowM_val
  clear hs
  obtain ⟨g, rfl, hc0, -, -⟩ := hcell 0 (by simp)
  clear hcell
  have c2 := HS.out.rot.cell (i := 2) rfl
  have f2 := HS.out.rot.free (i := 2)
  have lb := HS.out.rot.lt
  have hg0 : (w.alloc (codesO C 22)).cell? ⟨g, 0, none⟩ = some (.int .u8 c.toNat) := by
    obtain ⟨a', cap', e1, _, _, e2⟩ := Sat.rowM_val (HS.out.of_eq (show _ = rowM (.slice (some ⟨g, 0, none⟩) (c :: r).length cap) (c :: r) * (pts w.heap.size (codesO C 22) * (pts b (rfO R vl (.slice (some ⟨g, 0, none⟩) (c :: r).length cap)) * (row v0 ls.length 9 1 (strsV ls) * F))) by ac_rfl))
    obtain ⟨g', e3, e4, _, _⟩ := e2 0 (by simp)
    simp only [Value.slice.injEq] at e1
    rw [← e1.1] at e3
    cases e3
    exact e4
  generalize hW1 : w.alloc (codesO C 22) = W1 at *
  have HRd := Lib.hid (show ∃ o c', (cap = 1 → o = 0 ∧ c' = 0) ∧ (¬ cap = 1 → o = 1 ∧ c' = cap - 1) ∧ Rd (W1.alloc (.cells #[] 5)) (.slice (some ⟨g, o, none⟩) r.length c') r.length 1 (bytesB r) from by
    have e0 := (HS.out.of_eq (show _ = rowM (.slice (some ⟨g, 0, none⟩) (c :: r).length cap) (c :: r) * (pts w.heap.size (codesO C 22) * (pts b (rfO R vl (.slice (some ⟨g, 0, none⟩) (c :: r).length cap)) * (row v0 ls.length 9 1 (strsV ls) * F))) by ac_rfl))
    obtain ⟨a', cap', e1, _, _, e2⟩ := e0.allocD.rowM_val
    have hr1 : ∀ o c', (r = [] ∨ o = 1) → Rd (W1.alloc (.cells #[] 5)) (.slice (some ⟨g, o, none⟩) r.length c') r.length 1 (bytesB r) := by
      intro o c' ho
      refine ⟨by simp [bytesB], by simp [maxLen]; omega, _, _, rfl, fun j u hu => ⟨g, o, rfl, ?_⟩⟩
      have hj : j < r.length := by
        have := (List.getElem?_eq_some_iff.1 hu).1
        simpa [bytesB] using this
      rcases ho with rfl | rfl
      · simp at hj
      · obtain ⟨g', e3, e4, _, _⟩ := e2 (j + 1) (by simp; omega)
        simp only [Value.slice.injEq] at e1
        rw [← e1.1] at e3
        cases e3
        have hu2 : u = .int .u8 r[j].toNat := by
          simp only [bytesB, List.getElem?_map, List.getElem?_eq_getElem hj, Option.map_some, Option.some.injEq] at hu
          exact hu.symm
        rw [hu2, Nat.add_comm 1 j]
        simpa using e4
    by_cases hk : cap = 1
    · refine ⟨0, 0, fun _ => ⟨rfl, rfl⟩, fun h => absurd hk h, hr1 _ _ (.inl ?_)⟩
      have : r.length = 0 := by simp at hcap; omega
      exact List.eq_nil_of_length_eq_zero this
    · exact ⟨1, cap - 1, fun h => absurd h hk, fun _ => ⟨rfl, rfl⟩, hr1 _ _ (.inr rfl)⟩)
  obtain ⟨vo, HA0⟩ : ∃ vo, Sat W (row (.slice (some ⟨W1.heap.size, 0, none⟩) 0 0) 0 5 1 [] * (pts b (rfO R vl vo) * (pts w.heap.size (codesO C 22) * (rowM vo (c :: r) * (row v0 ls.length 9 1 (strsV ls) * F))))) (W1.alloc (.cells #[] 5)) :=
    ⟨_, Sat.row_mk (n := 0) (size := 1) (xs := []) (cap := 0) (HS.out.rot.alloc (.cells #[] 5)) (Nat.le_refl _) (Nat.zero_le _) rfl rfl rfl⟩
  have HA := Lib.hid HA0
  clear HA0
  have i1 : ¬ (r.length : Int) < 0 := by omega
  go_enter Tryd.func34, Tryd.ntmps34
  go_wp2_with (at_builtin; refine wpList_append_rd rfl _ _ 53 rfl i0 _ 1 Tryd.underlying53 HI.out HZ0.out HZ1.out HZ2.out rfl (by decide) rfl HA.out _ r.length (bytesB r) rfl ?_ (bytesB_one r) ?_ ?_ ?_)
  all_goals try (first | (simp only [maxLen]; omega) | omega)
  all_goals try (obtain ⟨o, c', k1, k2, hrd⟩ := HRd.out; first | (obtain ⟨rfl, rfl⟩ := k1 (by omega); exact hrd) | (obtain ⟨rfl, rfl⟩ := k2 (by omega); exact hrd))
  all_goals intro v' w4 h6
  all_goals
    have H6 := Lib.hid (rowB_M (show Sat W (rowB v' r * _) w4 from rowB_app (acc := []) (l := r) h6 (by simp) (by simp [bytesB])))
    clear h6
    obtain ⟨av, cv, rfl, -⟩ := H6.out.rowM_val
    have c2' := H6.out.r.cell (i := 2) rfl
    have f2' := H6.out.r.free (i := 2)
    have lb' := H6.out.r.lt
    have HB := Lib.hid (show Sat W (pts b (rfO { R with left := r } vl (.slice av r.length cv)) * (rowM (.slice av r.length cv) r * (pts w.heap.size (codesO C 22) * (rowM vo (c :: r) * (row v0 ls.length 9 1 (strsV ls) * F))))) _ from H6.out.rot.set (i := 2) (v := .slice av r.length cv))
    clear c2 f2 lb
    have hc3 := codes_cell HB.out.r.r hC c
    have i5 : (c.toNat : Int) < 256 := by have := c.toNat_lt; omega
    go_wp2
    generalize w4.setCell ⟨b, 2, none⟩ (.slice av r.length cv) = W5 at *
    refine wp_region_tail (Sat W (pts b (rfO { R with left := r } vl (.slice av r.length cv)) * (rowM (.slice av r.length cv) r * (pts w.heap.size (codesO C 22) * (rowM vo (c :: r) * (row v0 ls.length 9 1 (strsV ls) * F)))))) 5 (by kernel_rfl) (by kernel_rfl) (HB.out.drew) ?_
    simp only [List.take_succ_cons, List.take_zero, List.drop_succ_cons, List.drop_zero]
    repeat (refine wpQuiet_step (fun K hK => ?_); go_simp; first | (refine hK _ ?_; clear hK K) | (apply Exists.intro; refine ⟨fun w' hw' => ?_, hK _ ?_⟩; (first | rfl | (have hc4 := codes_cell hw'.r.r hC c; go_simp; first | done | rfl)); clear hK K))
    refine wpQuiet_nil ?_
    intro w6 HB6
    go_wp2
    go_ret2
    exact ⟨rfl, fun h => absurd h (by rw [HE.out]; simp), vl, _, v0, ls, k, HV.out.1, HV.out.2, (HB6.of_eq (show _ = pts w.heap.size (codesO C 22) * (rowM vo (c :: r) * (pts b (rfO { R with left := r } vl (.slice av r.length cv)) * (rowM (.slice av r.length cv) r * (row v0 ls.length 9 1 (strsV ls) * F)))) by ac_rfl)).r.r⟩
end Go.Proofs.YtkfobimigiaknaaDoor
