
/-
  A command's numbers out of a feed. Conditions: those that each theorem names.
-/
import Derived.Test.YtjeinldhbajknaaDvD
import Derived.Test.YtjeinldhbajknaaAnyE
import Derived.Test.YtjeinldhbajknaaStep
namespace Go.Proofs.Ytjeinldhbajknaa
open Go.RowKit Go.Sp Go.Conc
variable {W w w' : World} {A : HProp}

theorem info_int : (Try.prog.info? 3).map (fun i => (i.zero, i.size, i.bytes)) = some (some (.int .i64 0), 1, 8) := by kernel_rfl
abbrev intsL (l : List Int) : List Value := l.map (Value.int .i64)
abbrev rowI (v : Value) (l : List Int) : HProp := row v l.length 3 1 (intsL l)
/-- a command in memory -/
abbrev opO (code at_ : Int) (va : Value) (t : ByteArray) : Obj := .cells #[.int .i64 code, .int .i64 at_, va, .string t] 33

def Fd.args : List Int → List Int → Fd → List Int × Fd
  | [], acc, f => (acc, f)
  | z :: zs, acc, f => Fd.args zs (acc ++ [sgnV z.natAbs (decide (z < 0)) (f.num z.natAbs 0).1]) (f.num z.natAbs 0).2

theorem FdAt.drewD {b c cap : Nat} {f : Fd} (h : FdAt W A b c cap f w) : FdAt W A b c cap f w.drew := by
  obtain ⟨h1, s, r, h2⟩ := h
  exact ⟨h1, s, r, h2.drew⟩
theorem FdAt.focus {b c cap : Nat} {f : Fd} (h : FdAt W A b c cap f w) : ∃ Y : HProp, Sat W (A * Y) w ∧ ∀ (A' : HProp) (w' : World), Sat W (A' * Y) w' → FdAt W A' b c cap f w' := by
  obtain ⟨h1, h2⟩ := h
  obtain ⟨Y, h3, h4⟩ := h2.focus
  exact ⟨Y, h3, fun A' w' h => ⟨h1, h4 A' w' h⟩⟩
theorem FdAt.sat {b c cap : Nat} {f : Fd} (h : FdAt W A b c cap f w) : Sat W A w := h.2.sat
theorem FdAt.of_eq {B : HProp} {b c cap : Nat} {f : Fd} (h : FdAt W A b c cap f w) (e : A = B) : FdAt W B b c cap f w := e ▸ h

set_option maxRecDepth 100000 in
set_option maxHeartbeats 4000000 in
theorem args_any {b c cap bo : Nat} {f : Fd} {code at_ : Int} {t : ByteArray} {va v : Value} {acc zs : List Int} (hz : ∀ z ∈ zs, (1 ≤ z ∧ z ≤ 4) ∨ (-4 ≤ z ∧ z ≤ -1)) (hl : acc.length + zs.length ≤ 100)
    (hv : ∀ w', Sat W A w' → Rd w' v zs.length 1 (intsL zs)) (h : FdAt W (pts bo (opO code at_ va t) * (rowI va acc * A)) b c cap f w) :
    Calls Try.prog 48 #[.pointer (some ⟨b, 0, none⟩), .pointer (some ⟨bo, 0, none⟩), v] w fun e w' => e = .returned (.tuple #[]) ∧ ∃ va', FdAt W (pts bo (opO code at_ va' t) * (rowI va' (f.args zs acc).1 * A)) b c cap (f.args zs acc).2 w' := by
  obtain ⟨i0, hi, hz0, hz1, hz2⟩ := info_parts3 info_int
  have HI := Lib.hid hi
  have HZ0 := Lib.hid hz0
  have HZ1 := Lib.hid hz1
  have HZ2 := Lib.hid hz2
  have H := Lib.hid h
  have HV := Lib.hid hv
  have HZ := Lib.hid hz
  obtain ⟨a, vc, hv0⟩ : ∃ a cap, v = .slice a zs.length cap := by obtain ⟨_, _, a, cap, h, _⟩ := hv w h.sat.r.r; exact ⟨a, cap, h⟩
  subst hv0
  obtain ⟨n, hn⟩ : ∃ n, zs.length = n := ⟨_, rfl⟩
  rw [hn] at HV hl
  rw [hn]
  have HN := Lib.hid hn
  obtain ⟨rr, hr⟩ : ∃ rr, f.args zs acc = rr := ⟨_, rfl⟩
  rw [hr]
  have HR := Lib.hid hr
  clear hi hz0 hz1 hz2 h hv hz hn hr
  go_enter Try.func48, Try.ntmps48
  go_wp2_with fail
  go_loopg [7, 10] n (fun gg _ s10 wx => ∃ (k : Nat) (acc' : List Int) (g : Fd) (va' : Value), k ≤ n ∧ gg = n - k ∧ s10 = .int .i64 k ∧ g.args (zs.drop k) acc' = rr ∧ acc'.length = acc.length + k ∧ FdAt W (pts bo (opO code at_ va' t) * (rowI va' acc' * A)) b c cap g wx)
  case atStart => exact ⟨0, acc, f, va, by omega, rfl, by go_num, HR.out, rfl, H.out⟩
  case round =>
    obtain ⟨k, acc', g, va', hk, rfl, rfl, hg, hla, hx⟩ := hrel
    have HX := Lib.hid hx
    have HG := Lib.hid hg
    have HLA := Lib.hid hla
    have hl2 : acc'.length ≤ 100 := by omega
    clear hx hg H HR hla
    by_cases hlt : k < n
    · have i1 : (k : Int) < (n : Int) := by omega
      obtain ⟨z, hzz⟩ : ∃ z, zs[k]'(by rw [HN.out]; exact hlt) = z := ⟨_, rfl⟩
      have hzr := HZ.out z (by rw [← hzz]; exact List.getElem_mem _)
      obtain ⟨_, _, a', cap', hva, hat⟩ := HV.out _ HX.out.sat.r.r
      obtain ⟨b', off, ha, hx⟩ := hat k (.int .i64 z) (by rw [← hzz]; simp [HN.out, hlt])
      simp only [Value.slice.injEq] at hva
      obtain ⟨rfl, -, rfl⟩ := hva
      subst ha
      have hb' : b' < wr.heap.size := World.block_lt_of_cell? wr _ hx
      have hgs : (g.num z.natAbs 0).2.args (zs.drop (k + 1)) (acc' ++ [sgnV z.natAbs (decide (z < 0)) (g.num z.natAbs 0).1]) = rr := by
        have := HG.out
        rw [List.drop_eq_getElem_cons (by rw [HN.out]; exact hlt), hzz] at this
        exact this
      have HG2 := Lib.hid hgs
      clear hgs hat hzz HG
      go_upto_region 3 with fail
      have hng : IntKind.i64.wrap (-z) = -z := IntWalk.i64_in _ (by omega)
      have hmx : (if z < -z then -z else z) = ((z.natAbs : Nat) : Int) := by
        rcases hzr with h | h
        · rw [if_neg (by omega)]; omega
        · rw [if_pos (by omega)]; omega
      have HNM := Lib.hid (number_any z.natAbs (by omega) (by omega) (decide (z < 0)) HX.out.drewD)
      obtain ⟨C, hC⟩ : ∃ C : World → Prop, C = fun w' => ∃ X, Sat W (pts bo (opO code at_ va' t) * X) w' := ⟨_, rfl⟩
      have HC := Lib.hid (show ∀ w', C w' → w'.cell? ⟨bo, 2, none⟩ = some va' from fun w' h => by rw [hC] at h; obtain ⟨X, h⟩ := h; exact h.cell rfl)
      have HC2 := Lib.hid (show ∀ X w', Sat W (pts bo (opO code at_ va' t) * X) w' → C w' from fun X w' h => by rw [hC]; exact ⟨X, h⟩)
      have H5 := Lib.hid HX.out.drewD
      clear hC HX hx hb'
      refine wp_region_E C (by kernel_rfl) ?_
      generalize wr.drew = W5 at *
      refine wpE_take (i := 0) (q := 15) (v := ?_) rfl (by kernel_rfl) (by kernel_rfl) (by kernel_rfl) (by kernel_rfl) (by kernel_rfl) (fun _ _ _ h => h) (by rfl) ?_ ?_
      rotate_left 1
      · intro w hw; go_simp; try with_reducible rfl
      refine wpE_take (i := 1) (q := 2) (v := ?_) rfl (by kernel_rfl) (by kernel_rfl) (by kernel_rfl) (by kernel_rfl) (by kernel_rfl) (fun _ _ _ h => h) (by rfl) ?_ ?_
      rotate_left 1
      · intro w hw; go_simp; try with_reducible rfl
      refine wpE_take (i := 2) (q := 3) (v := ?_) rfl (by kernel_rfl) (by kernel_rfl) (by kernel_rfl) (by kernel_rfl) (by kernel_rfl) (fun _ _ _ h => h) (by rfl) ?_ ?_
      rotate_left 1
      · intro w hw; go_simp; try with_reducible rfl
      refine wpE_take (i := 3) (q := 4) (v := ?_) rfl (by kernel_rfl) (by kernel_rfl) (by kernel_rfl) (by kernel_rfl) (by kernel_rfl) (fun _ _ _ h => h) (by rfl) ?_ ?_
      rotate_left 1
      · intro w hw; go_simp; try with_reducible rfl
      refine wpE_take (i := 4) (q := 14) (v := ?_) rfl (by kernel_rfl) (by kernel_rfl) (by kernel_rfl) (by kernel_rfl) (by kernel_rfl) (fun _ _ _ h => h) (by rfl) ?_ ?_
      rotate_left 1
      · intro w hw; (have q4 := HC.out _ hw; go_simp; try with_reducible rfl)
      refine wpE_take (i := 5) (q := 12) (v := ?_) rfl (by kernel_rfl) (by kernel_rfl) (by kernel_rfl) (by kernel_rfl) (by kernel_rfl) (fun _ _ _ h => h) (by rfl) ?_ ?_
      rotate_left 1
      · intro w hw; go_simp; try with_reducible rfl
      refine wpE_take (i := 6) (q := 9) (v := ?_) rfl (by kernel_rfl) (by kernel_rfl) (by kernel_rfl) (by kernel_rfl) (by kernel_rfl) (fun _ _ _ h => h) (by rfl) ?_ ?_
      rotate_left 1
      · intro w hw; go_simp; try with_reducible rfl
      refine wpE_take (i := 7) (q := 8) (v := ?_) rfl (by kernel_rfl) (by kernel_rfl) (by kernel_rfl) (by kernel_rfl) (by kernel_rfl) (fun _ _ _ h => h) (by rfl) ?_ ?_
      rotate_left 1
      · intro w hw; go_simp; try with_reducible rfl
      refine wpE_take (i := 8) (q := 9) (v := ?_) rfl (by kernel_rfl) (by kernel_rfl) (by kernel_rfl) (by kernel_rfl) (by kernel_rfl) (fun _ _ _ h => h) (by rfl) ?_ ?_
      rotate_left 1
      · intro w hw; go_simp; try with_reducible rfl
      refine wpE_take (i := 9) (q := 12) (v := ?_) rfl (by kernel_rfl) (by kernel_rfl) (by kernel_rfl) (by kernel_rfl) (by kernel_rfl) (fun _ _ _ h => h) (by rfl) ?_ ?_
      rotate_left 1
      · intro w hw; go_simp; try with_reducible rfl
      refine wpE_take (i := 10) (q := 11) (v := ?_) rfl (by kernel_rfl) (by kernel_rfl) (by kernel_rfl) (by kernel_rfl) (by kernel_rfl) (fun _ _ _ h => h) (by rfl) ?_ ?_
      rotate_left 1
      · intro w hw; go_simp; try with_reducible rfl
      refine wpE_take (i := 11) (q := 12) (v := ?_) rfl (by kernel_rfl) (by kernel_rfl) (by kernel_rfl) (by kernel_rfl) (by kernel_rfl) (fun _ _ _ h => h) (by rfl) ?_ ?_
      rotate_left 1
      · intro w hw; go_simp; try with_reducible rfl
      refine wpE_one (i := 12) rfl (by kernel_rfl) (HC2.out _ _ H5.out.sat) (fun K hK => ?_)
      go_simp
      refine Calls.mono HNM.out ?_
      rintro e w6 ⟨rfl, h6⟩
      obtain ⟨y, hy⟩ : ∃ y, sgnV z.natAbs (decide (z < 0)) (g.num z.natAbs 0).1 = y := ⟨_, rfl⟩
      obtain ⟨g2, hg2⟩ : ∃ g2, (g.num z.natAbs 0).2 = g2 := ⟨_, rfl⟩
      rw [hy, hg2] at HG2
      rw [hy]
      rw [hg2] at h6
      have H6 := Lib.hid h6
      clear h6 HNM H5 hy hg2
      go_simp
      refine hK _ _ ?_
      clear hK K
      refine wpE_one (i := 13) rfl (by kernel_rfl) (HC2.out _ _ H6.out.sat) (fun K hK => ?_)
      go_simp
      refine hK _ _ ?_
      clear hK K
      obtain ⟨Y, h7, back⟩ := H6.out.focus
      have h8 := h7.alloc (.cells #[.int .i64 y] 3)
      have H8 := Lib.hid (h8.of_eq (show _ = rowI va' acc' * (pts w6.heap.size (.cells #[.int .i64 y] 3) * (pts bo (opO code at_ va' t) * (A * Y))) by ac_rfl))
      have HRD := Lib.hid (show Rd (w6.alloc (.cells #[.int .i64 y] 3)) (.slice (some ⟨w6.heap.size, 0, none⟩) 1 1) 1 1 [.int .i64 y] from ⟨rfl, by simp [maxLen], _, _, rfl, fun j u hu => ⟨_, _, rfl, by
        cases j with
        | zero => simp at hu; subst hu; exact h8.cell rfl
        | succ j => simp at hu⟩⟩)
      have HBK := Lib.hid back
      clear h7 h8 back H6
      generalize hW8 : w6.alloc (.cells #[.int .i64 y] 3) = W8 at *
      generalize w6.heap.size = b27 at *
      refine wpE_one (i := 14) rfl (by kernel_rfl) (HC2.out _ _ (H8.out.r.r)) (fun K hK => ?_)
      refine step_append_rd rfl _ _ 31 rfl i0 _ 8 Try.underlying31 HI.out HZ0.out HZ1.out HZ2.out rfl (by omega) rfl H8.out (.slice (some ⟨b27, 0, none⟩) 1 1) 1 [.int .i64 y] rfl HRD.out (by simp [Value.oneCell']) (by simp [maxLen]; omega) (by omega) ?_
      intro v1 w9 h9 _
      obtain ⟨a1, c1, hv1, -⟩ := h9.row_val
      subst hv1
      have H9 := Lib.hid (h9.of_eq (show _ = pts bo (opO code at_ va' t) * (rowI (.slice a1 (acc'.length + 1) c1) (acc' ++ [y]) * (pts b27 (.cells #[.int .i64 y] 3) * (A * Y))) by
        unfold rowI intsL
        rw [List.length_append, List.map_append, List.length_singleton]
        simp only [List.map_cons, List.map_nil]
        ac_rfl))
      clear h9 H8 HRD
      go_simp
      refine hK _ _ ?_
      clear hK K
      refine wpE_take (i := 15) (q := 16) (v := ?_) rfl (by kernel_rfl) (by kernel_rfl) (by kernel_rfl) (by kernel_rfl) (by kernel_rfl) (fun _ _ _ h => h) (by rfl) ?_ ?_
      rotate_left 1
      · intro w hw; go_simp; try with_reducible rfl
      refine wpE_take (i := 16) (q := 17) (v := ?_) rfl (by kernel_rfl) (by kernel_rfl) (by kernel_rfl) (by kernel_rfl) (by kernel_rfl) (fun _ _ _ h => h) (by rfl) ?_ ?_
      rotate_left 1
      · intro w hw; go_simp; try with_reducible rfl
      have ob := H9.out.lt
      have of := H9.out.free (i := 2)
      have oc := H9.out.cell (i := 2) rfl
      have h10 := H9.out.set (i := 2) (v := .slice a1 (acc'.length + 1) c1)
      refine wpE_one (i := 17) rfl (by kernel_rfl) (HC2.out _ _ H9.out) (fun K hK => ?_)
      go_simp
      refine hK _ _ ?_
      clear hK K
      refine wpE_done (by kernel_rfl) (by kernel_rfl) ?_
      have H11 := Lib.hid (HBK.out _ _ (h10.of_eq (show _ = ((pts bo (opO code at_ (.slice a1 (acc'.length + 1) c1) t) * (rowI (.slice a1 (acc'.length + 1) c1) (acc' ++ [y]) * A)) * Y) * pts b27 (.cells #[.int .i64 y] 3) by ac_rfl)).l)
      clear h10 H9 ob of oc
      go_wp2
      go_roundg (n - (k + 1))
      case measure => omega
      case rel => exact ⟨k + 1, acc' ++ [y], g2, _, by omega, rfl, by go_num, HG2.out, by rw [List.length_append, List.length_singleton, HLA.out]; omega, H11.out⟩
    · obtain rfl : n = k := by omega
      have hg := HG.out
      rw [List.drop_of_length_le (by rw [HN.out]; exact Nat.le_refl _)] at hg
      have hg2 : (acc', g) = rr := hg
      subst hg2
      go_wp2
      exact ⟨rfl, .tuple #[], by unfold results; go_simp, rfl, va', HX.out⟩

end Go.Proofs.Ytjeinldhbajknaa
