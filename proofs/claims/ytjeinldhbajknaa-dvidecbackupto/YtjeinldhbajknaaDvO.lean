
/-
  A command outside of pages. Conditions: those that each theorem names.
-/
import Derived.Test.YtjeinldhbajknaaDvN
namespace Go.Proofs.Ytjeinldhbajknaa
open Go.RowKit Go.Sp Go.Conc
variable {W w w' : World} {A : HProp}

set_option maxRecDepth 100000 in
set_option maxHeartbeats 4000000 in
theorem out_page {b : Nat} {F : FileM} (o : Cmd) (va : Value) (c : Nat) (hc : o.code = c) (hb : c = 139) (hp : (F.part == 0) = true) (hl : 10 < o.args.length) (hpb : 0 ≤ F.pages ∧ F.pages ≤ 4000000000) (hr : Rd w va o.args.length 1 (intsL o.args)) (h : FileAt W A b F w) :
    Calls Try.prog 33 #[.pointer (some ⟨b, 0, none⟩), o.val va] w fun e w' => e = .returned (.tuple #[]) ∧ FileAt W A b ({ F.fail (!(o.args.getD 10 0 == F.last)) with last := o.at_, part := 1, stack := 0, some_ := false, pages := F.pages + 1 }) w' := by
  obtain ⟨hr1, hr2, a, cap, hva, hat⟩ := hr
  subst hva
  have hx := h.allocX (.cells #[.int .i64 o.code, .int .i64 o.at_, .slice a o.args.length cap, .string ⟨o.text.toArray⟩] 33)
  obtain ⟨b3, hb3⟩ : ∃ b3, w.heap.size = b3 := ⟨_, rfl⟩
  rw [hb3] at hx
  have HX := Lib.hid hx
  have HAT := Lib.hid (show ∀ k x, o.args[k]? = some x → ∃ g off, a = some ⟨g, off, none⟩ ∧ w.cell? ⟨g, off + k, none⟩ = some (.int .i64 x) from fun k x hk => hat k (.int .i64 x) (by simp [hk]))
  have HRD := Lib.hid (show Rd w (.slice a o.args.length cap) o.args.length 1 (intsL o.args) from ⟨hr1, hr2, a, cap, rfl, hat⟩)
  have q0 := hx.sat.cell (i := 0) rfl
  have q2 := hx.sat.cell (i := 2) rfl
  have ql := hx.sat.lt
  have HEX := Lib.hid (show Ext w _ from (Ext.refl w).alloc (o := .cells #[.int .i64 o.code, .int .i64 o.at_, .slice a o.args.length cap, .string ⟨o.text.toArray⟩] 33))
  unfold Cmd.val
  clear hr1 hr2 hat hx h
  have HCC := Lib.hid hc
  clear hc
  subst hb
  go_enter Try.func33, Try.ntmps33
  go_upto_region 1 with fail
  generalize w.alloc (.cells #[.int .i64 o.code, .int .i64 o.at_, .slice a o.args.length cap, .string ⟨o.text.toArray⟩] 33) = W1 at *
  clear hb3
  rw [HCC.out] at q0
  obtain ⟨x0, hx0⟩ : ∃ x, o.args[10]? = some x := ⟨_, List.getElem?_eq_getElem hl⟩
  obtain ⟨g, off, ha, v0⟩ := HAT.out 10 x0 hx0
  subst ha
  have V1 := Lib.hid (HEX.out.cell v0)
  have HGD := Lib.hid (show o.args.getD 10 0 = x0 by simp [List.getD, hx0])
  have i0 : (10 : Int) < (o.args.length : Int) := by omega
  have k4 : W1.cell? ⟨b, 4, none⟩ = some (.int .i64 F.part) ∧ b < W1.heap.size := by
    obtain ⟨m', fb', tb', nt', ov', av', pv', V', h1', h2⟩ := HX.out
    exact ⟨h2.cell rfl, h2.lt⟩
  obtain ⟨k4, kl⟩ := k4
  have HF := Lib.hid (fail_any (!(x0 == F.last)) HX.out.drewD)
  obtain ⟨F2, hF2⟩ : ∃ F2, F.fail (!(x0 == F.last)) = F2 := ⟨_, rfl⟩
  rw [hF2] at HF
  have HF2 := Lib.hid hF2
  have hpg : F2.pages = F.pages := by rw [← hF2]; unfold FileM.fail; split <;> rfl
  have HPG := Lib.hid hpg
  obtain ⟨m', fb', tb', nt', ov', av', pv', V', h1', h2⟩ := HX.out.drewD
  obtain ⟨C, hC⟩ : ∃ C : World → Prop, C = fun w' => ∃ X, Sat W (pts b (fileO ov' fb' av' tb' F pv') * X) w' ∧ Ext W1 w' ∧ w'.cell? ⟨b3, 2, none⟩ = some (.slice (some ⟨g, off, none⟩) o.args.length cap) := ⟨_, rfl⟩
  have HC := Lib.hid (show ∀ w', C w' → w'.cell? ⟨b, 6, none⟩ = some (.int .i64 F.last) ∧ w'.cell? ⟨b3, 2, none⟩ = some (.slice (some ⟨g, off, none⟩) o.args.length cap) ∧ w'.cell? ⟨g, off + 10, none⟩ = some (.int .i64 x0) from fun w' h => by
    rw [hC] at h
    obtain ⟨X, h, h3, h4⟩ := h
    exact ⟨h.cell rfl, h4, h3.cell V1.out⟩)
  have hcw : C W1.drew := by
    rw [hC]
    exact ⟨_, h2, (Ext.refl W1).drew, ((Ext.refl W1).drew).cell q2⟩
  have HCW := Lib.hid hcw
  clear hC hcw h1' h2 hx0 v0 hF2 hpg
  go_upto_region 7 with fail
  clear k4 kl q0 q2 ql
  refine wp_region_E C (by kernel_rfl) ?_
  generalize W1.drew = W2 at *
  refine wpE_take (i := 0) (q := 10) (v := ?_) rfl (by kernel_rfl) (by kernel_rfl) (by kernel_rfl) (by kernel_rfl) (by kernel_rfl) (fun _ _ _ h => h) (by kernel_rfl) ?_ ?_
  rotate_left 1
  · intro w hw; obtain ⟨q5, q6, q7⟩ := HC.out _ hw; go_simp; try with_reducible rfl
  refine wpE_take (i := 1) (q := 2) (v := ?_) rfl (by kernel_rfl) (by kernel_rfl) (by kernel_rfl) (by kernel_rfl) (by kernel_rfl) (fun _ _ _ h => h) (by kernel_rfl) ?_ ?_
  rotate_left 1
  · intro w hw; obtain ⟨q5, q6, q7⟩ := HC.out _ hw; go_simp; try with_reducible rfl
  refine wpE_take (i := 2) (q := 3) (v := ?_) rfl (by kernel_rfl) (by kernel_rfl) (by kernel_rfl) (by kernel_rfl) (by kernel_rfl) (fun _ _ _ h => h) (by kernel_rfl) ?_ ?_
  rotate_left 1
  · intro w hw; obtain ⟨q5, q6, q7⟩ := HC.out _ hw; go_simp; try with_reducible rfl
  refine wpE_take (i := 3) (q := 4) (v := ?_) rfl (by kernel_rfl) (by kernel_rfl) (by kernel_rfl) (by kernel_rfl) (by kernel_rfl) (fun _ _ _ h => h) (by kernel_rfl) ?_ ?_
  rotate_left 1
  · intro w hw; obtain ⟨q5, q6, q7⟩ := HC.out _ hw; go_simp; try with_reducible rfl
  refine wpE_take (i := 4) (q := 9) (v := ?_) rfl (by kernel_rfl) (by kernel_rfl) (by kernel_rfl) (by kernel_rfl) (by kernel_rfl) (fun _ _ _ h => h) (by kernel_rfl) ?_ ?_
  rotate_left 1
  · intro w hw; obtain ⟨q5, q6, q7⟩ := HC.out _ hw; go_simp; try with_reducible rfl
  refine wpE_take (i := 5) (q := 6) (v := ?_) rfl (by kernel_rfl) (by kernel_rfl) (by kernel_rfl) (by kernel_rfl) (by kernel_rfl) (fun _ _ _ h => h) (by kernel_rfl) ?_ ?_
  rotate_left 1
  · intro w hw; obtain ⟨q5, q6, q7⟩ := HC.out _ hw; go_simp; try with_reducible rfl
  refine wpE_take (i := 6) (q := 7) (v := ?_) rfl (by kernel_rfl) (by kernel_rfl) (by kernel_rfl) (by kernel_rfl) (by kernel_rfl) (fun _ _ _ h => h) (by kernel_rfl) ?_ ?_
  rotate_left 1
  · intro w hw; obtain ⟨q5, q6, q7⟩ := HC.out _ hw; go_simp; try with_reducible rfl
  refine wpE_take (i := 7) (q := 8) (v := ?_) rfl (by kernel_rfl) (by kernel_rfl) (by kernel_rfl) (by kernel_rfl) (by kernel_rfl) (fun _ _ _ h => h) (by kernel_rfl) ?_ ?_
  rotate_left 1
  · intro w hw; obtain ⟨q5, q6, q7⟩ := HC.out _ hw; go_simp; try with_reducible rfl
  refine wpE_take (i := 8) (q := 9) (v := ?_) rfl (by kernel_rfl) (by kernel_rfl) (by kernel_rfl) (by kernel_rfl) (by kernel_rfl) (fun _ _ _ h => h) (by kernel_rfl) ?_ ?_
  rotate_left 1
  · intro w hw; obtain ⟨q5, q6, q7⟩ := HC.out _ hw; go_simp; try with_reducible rfl
  refine wpE_take (i := 9) (q := 10) (v := ?_) rfl (by kernel_rfl) (by kernel_rfl) (by kernel_rfl) (by kernel_rfl) (by kernel_rfl) (fun _ _ _ h => h) (by kernel_rfl) ?_ ?_
  rotate_left 1
  · intro w hw; obtain ⟨q5, q6, q7⟩ := HC.out _ hw; go_simp; try with_reducible rfl
  refine wpE_one (i := 10) rfl (by kernel_rfl) (HCW.out) (fun K hK => ?_)
  go_simp
  refine Calls.mono HF.out ?_
  rintro e w3 ⟨rfl, h3⟩
  have H3 := Lib.hid h3
  clear h3 HF
  go_simp
  refine hK _ _ ?_
  clear hK K
  refine wpE_done (by kernel_rfl) (by kernel_rfl) ?_
  clear HC HCW HX
  have y1 := H3.out.sat.cell (i := 1) rfl
  have yl := H3.out.sat.lt
  obtain ⟨m2, fb2, tb2, nt2, ov2, av2, pv2, V2, h1, h2⟩ := H3.out
  have c4 := h2.cell (i := 4) rfl
  have c5 := h2.cell (i := 5) rfl
  have c6 := h2.cell (i := 6) rfl
  have c7 := h2.cell (i := 7) rfl
  have c10 := h2.cell (i := 10) rfl
  have f4 := h2.free (i := 4)
  have f5 := h2.free (i := 5)
  have f6 := h2.free (i := 6)
  have f7 := h2.free (i := 7)
  have f10 := h2.free (i := 10)
  have bl := h2.lt
  have hwk : IntKind.i64.wrap (F2.pages + 1) = F2.pages + 1 := IntWalk.i64_in _ (by rw [HPG.out]; omega)
  have h3 := ((((h2.set (i := 6) (v := .int .i64 (o.at_ : Int))).set (i := 4) (v := .int .i64 1)).set (i := 7) (v := .int .i64 0)).set (i := 10) (v := .bool false)).set (i := 5) (v := .int .i64 (F2.pages + 1))
  have H4 := Lib.hid (show FileAt W (pts b3 (.cells #[.int .i64 o.code, .int .i64 o.at_, .slice (some ⟨g, off, none⟩) o.args.length cap, .string ⟨o.text.toArray⟩] 33) * A) b { F2 with last := o.at_, part := 1, stack := 0, some_ := false, pages := F2.pages + 1 } _ from ⟨m2, fb2, tb2, nt2, ov2, av2, pv2, V2, h1, h3⟩)
  clear h1 h2 h3 H3
  go_wp2
  exact ⟨rfl, .tuple #[], by unfold results; go_simp, rfl, by rw [HGD.out, HF2.out, ← HPG.out]; exact H4.out.less⟩


end Go.Proofs.Ytjeinldhbajknaa
