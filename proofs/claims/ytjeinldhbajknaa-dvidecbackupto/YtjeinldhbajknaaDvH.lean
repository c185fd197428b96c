
/-
  A font's definition, made of a command; a font is chosen. Conditions: those that each theorem names.
-/
import Derived.Test.YtjeinldhbajknaaDvG
namespace Go.Proofs.Ytjeinldhbajknaa
open Go.RowKit Go.Sp Go.Conc
variable {W w w' : World} {A : HProp}

def Cmd.def_ (o : Cmd) : DefM := ⟨o.args.getD 0 0, o.args.getD 1 0, o.args.getD 2 0, o.args.getD 3 0, ⟨o.text.toArray⟩⟩

set_option maxRecDepth 100000 in
set_option maxHeartbeats 4000000 in
theorem def_any (o : Cmd) (va : Value) (hl : 4 ≤ o.args.length) (hr : Rd w va o.args.length 1 (intsL o.args)) :
    Calls Try.prog 52 #[o.val va] w fun e w' => e = .returned o.def_.val ∧ Ext w w' := by
  obtain ⟨hr1, hr2, a, cap, hva, hat⟩ := hr
  subst hva
  obtain ⟨g, off, ha, v0⟩ := hat 0 (.int .i64 (o.args.getD 0 0)) (by simp [List.getD]; rw [List.getElem?_eq_getElem (by omega)]; rfl)
  subst ha
  obtain ⟨g1, off1, ha, v1⟩ := hat 1 (.int .i64 (o.args.getD 1 0)) (by simp [List.getD]; rw [List.getElem?_eq_getElem (by omega)]; rfl)
  cases ha
  obtain ⟨g1, off1, ha, v2⟩ := hat 2 (.int .i64 (o.args.getD 2 0)) (by simp [List.getD]; rw [List.getElem?_eq_getElem (by omega)]; rfl)
  cases ha
  obtain ⟨g1, off1, ha, v3⟩ := hat 3 (.int .i64 (o.args.getD 3 0)) (by simp [List.getD]; rw [List.getElem?_eq_getElem (by omega)]; rfl)
  cases ha
  rw [Nat.add_zero] at v0
  have hs := ((Sat.start w).alloc (.cells #[.int .i64 o.code, .int .i64 o.at_, .slice (some ⟨g, off, none⟩) o.args.length cap, .string ⟨o.text.toArray⟩] 33)).alloc (.cells #[.int .i64 0, .int .i64 0, .int .i64 0, .int .i64 0, .string ⟨#[]⟩] 56)
  rw [show (w.alloc (.cells #[.int .i64 o.code, .int .i64 o.at_, .slice (some ⟨g, off, none⟩) o.args.length cap, .string ⟨o.text.toArray⟩] 33)).heap.size = w.heap.size + 1 by simp] at hs
  obtain ⟨bz, hbz⟩ : ∃ bz, w.heap.size = bz := ⟨_, rfl⟩
  rw [hbz] at hs
  have HS := Lib.hid (hs.of_eq (show _ = pts (bz + 1) (.cells #[.int .i64 0, .int .i64 0, .int .i64 0, .int .i64 0, .string ⟨#[]⟩] 56) * (pts bz (.cells #[.int .i64 o.code, .int .i64 o.at_, .slice (some ⟨g, off, none⟩) o.args.length cap, .string ⟨o.text.toArray⟩] 33) * own w) by ac_rfl)).drew
  have hx0 : o.def_ = ⟨o.args.getD 0 0, o.args.getD 1 0, o.args.getD 2 0, o.args.getD 3 0, ⟨o.text.toArray⟩⟩ := rfl
  rw [hx0]
  unfold DefM.val Cmd.val
  simp only
  obtain ⟨n, hn⟩ : ∃ n, o.args.length = n := ⟨_, rfl⟩
  have h0 : 0 < n := by omega
  have h1 : 1 < n := by omega
  have h2 : 2 < n := by omega
  have h3 : 3 < n := by omega
  have i0 : (0 : Int) < (n : Int) := by omega
  have i1 : (1 : Int) < (n : Int) := by omega
  have i2 : (2 : Int) < (n : Int) := by omega
  have i3 : (3 : Int) < (n : Int) := by omega
  rw [hn] at HS
  rw [hn]
  generalize o.args.getD 0 0 = x0 at *
  generalize o.args.getD 1 0 = x1 at *
  generalize o.args.getD 2 0 = x2 at *
  generalize o.args.getD 3 0 = x3 at *
  generalize (⟨o.text.toArray⟩ : ByteArray) = tx at *
  have V0 := Lib.hid v0
  have V1 := Lib.hid v1
  have V2 := Lib.hid v2
  have V3 := Lib.hid v3
  clear hat hr1 hr2 hs hl hn v0 v1 v2 v3
  go_enter Try.func52, Try.ntmps52
  go_upto_region 1 with fail
  generalize ((w.alloc _).alloc _) = W1 at *
  obtain ⟨C, hC⟩ : ∃ C : World → Prop, C = fun w' => Sat w (pts (bz + 1) (.cells #[.int .i64 0, .int .i64 0, .int .i64 0, .int .i64 0, .string ⟨#[]⟩] 56) * (pts bz (.cells #[.int .i64 o.code, .int .i64 o.at_, .slice (some ⟨g, off, none⟩) n cap, .string tx] 33) * own w)) w' := ⟨_, rfl⟩
  have HC := Lib.hid (show ∀ w', C w' → w'.cell? ⟨bz, 2, none⟩ = some (.slice (some ⟨g, off, none⟩) n cap) ∧ w'.cell? ⟨bz, 3, none⟩ = some (.string tx) ∧ w'.cell? ⟨g, off, none⟩ = some (.int .i64 x0) ∧ w'.cell? ⟨g, off + 1, none⟩ = some (.int .i64 x1) ∧ w'.cell? ⟨g, off + 2, none⟩ = some (.int .i64 x2) ∧ w'.cell? ⟨g, off + 3, none⟩ = some (.int .i64 x3) from fun w' h => by
    rw [hC] at h
    exact ⟨h.r.cell rfl, h.r.cell rfl, h.r.r.toExt.cell V0.out, h.r.r.toExt.cell V1.out, h.r.r.toExt.cell V2.out, h.r.r.toExt.cell V3.out⟩)
  have hCw : C W1.drew := by rw [hC]; exact HS.out
  have HCW := Lib.hid hCw
  clear hC hCw
  refine wp_region_E C (by kernel_rfl) ?_
  generalize W1.drew = W2 at *
  refine wpE_take (i := 0) (q := 1) (v := ?_) rfl (by kernel_rfl) (by kernel_rfl) (by kernel_rfl) (by kernel_rfl) (by kernel_rfl) (fun _ _ _ h => h) (by kernel_rfl) ?_ ?_
  rotate_left 1
  · intro w hw; obtain ⟨q1, q2, q3, q4, q5, q6⟩ := HC.out _ hw; go_simp; try with_reducible rfl
  refine wpE_take (i := 1) (q := 2) (v := ?_) rfl (by kernel_rfl) (by kernel_rfl) (by kernel_rfl) (by kernel_rfl) (by kernel_rfl) (fun _ _ _ h => h) (by kernel_rfl) ?_ ?_
  rotate_left 1
  · intro w hw; obtain ⟨q1, q2, q3, q4, q5, q6⟩ := HC.out _ hw; go_simp; try with_reducible rfl
  refine wpE_take (i := 2) (q := 3) (v := ?_) rfl (by kernel_rfl) (by kernel_rfl) (by kernel_rfl) (by kernel_rfl) (by kernel_rfl) (fun _ _ _ h => h) (by kernel_rfl) ?_ ?_
  rotate_left 1
  · intro w hw; obtain ⟨q1, q2, q3, q4, q5, q6⟩ := HC.out _ hw; go_simp; try with_reducible rfl
  refine wpE_take (i := 3) (q := 18) (v := ?_) rfl (by kernel_rfl) (by kernel_rfl) (by kernel_rfl) (by kernel_rfl) (by kernel_rfl) (fun _ _ _ h => h) (by kernel_rfl) ?_ ?_
  rotate_left 1
  · intro w hw; obtain ⟨q1, q2, q3, q4, q5, q6⟩ := HC.out _ hw; go_simp; try with_reducible rfl
  refine wpE_take (i := 4) (q := 5) (v := ?_) rfl (by kernel_rfl) (by kernel_rfl) (by kernel_rfl) (by kernel_rfl) (by kernel_rfl) (fun _ _ _ h => h) (by kernel_rfl) ?_ ?_
  rotate_left 1
  · intro w hw; obtain ⟨q1, q2, q3, q4, q5, q6⟩ := HC.out _ hw; go_simp; try with_reducible rfl
  refine wpE_take (i := 5) (q := 6) (v := ?_) rfl (by kernel_rfl) (by kernel_rfl) (by kernel_rfl) (by kernel_rfl) (by kernel_rfl) (fun _ _ _ h => h) (by kernel_rfl) ?_ ?_
  rotate_left 1
  · intro w hw; obtain ⟨q1, q2, q3, q4, q5, q6⟩ := HC.out _ hw; go_simp; try with_reducible rfl
  refine wpE_take (i := 6) (q := 7) (v := ?_) rfl (by kernel_rfl) (by kernel_rfl) (by kernel_rfl) (by kernel_rfl) (by kernel_rfl) (fun _ _ _ h => h) (by kernel_rfl) ?_ ?_
  rotate_left 1
  · intro w hw; obtain ⟨q1, q2, q3, q4, q5, q6⟩ := HC.out _ hw; go_simp; try with_reducible rfl
  refine wpE_take (i := 7) (q := 18) (v := ?_) rfl (by kernel_rfl) (by kernel_rfl) (by kernel_rfl) (by kernel_rfl) (by kernel_rfl) (fun _ _ _ h => h) (by kernel_rfl) ?_ ?_
  rotate_left 1
  · intro w hw; obtain ⟨q1, q2, q3, q4, q5, q6⟩ := HC.out _ hw; go_simp; try with_reducible rfl
  refine wpE_take (i := 8) (q := 9) (v := ?_) rfl (by kernel_rfl) (by kernel_rfl) (by kernel_rfl) (by kernel_rfl) (by kernel_rfl) (fun _ _ _ h => h) (by kernel_rfl) ?_ ?_
  rotate_left 1
  · intro w hw; obtain ⟨q1, q2, q3, q4, q5, q6⟩ := HC.out _ hw; go_simp; try with_reducible rfl
  refine wpE_take (i := 9) (q := 10) (v := ?_) rfl (by kernel_rfl) (by kernel_rfl) (by kernel_rfl) (by kernel_rfl) (by kernel_rfl) (fun _ _ _ h => h) (by kernel_rfl) ?_ ?_
  rotate_left 1
  · intro w hw; obtain ⟨q1, q2, q3, q4, q5, q6⟩ := HC.out _ hw; go_simp; try with_reducible rfl
  refine wpE_take (i := 10) (q := 11) (v := ?_) rfl (by kernel_rfl) (by kernel_rfl) (by kernel_rfl) (by kernel_rfl) (by kernel_rfl) (fun _ _ _ h => h) (by kernel_rfl) ?_ ?_
  rotate_left 1
  · intro w hw; obtain ⟨q1, q2, q3, q4, q5, q6⟩ := HC.out _ hw; go_simp; try with_reducible rfl
  refine wpE_take (i := 11) (q := 18) (v := ?_) rfl (by kernel_rfl) (by kernel_rfl) (by kernel_rfl) (by kernel_rfl) (by kernel_rfl) (fun _ _ _ h => h) (by kernel_rfl) ?_ ?_
  rotate_left 1
  · intro w hw; obtain ⟨q1, q2, q3, q4, q5, q6⟩ := HC.out _ hw; go_simp; try with_reducible rfl
  refine wpE_take (i := 12) (q := 13) (v := ?_) rfl (by kernel_rfl) (by kernel_rfl) (by kernel_rfl) (by kernel_rfl) (by kernel_rfl) (fun _ _ _ h => h) (by kernel_rfl) ?_ ?_
  rotate_left 1
  · intro w hw; obtain ⟨q1, q2, q3, q4, q5, q6⟩ := HC.out _ hw; go_simp; try with_reducible rfl
  refine wpE_take (i := 13) (q := 14) (v := ?_) rfl (by kernel_rfl) (by kernel_rfl) (by kernel_rfl) (by kernel_rfl) (by kernel_rfl) (fun _ _ _ h => h) (by kernel_rfl) ?_ ?_
  rotate_left 1
  · intro w hw; obtain ⟨q1, q2, q3, q4, q5, q6⟩ := HC.out _ hw; go_simp; try with_reducible rfl
  refine wpE_take (i := 14) (q := 15) (v := ?_) rfl (by kernel_rfl) (by kernel_rfl) (by kernel_rfl) (by kernel_rfl) (by kernel_rfl) (fun _ _ _ h => h) (by kernel_rfl) ?_ ?_
  rotate_left 1
  · intro w hw; obtain ⟨q1, q2, q3, q4, q5, q6⟩ := HC.out _ hw; go_simp; try with_reducible rfl
  refine wpE_take (i := 15) (q := 18) (v := ?_) rfl (by kernel_rfl) (by kernel_rfl) (by kernel_rfl) (by kernel_rfl) (by kernel_rfl) (fun _ _ _ h => h) (by kernel_rfl) ?_ ?_
  rotate_left 1
  · intro w hw; obtain ⟨q1, q2, q3, q4, q5, q6⟩ := HC.out _ hw; go_simp; try with_reducible rfl
  refine wpE_take (i := 16) (q := 17) (v := ?_) rfl (by kernel_rfl) (by kernel_rfl) (by kernel_rfl) (by kernel_rfl) (by kernel_rfl) (fun _ _ _ h => h) (by kernel_rfl) ?_ ?_
  rotate_left 1
  · intro w hw; obtain ⟨q1, q2, q3, q4, q5, q6⟩ := HC.out _ hw; go_simp; try with_reducible rfl
  refine wpE_take (i := 17) (q := 18) (v := ?_) rfl (by kernel_rfl) (by kernel_rfl) (by kernel_rfl) (by kernel_rfl) (by kernel_rfl) (fun _ _ _ h => h) (by kernel_rfl) ?_ ?_
  rotate_left 1
  · intro w hw; obtain ⟨q1, q2, q3, q4, q5, q6⟩ := HC.out _ hw; go_simp; try with_reducible rfl
  refine wpE_take (i := 18) (q := 19) (v := ?_) rfl (by kernel_rfl) (by kernel_rfl) (by kernel_rfl) (by kernel_rfl) (by kernel_rfl) (fun _ _ _ h => h) (by kernel_rfl) ?_ ?_
  rotate_left 1
  · intro w hw; obtain ⟨q1, q2, q3, q4, q5, q6⟩ := HC.out _ hw; go_simp; try with_reducible rfl
  have y0 := HS.out.cell (i := 0) rfl
  have y1 := HS.out.cell (i := 1) rfl
  have y2 := HS.out.cell (i := 2) rfl
  have y3 := HS.out.cell (i := 3) rfl
  have y4 := HS.out.cell (i := 4) rfl
  have z0 := HS.out.free (i := 0)
  have z1 := HS.out.free (i := 1)
  have z2 := HS.out.free (i := 2)
  have z3 := HS.out.free (i := 3)
  have z4 := HS.out.free (i := 4)
  have zl := HS.out.lt
  have h9 := ((((HS.out.set (i := 0) (v := .int .i64 x0)).set (i := 1) (v := .int .i64 x1)).set (i := 2) (v := .int .i64 x2)).set (i := 3) (v := .int .i64 x3)).set (i := 4) (v := .string tx)
  have u0 := h9.cell (i := 0) rfl
  have H9 := Lib.hid h9
  clear h9 u0
  refine wpE_one (i := 19) rfl (by kernel_rfl) (HCW.out) (fun K hK => ?_)
  go_simp
  refine hK _ _ ?_
  clear hK K
  refine wpE_done (by kernel_rfl) (by kernel_rfl) ?_
  go_wp2
  (try simp only [Exit.inBlock, Exit.then])
  refine bodyPost_ret (v := .agg #[.int .i64 x0, .int .i64 x1, .int .i64 x2, .int .i64 x3, .string tx]) (by unfold results; go_simp) rfl ?_
  exact ⟨rfl, H9.out.r.r.toExt⟩

end Go.Proofs.Ytjeinldhbajknaa
