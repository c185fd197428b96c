
/-
  The end's beginning, outside of pages (248). Conditions: those that each theorem names.
-/
import Derived.Test.YtjeinldhbajknaaDvO
namespace Go.Proofs.Ytjeinldhbajknaa
open Go.RowKit Go.Sp Go.Conc
variable {W w w' : World} {A : HProp}

/-- a file in block b, one of whose commands is o, with its numbers in va -/
def FileHas (W : World) (A : HProp) (b : Nat) (F : FileM) (o : Cmd) (va : Value) (w : World) : Prop :=
  ∃ (m : Nat → Option Obj) (fb tb nt : Nat) (ov av pv : Value) (V : List (Cmd × Value)),
    (V.map Prod.fst = F.ops ∧ (argsH V m ∧ ∀ x ∈ F.keep, x ∈ V) ∧ PostIn V F pv) ∧ (o, va) ∈ V ∧
    Sat W (pts b (fileO ov fb av tb F pv) * (roH m * (row ov V.length 33 4 (flatO V) * (mapE (Value.int .i64) DefM.val fb F.nf F.fonts * (row av F.again.length 56 5 (flatD F.again) * (mapE (Value.int .i64) (Value.int .i64) tb nt F.told * A)))))) w
theorem load_op {w : World} {b : Nat} {l1 l2 : Int} {v : Value} {t : ByteArray} (h0 : w.cell? ⟨b, 0, none⟩ = some (.int .i64 l1)) (h1 : w.cell? ⟨b, 1, none⟩ = some (.int .i64 l2)) (h2 : w.cell? ⟨b, 2, none⟩ = some v) (h3 : w.cell? ⟨b, 3, none⟩ = some (.string t)) :
    (Instr.loadAt 33 (.pointer (some ⟨b, 0, none⟩))).run Try.prog w = .ok (.agg #[.int .i64 l1, .int .i64 l2, v, .string t]) w :=
  run_loadAt_mid (P := Try.prog) w b 0 33 [.int .i64 l1, .int .i64 l2, v, .string t] _ (fun j u hj => by
    rcases j with _ | _ | _ | _ | j <;> simp at hj <;> subst hj <;> assumption) Try.underlying33 rfl (by kernel_rfl)
set_option maxRecDepth 100000 in
set_option maxHeartbeats 4000000 in
theorem out_post {b : Nat} {F : FileM} (o : Cmd) (va : Value) (hc : o.code = 248) (hp : (F.part == 0) = true) (h : FileHas W A b F o va w) :
    Calls Try.prog 33 #[.pointer (some ⟨b, 0, none⟩), o.val va] w fun e w' => e = .returned (.tuple #[]) ∧ FileAt W A b { F with part := 2, post := o } w' := by
  obtain ⟨m, fb, tb, nt, ov, av, pv, V, ⟨h1, h2, h3⟩, hmem, hs⟩ := h
  have hrd := hs.r.args_rd h2.1 hmem
  obtain ⟨_, _, a, cap, hva, -⟩ := hrd
  simp only at hva
  subst hva
  have HRM := Lib.hid hmem
  have HVV := Lib.hid (show V.map Prod.fst = F.ops ∧ (argsH V m ∧ ∀ x ∈ F.keep, x ∈ V) from ⟨h1, h2⟩)
  have hx := hs.alloc (.cells #[.int .i64 o.code, .int .i64 o.at_, .slice a o.args.length cap, .string ⟨o.text.toArray⟩] 33)
  obtain ⟨b3, hb3⟩ : ∃ b3, w.heap.size = b3 := ⟨_, rfl⟩
  rw [hb3] at hx
  have HX := Lib.hid hx
  have q0 := hx.cell (i := 0) rfl
  have ql := hx.lt
  have k4 := hx.r.cell (i := 4) rfl
  have kl := hx.r.lt
  unfold Cmd.val
  have HHC := Lib.hid hc
  clear h1 h2 h3 hmem hs hx hc
  go_enter Try.func33, Try.ntmps33
  go_upto_region 1 with fail
  generalize w.alloc (.cells #[.int .i64 o.code, .int .i64 o.at_, .slice a o.args.length cap, .string ⟨o.text.toArray⟩] 33) = W1 at *
  clear hb3
  obtain ⟨C, hC⟩ : ∃ C : World → Prop, C = fun w' => ∃ X, Sat W (pts b3 (.cells #[.int .i64 o.code, .int .i64 o.at_, .slice a o.args.length cap, .string ⟨o.text.toArray⟩] 33) * X) w' := ⟨_, rfl⟩
  have HC := Lib.hid (show ∀ w', C w' → (Instr.loadAt 33 (.pointer (some ⟨b3, 0, none⟩))).run Try.prog w' = .ok (.agg #[.int .i64 o.code, .int .i64 o.at_, .slice a o.args.length cap, .string ⟨o.text.toArray⟩]) w' from fun w' h => by
    rw [hC] at h
    obtain ⟨X, h⟩ := h
    exact load_op (h.cell rfl) (h.cell rfl) (h.cell rfl) (h.cell rfl))
  have HC2 := Lib.hid (show ∀ X w', Sat W (pts b3 (.cells #[.int .i64 o.code, .int .i64 o.at_, .slice a o.args.length cap, .string ⟨o.text.toArray⟩] 33) * X) w' → C w' from fun X w' h => by rw [hC]; exact ⟨X, h⟩)
  clear hC
  rw [HHC.out] at q0
  go_upto_region 12 with fail
  have H2 := Lib.hid HX.out.drew
  clear HX q0 ql k4 kl
  refine wp_region_C C (by kernel_rfl) ?_
  generalize W1.drew = W2 at *
  refine wpC_take (i := 0) (v := ?_) rfl (by kernel_rfl) (by kernel_rfl) (by kernel_rfl) (fun _ _ _ h => h) (by kernel_rfl) ?_ ?_
  rotate_left 1
  · intro w hw; go_simp; try with_reducible rfl
  refine wpC_take (i := 1) (v := ?_) rfl (by kernel_rfl) (by kernel_rfl) (by kernel_rfl) (fun _ _ _ h => h) (by kernel_rfl) ?_ ?_
  rotate_left 1
  · intro w hw; go_simp; try with_reducible rfl
  refine wpC_take (i := 2) (v := .agg #[.int .i64 o.code, .int .i64 o.at_, .slice a o.args.length cap, .string ⟨o.text.toArray⟩]) rfl (by kernel_rfl) (by kernel_rfl) (by kernel_rfl) (fun _ _ _ h => h) (by kernel_rfl) (fun w hw => ?_) ?_
  · refine exec_load_m 33 (.tmp 3) rfl b3 0 ?_ _ (HC.out _ hw)
    kernel_rfl
  refine wpC_take (i := 3) (v := ?_) rfl (by kernel_rfl) (by kernel_rfl) (by kernel_rfl) (fun _ _ _ h => h) (by kernel_rfl) ?_ ?_
  rotate_left 1
  · intro w hw; go_simp; try with_reducible rfl
  refine wpC_take (i := 4) (v := ?_) rfl (by kernel_rfl) (by kernel_rfl) (by kernel_rfl) (fun _ _ _ h => h) (by kernel_rfl) ?_ ?_
  rotate_left 1
  · intro w hw; go_simp; try with_reducible rfl
  have p4 := H2.out.r.cell (i := 4) rfl
  have pl := H2.out.r.lt
  have pf := H2.out.r.free (i := 4)
  have h3 := H2.out.rot.set (i := 4) (v := .int .i64 2)
  have H3 := Lib.hid h3
  clear h3
  refine wpC_one (i := 5) rfl (by kernel_rfl) (HC2.out _ _ H2.out) (fun K hK => ?_)
  go_simp
  refine hK _ _ ?_
  clear hK K p4 pl pf H2
  refine wpC_take (i := 6) (v := ?_) rfl (by kernel_rfl) (by kernel_rfl) (by kernel_rfl) (fun _ _ _ h => h) (by kernel_rfl) ?_ ?_
  rotate_left 1
  · intro w hw; go_simp; try with_reducible rfl
  refine wpC_take (i := 7) (v := ?_) rfl (by kernel_rfl) (by kernel_rfl) (by kernel_rfl) (fun _ _ _ h => h) (by kernel_rfl) ?_ ?_
  rotate_left 1
  · intro w hw; go_simp; try with_reducible rfl
  have h4 := H3.out
  have c11 := h4.cell (i := 11) rfl
  have c12 := h4.cell (i := 12) rfl
  have c13 := h4.cell (i := 13) rfl
  have c14 := h4.cell (i := 14) rfl
  have f11 := h4.free (i := 11)
  have f12 := h4.free (i := 12)
  have f13 := h4.free (i := 13)
  have f14 := h4.free (i := 14)
  have bl := h4.lt
  have h5 := (((h4.set (i := 11) (v := .int .i64 (o.code : Int))).set (i := 12) (v := .int .i64 (o.at_ : Int))).set (i := 13) (v := .slice a o.args.length cap)).set (i := 14) (v := .string ⟨o.text.toArray⟩)
  have H5 := Lib.hid h5
  have HCW := Lib.hid (HC2.out _ _ h4.rot)
  clear h4 h5 H3
  refine wpC_one (i := 8) rfl (by kernel_rfl) (HCW.out) (fun K hK => ?_)
  go_simp
  refine hK _ _ ?_
  clear hK K c11 c12 c13 c14 f11 f12 f13 f14 bl
  have H6 := Lib.hid (show Sat W (pts b (fileO ov fb av tb { F with part := 2, post := o } (.slice a o.args.length cap)) * (pts b3 (.cells #[.int .i64 o.code, .int .i64 o.at_, .slice a o.args.length cap, .string ⟨o.text.toArray⟩] 33) * _)) _ from H5.out)
  refine wpC_done (by kernel_rfl) (HC2.out _ _ H6.out.rot) ?_
  have H7 := Lib.hid H6.out.rot.r
  clear H5 H6 HC HC2 HCW
  (try go_wp2)
  exact ⟨rfl, .tuple #[], by unfold results; go_simp, rfl, m, fb, tb, nt, ov, av, .slice a o.args.length cap, V, ⟨HVV.out.1, HVV.out.2, .inl HRM.out⟩, H7.out⟩

end Go.Proofs.Ytjeinldhbajknaa
