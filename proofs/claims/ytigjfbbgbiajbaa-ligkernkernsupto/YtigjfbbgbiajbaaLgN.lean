/-
  A step of the machine. Conditions: those that each theorem names.
-/
import Derived.Test.YtigjfbbgbiajbaaLgL
namespace Go.Proofs.Ytigjfbbgbiajbaa
open Go.RowKit Go.Sp
variable {w W : World} {x : FV} {F : Fnt} {A : HProp}

def kernOf (F : Fnt) (s : Stp) : Int := F.kerns.getD (256 * (s.op.toNat - 128) + s.rest.toNat) 0
def stepM (F : Fnt) (xm ym : Mk) : List Mk :=
  match findM F xm.c ym.c with
  | none => [xm, ym]
  | some s => if 128 ≤ s.op.toNat then [xm, ⟨-2, 0, false, kernOf F s, true⟩, ym] else [⟨s.rest.toNat, ym.n + xm.n, true, 0, false⟩]
/-- the last mark that was passed, in memory -/
theorem MAtV.last {b : Nat} {dv : Value} {D T : List Mk} {xm : Mk} (h : MAtV W A b x F dv (D ++ [xm]) T w) : ∃ g cap, dv = .slice (some ⟨g, 0, none⟩) (D.length + 1) cap ∧ w.cell? ⟨b, 0, none⟩ = some dv ∧
    w.cell? ⟨g, D.length * 5, none⟩ = some (.int .i64 xm.c) ∧ w.cell? ⟨g, D.length * 5 + 1, none⟩ = some (.int .i64 xm.n) ∧ w.cell? ⟨g, D.length * 5 + 2, none⟩ = some (.bool xm.made) ∧ w.cell? ⟨g, D.length * 5 + 3, none⟩ = some (.int .i64 xm.kern) ∧ w.cell? ⟨g, D.length * 5 + 4, none⟩ = some (.bool xm.space) ∧ b < w.heap.size ∧ g < w.heap.size := by
  obtain ⟨tv, h⟩ := h
  obtain ⟨g, cap, e, -, -, lg, h5⟩ := rowK_last h.r
  exact ⟨g, cap, e, h.cell rfl, h5.1, h5.2.1, h5.2.2.1, h5.2.2.2.1, h5.2.2.2.2, h.lt, lg⟩
theorem MAtV.box {b b4 : Nat} {dv : Value} {D T : List Mk} {o : Obj} (h : MAtV W (pts b4 o * A) b x F dv D T w) : ∃ Y, Sat W (pts b4 o * Y) w ∧ ∀ o' w', Sat W (pts b4 o' * Y) w' → MAtV W (pts b4 o' * A) b x F dv D T w' := by
  obtain ⟨Y, h1, h2⟩ := h.frame
  exact ⟨A * Y, h1.of_eq (by ac_rfl), fun o' w' h' => h2 _ w' (h'.of_eq (by ac_rfl))⟩
theorem class2 (W : World) (b b4 b5 : Nat) (x : FV) (F : Fnt) (dv : Value) (D T : List Mk) (xm ym : Mk) : ∃ C : World → Prop, (∀ w', C w' → (w'.cell? ⟨b, 2, none⟩ = some (.int .u32 F.check) ∧ w'.cell? ⟨b, 3, none⟩ = some (.int .i64 F.design) ∧ w'.cell? ⟨b, 4, none⟩ = some (.int .i64 F.first) ∧
      w'.cell? ⟨b, 5, none⟩ = some x.cv ∧ w'.cell? ⟨b, 6, none⟩ = some x.sv ∧ w'.cell? ⟨b, 7, none⟩ = some x.kv ∧ w'.cell? ⟨b, 8, none⟩ = some x.pv ∧ w'.cell? ⟨b, 9, none⟩ = some x.rv ∧ w'.cell? ⟨b, 10, none⟩ = some (.int .i64 (edgeM F))) ∧
      b < w'.heap.size ∧ w'.cell? ⟨b4, 0, none⟩ = some (.int .i64 xm.c) ∧ w'.cell? ⟨b5, 0, none⟩ = some (.int .i64 ym.c)) ∧
    ∀ A' w', MAtV W (pts b4 xm.box * (pts b5 ym.box * A')) b x F dv D T w' → C w' := by
  refine ⟨fun w' => ∃ A', MAtV W (pts b4 xm.box * (pts b5 ym.box * A')) b x F dv D T w', ?_, fun A' w' h => ⟨A', h⟩⟩
  rintro w' ⟨A', tv, h⟩
  have h2 := h.r.r.r
  exact ⟨⟨h.cell rfl, h.cell rfl, h.cell rfl, h.cell rfl, h.cell rfl, h.cell rfl, h.cell rfl, h.cell rfl, h.cell rfl⟩, h.lt, h2.cell rfl, h2.r.cell rfl⟩
theorem MAtV.own1 {b : Nat} {dv : Value} {D T : List Mk} {P1 P2 : HProp} (h : MAtV W (P1 * (P2 * (A * own W))) b x F dv D T w) : Sat W (own W) w := by
  obtain ⟨Y, h1, -⟩ := h.frame
  exact (h1.of_eq (show _ = own W * (P1 * (P2 * (A * Y))) by ac_rfl)).l
theorem MAtV.own2 {b : Nat} {dv : Value} {D T : List Mk} {P0 P1 P2 : HProp} (h : MAtV W (P0 * (P1 * (P2 * (A * own W)))) b x F dv D T w) : Sat W (own W) w := by
  obtain ⟨Y, h1, -⟩ := h.frame
  exact (h1.of_eq (show _ = own W * (P0 * (P1 * (P2 * (A * Y)))) by ac_rfl)).l
theorem MAt.drop3 {b : Nat} {D T : List Mk} {P0 P1 P2 : HProp} (h : MAt W (P0 * (P1 * (P2 * A))) b x F D T w) : MAt W A b x F D T w := by
  obtain ⟨dv, tv, h⟩ := h
  exact ⟨dv, tv, (h.of_eq (show _ = P0 * (P1 * (P2 * (pts b (F.mbox x dv tv) * (rowK dv D * (rowK tv T * A))))) by ac_rfl)).r.r.r⟩
set_option maxRecDepth 100000 in
set_option maxHeartbeats 8000000 in
theorem stepm_any {b : Nat} {D T : List Mk} {xm ym : Mk} (hrd : RdF W x F) (hok : FOk F) (hsp : xm.space = false) (hxc : -1 ≤ xm.c ∧ xm.c ≤ 256) (hxn : 0 ≤ xm.n ∧ xm.n ≤ 1000000) (hyn : 0 ≤ ym.n ∧ ym.n ≤ 1000000)
    (hD : D.length ≤ 900000) (hT : T.length ≤ 900000) (hl : ∀ s, findM F xm.c ym.c = some s → s.op.toNat < 128 → s.op.toNat = 0) (h : MAt W (A * own W) b x F (D ++ [xm]) (T ++ [ym]) w) :
    Calls Try.prog 33 #[.pointer (some ⟨b, 0, none⟩)] w fun e w' => e = .returned (.bool true) ∧ MAt W (A * own W) b x F (D ++ stepM F xm ym) T w' := by
  obtain ⟨dv, h⟩ := h.v
  have HM := Lib.hid h
  obtain ⟨g, cap, hdv, c0, k0, k1, k2, k3, k4, lb, lg⟩ := h.last
  have c1 : ∃ tv c, w.cell? ⟨b, 1, none⟩ = some (.slice tv (T.length + 1) c) := by
    obtain ⟨tv, h9⟩ := h
    obtain ⟨a, c, hv, -⟩ := (rowK_rd (h9.of_eq (show _ = rowK tv (T ++ [ym]) * (pts b (F.mbox x dv tv) * (rowK dv (D ++ [xm]) * (A * own W))) by ac_rfl))).val
    rw [List.length_append, List.length_singleton] at hv
    exact ⟨a, c, by rw [h9.cell rfl, ← hv]; rfl⟩
  obtain ⟨ta, tc, c1⟩ := c1
  subst hdv
  have HD := Lib.hid hD
  have HT := Lib.hid hT
  obtain ⟨n, hn⟩ : ∃ n, D.length = n := ⟨_, rfl⟩
  have HN := Lib.hid hn
  rw [hn] at c0 k0 k1 k2 k3 k4 HM hD
  obtain ⟨tn, htn⟩ : ∃ tn, T.length = tn := ⟨_, rfl⟩
  rw [htn] at c1 hT
  obtain ⟨x1, x2, x3, x4, x5⟩ := xm
  obtain ⟨y1, y2, y3, y4, y5⟩ := ym
  simp only at hsp hxc hxn hyn hl k0 k1 k2 k3 k4
  subst hsp
  have HXC := Lib.hid hxc
  have HXN := Lib.hid hxn
  have HYN := Lib.hid hyn
  have HLL := Lib.hid hl
  have wn1 : IntKind.i64.wrap ((n : Int) + 1 - 1) = n := by rw [show (n : Int) + 1 - 1 = n by omega]; exact IntWalk.i64_in _ (by omega)
  have wn2 : wrap64 ((n : Int) + 1 - 1) = n := by unfold wrap64; omega
  have wn4 : (n : Int) < (n : Int) + 1 := by omega
  have tn1 : ((tn : Int) + 1 == 0) = false := beq_eq_false_iff_ne.2 (by omega)
  have hcl : ∃ C : World → Prop, (∀ w', C w' → w'.cell? ⟨b, 0, none⟩ = some (.slice (some ⟨g, 0, none⟩) (n + 1) cap) ∧ w'.cell? ⟨g, n * 5, none⟩ = some (.int .i64 x1) ∧ w'.cell? ⟨g, n * 5 + 1, none⟩ = some (.int .i64 x2) ∧ w'.cell? ⟨g, n * 5 + 2, none⟩ = some (.bool x3) ∧ w'.cell? ⟨g, n * 5 + 3, none⟩ = some (.int .i64 x4) ∧ w'.cell? ⟨g, n * 5 + 4, none⟩ = some (.bool false) ∧ b < w'.heap.size ∧ g < w'.heap.size) ∧
      ∀ A' T' w', MAtV W A' b x F (.slice (some ⟨g, 0, none⟩) (n + 1) cap) (D ++ [(⟨x1, x2, x3, x4, false⟩ : Mk)]) T' w' → C w' := by
    refine ⟨fun w' => ∃ A' T', MAtV W A' b x F (.slice (some ⟨g, 0, none⟩) (n + 1) cap) (D ++ [(⟨x1, x2, x3, x4, false⟩ : Mk)]) T' w', ?_, fun A' T' w' h => ⟨A', T', h⟩⟩
    rintro w' ⟨A', T', h⟩
    obtain ⟨g', cap', e, h1, h2, h3, h4, h5, h6, h7, h8⟩ := h.last
    simp only [Value.slice.injEq, Option.some.injEq, Addr.mk.injEq, and_true] at e
    obtain ⟨rfl, -, rfl⟩ := e
    rw [hn] at h2 h3 h4 h5 h6
    exact ⟨h1, h2, h3, h4, h5, h6, h7, h8⟩
  obtain ⟨C, hc1, hc2⟩ := hcl
  have HC := Lib.hid hc1
  have HC2 := Lib.hid hc2
  clear h hn htn hxc hxn hyn hl hc1 hc2
  go_enter Try.func33, Try.ntmps33
  go_wp2_with fail
  go_loopg [3] 1 (fun gg s3 wx => s3 = .int .i64 n ∧ wx = w)
  case atStart => exact ⟨by first | rfl | (simp only [wn2]), rfl⟩
  case round =>
    obtain ⟨rfl, rfl⟩ := hrel
    go_upto_region 6 with fail
    clear c0 c1 k0 k1 k2 k3 k4 lb lg
    go_cut [4, 5] from 33 to 44 (fun s4 s5 wx => ∃ b4 b5 : Nat, s4 = .pointer (some ⟨b4, 0, none⟩) ∧ s5 = .pointer (some ⟨b5, 0, none⟩) ∧ MAtV W (pts b4 (Mk.box ⟨x1, x2, x3, x4, false⟩) * (pts b5 (Mk.box ⟨y1, y2, y3, y4, y5⟩) * (A * own W))) b x F (.slice (some ⟨g, 0, none⟩) (n + 1) cap) (D ++ [(⟨x1, x2, x3, x4, false⟩ : Mk)]) T wx)
    case first =>
      refine wp_region_E C (by kernel_rfl) ?_
      obtain ⟨W9, hW9⟩ : ∃ W9, wr.drew = W9 := ⟨_, rfl⟩
      have h9 := HM.out.ext ((Ext.refl wr).drew)
      rw [hW9] at h9
      rw [hW9]
      have H9 := Lib.hid h9
      clear h9 hW9
      refine wpE_take (i := 0) (q := 1) (v := ?_) rfl (by kernel_rfl) (by kernel_rfl) (by kernel_rfl) (by kernel_rfl) (by kernel_rfl) (fun _ _ _ h => h) (by rfl) ?_ ?_
      rotate_left 1
      · intro w hw; (obtain ⟨p0, q0, q1, q2, q3, q4, pl, pg⟩ := HC.out _ hw; go_simp; try with_reducible rfl)
      refine wpE_take (i := 1) (q := 2) (v := ?_) rfl (by kernel_rfl) (by kernel_rfl) (by kernel_rfl) (by kernel_rfl) (by kernel_rfl) (fun _ _ _ h => h) (by rfl) ?_ ?_
      rotate_left 1
      · intro w hw; (obtain ⟨p0, q0, q1, q2, q3, q4, pl, pg⟩ := HC.out _ hw; go_simp; try with_reducible rfl)
      refine wpE_take (i := 2) (q := 3) (v := ?_) rfl (by kernel_rfl) (by kernel_rfl) (by kernel_rfl) (by kernel_rfl) (by kernel_rfl) (fun _ _ _ h => h) (by rfl) ?_ ?_
      rotate_left 1
      · intro w hw; (obtain ⟨p0, q0, q1, q2, q3, q4, pl, pg⟩ := HC.out _ hw; go_simp; try with_reducible rfl)
      refine wpE_take (i := 3) (q := 4) (v := ?_) rfl (by kernel_rfl) (by kernel_rfl) (by kernel_rfl) (by kernel_rfl) (by kernel_rfl) (fun _ _ _ h => h) (by rfl) ?_ ?_
      rotate_left 1
      · intro w hw; (obtain ⟨p0, q0, q1, q2, q3, q4, pl, pg⟩ := HC.out _ hw; go_simp; try with_reducible rfl)
      refine wpE_take (i := 4) (q := 6) (v := ?_) rfl (by kernel_rfl) (by kernel_rfl) (by kernel_rfl) (by kernel_rfl) (by kernel_rfl) (fun _ _ _ h => h) (by rfl) ?_ ?_
      rotate_left 1
      · intro w hw; (obtain ⟨p0, q0, q1, q2, q3, q4, pl, pg⟩ := HC.out _ hw; go_simp; try with_reducible rfl)
      refine wpE_take (i := 5) (q := 6) (v := ?_) rfl (by kernel_rfl) (by kernel_rfl) (by kernel_rfl) (by kernel_rfl) (by kernel_rfl) (fun _ _ _ h => h) (by rfl) ?_ ?_
      rotate_left 1
      · intro w hw; (obtain ⟨p0, q0, q1, q2, q3, q4, pl, pg⟩ := HC.out _ hw; go_simp; try with_reducible rfl)
      refine wpE_take (i := 6) (q := 7) (v := ?_) rfl (by kernel_rfl) (by kernel_rfl) (by kernel_rfl) (by kernel_rfl) (by kernel_rfl) (fun _ _ _ h => h) (by rfl) ?_ ?_
      rotate_left 1
      · intro w hw; (obtain ⟨p0, q0, q1, q2, q3, q4, pl, pg⟩ := HC.out _ hw; go_simp; try with_reducible rfl)
      refine wpE_take (i := 7) (q := 14) (v := ?_) rfl (by kernel_rfl) (by kernel_rfl) (by kernel_rfl) (by kernel_rfl) (by kernel_rfl) (fun _ _ _ h => h) (by rfl) ?_ ?_
      rotate_left 1
      · intro w hw; (obtain ⟨p0, q0, q1, q2, q3, q4, pl, pg⟩ := HC.out _ hw; go_simp; try with_reducible rfl)
      refine wpE_take (i := 8) (q := 9) (v := ?_) rfl (by kernel_rfl) (by kernel_rfl) (by kernel_rfl) (by kernel_rfl) (by kernel_rfl) (fun _ _ _ h => h) (by rfl) ?_ ?_
      rotate_left 1
      · intro w hw; (obtain ⟨p0, q0, q1, q2, q3, q4, pl, pg⟩ := HC.out _ hw; go_simp; try with_reducible rfl)
      refine wpE_take (i := 9) (q := 10) (v := ?_) rfl (by kernel_rfl) (by kernel_rfl) (by kernel_rfl) (by kernel_rfl) (by kernel_rfl) (fun _ _ _ h => h) (by rfl) ?_ ?_
      rotate_left 1
      · intro w hw; (obtain ⟨p0, q0, q1, q2, q3, q4, pl, pg⟩ := HC.out _ hw; go_simp; try with_reducible rfl)
      refine wpE_take (i := 10) (q := 11) (v := ?_) rfl (by kernel_rfl) (by kernel_rfl) (by kernel_rfl) (by kernel_rfl) (by kernel_rfl) (fun _ _ _ h => h) (by rfl) ?_ ?_
      rotate_left 1
      · intro w hw; (obtain ⟨p0, q0, q1, q2, q3, q4, pl, pg⟩ := HC.out _ hw; go_simp; try with_reducible rfl)
      have HS := H9
      clear H9
      refine wpE_ready (rs := [11, 12, 13]) (by kernel_rfl) (by simp) (HC2.out _ _ _ HS.out) ?_
      refine AllReadyE.cons rfl (fun K hK => ?_) ?_
      · skip
        go_simp
        with_reducible refine Calls.mono (nextV_any ⟨y1, y2, y3, y4, y5⟩ (by have := HT.out; omega) HS.out) ?_
        rintro e w11 ⟨rfl, hs⟩
        have HS := Lib.hid hs
        clear hs
        go_simp
        refine hK _ _ ?_
        clear hK K
        refine wpE_ready (rs := [12, 13]) (by kernel_rfl) (by simp) (HC2.out _ _ _ HS.out) ?_
        refine AllReadyE.cons rfl (fun K hK => ?_) ?_
        · skip
          go_simp
          refine hK _ _ ?_
          clear hK K
          have hs := HS.out.alloc mk0.box
          obtain ⟨b4, hB⟩ : ∃ B, (w11).heap.size = B := ⟨_, rfl⟩
          obtain ⟨w12, hWN⟩ : ∃ WN, (w11).alloc mk0.box = WN := ⟨_, rfl⟩
          rw [hB, hWN] at hs
          rw [hB, show (w11).alloc (.cells #[.int .i64 0, .int .i64 0, .bool false, .int .i64 0, .bool false] 58) = w12 from hWN]
          have HS := Lib.hid hs
          clear hs hB hWN
          refine wpE_one (i := 13) rfl (by kernel_rfl) (HC2.out _ _ _ HS.out) (fun K hK => ?_)
          go_simp
          refine hK _ _ ?_
          clear hK K
          have hs := HS.out.alloc mk0.box
          obtain ⟨b5, hB⟩ : ∃ B, (w12).heap.size = B := ⟨_, rfl⟩
          obtain ⟨w13, hWN⟩ : ∃ WN, (w12).alloc mk0.box = WN := ⟨_, rfl⟩
          rw [hB, hWN] at hs
          rw [hB, show (w12).alloc (.cells #[.int .i64 0, .int .i64 0, .bool false, .int .i64 0, .bool false] 58) = w13 from hWN]
          have HS := Lib.hid hs
          clear hs hB hWN
          have hz := HS.out.of_eq (show _ = pts b4 mk0.box * (pts b5 mk0.box * (A * own W)) by ac_rfl)
          obtain ⟨Y, s1, back⟩ := hz.box
          have j0 := s1.cell (i := 0) rfl
          have j1 := s1.cell (i := 1) rfl
          have j2 := s1.cell (i := 2) rfl
          have j3 := s1.cell (i := 3) rfl
          have j4 := s1.cell (i := 4) rfl
          have jl := s1.lt
          have f0 := s1.free (i := 0)
          have f1 := s1.free (i := 1)
          have f2 := s1.free (i := 2)
          have f3 := s1.free (i := 3)
          have f4 := s1.free (i := 4)
          have hz2 := back _ _ (sat_set5 s1 (.int .i64 x1) (.int .i64 x2) (.bool x3) (.int .i64 x4) (.bool false))
          have HCW := Lib.hid (HC2.out _ _ _ HS.out)
          have HZ2 := Lib.hid hz2
          clear hz s1 back hz2 HS
          refine wpE_one (i := 14) rfl (by kernel_rfl) (HCW.out) (fun K hK => ?_)
          go_simp
          refine hK _ _ ?_
          clear hK K j0 j1 j2 j3 j4 jl f0 f1 f2 f3 f4 HCW
          obtain ⟨W14, hW14⟩ : ∃ W14, (((((w13).setCell ⟨b4, 0, none⟩ (.int .i64 x1)).setCell ⟨b4, 1, none⟩ (.int .i64 x2)).setCell ⟨b4, 2, none⟩ (.bool x3)).setCell ⟨b4, 3, none⟩ (.int .i64 x4)).setCell ⟨b4, 4, none⟩ (.bool false) = W14 := ⟨_, rfl⟩
          rw [hW14]
          have hz2 := HZ2.out
          rw [hW14] at hz2
          obtain ⟨Y, s1, back⟩ := (hz2.of_eq (show _ = pts b5 mk0.box * (pts b4 (Mk.box ⟨x1, x2, x3, x4, false⟩) * (A * own W)) by ac_rfl)).box
          have j0 := s1.cell (i := 0) rfl
          have j1 := s1.cell (i := 1) rfl
          have j2 := s1.cell (i := 2) rfl
          have j3 := s1.cell (i := 3) rfl
          have j4 := s1.cell (i := 4) rfl
          have jl := s1.lt
          have f0 := s1.free (i := 0)
          have f1 := s1.free (i := 1)
          have f2 := s1.free (i := 2)
          have f3 := s1.free (i := 3)
          have f4 := s1.free (i := 4)
          have hz3 := back _ _ (sat_set5 s1 (.int .i64 y1) (.int .i64 y2) (.bool y3) (.int .i64 y4) (.bool y5))
          have HCW := Lib.hid (HC2.out _ _ _ hz2)
          have HZ3 := Lib.hid hz3
          clear s1 back hz2 hz3 HZ2 hW14
          refine wpE_one (i := 15) rfl (by kernel_rfl) (HCW.out) (fun K hK => ?_)
          go_simp
          refine hK _ _ ?_
          clear hK K j0 j1 j2 j3 j4 jl f0 f1 f2 f3 f4 HCW
          refine wpE_done (by kernel_rfl) (by kernel_rfl) ?_
          go_wp2
          go_meet
          exact ⟨b4, b5, rfl, rfl, HZ3.out.of_eq (by ac_rfl)⟩
        refine AllReadyE.cons rfl (fun K hK => ?_) ?_
        · skip
          go_simp
          refine hK _ _ ?_
          clear hK K
          have hs := HS.out.alloc mk0.box
          obtain ⟨b5, hB⟩ : ∃ B, (w11).heap.size = B := ⟨_, rfl⟩
          obtain ⟨w13, hWN⟩ : ∃ WN, (w11).alloc mk0.box = WN := ⟨_, rfl⟩
          rw [hB, hWN] at hs
          rw [hB, show (w11).alloc (.cells #[.int .i64 0, .int .i64 0, .bool false, .int .i64 0, .bool false] 58) = w13 from hWN]
          have HS := Lib.hid hs
          clear hs hB hWN
          refine wpE_one (i := 12) rfl (by kernel_rfl) (HC2.out _ _ _ HS.out) (fun K hK => ?_)
          go_simp
          refine hK _ _ ?_
          clear hK K
          have hs := HS.out.alloc mk0.box
          obtain ⟨b4, hB⟩ : ∃ B, (w13).heap.size = B := ⟨_, rfl⟩
          obtain ⟨w12, hWN⟩ : ∃ WN, (w13).alloc mk0.box = WN := ⟨_, rfl⟩
          rw [hB, hWN] at hs
          rw [hB, show (w13).alloc (.cells #[.int .i64 0, .int .i64 0, .bool false, .int .i64 0, .bool false] 58) = w12 from hWN]
          have HS := Lib.hid hs
          clear hs hB hWN
          have hz := HS.out.of_eq (show _ = pts b4 mk0.box * (pts b5 mk0.box * (A * own W)) by ac_rfl)
          obtain ⟨Y, s1, back⟩ := hz.box
          have j0 := s1.cell (i := 0) rfl
          have j1 := s1.cell (i := 1) rfl
          have j2 := s1.cell (i := 2) rfl
          have j3 := s1.cell (i := 3) rfl
          have j4 := s1.cell (i := 4) rfl
          have jl := s1.lt
          have f0 := s1.free (i := 0)
          have f1 := s1.free (i := 1)
          have f2 := s1.free (i := 2)
          have f3 := s1.free (i := 3)
          have f4 := s1.free (i := 4)
          have hz2 := back _ _ (sat_set5 s1 (.int .i64 x1) (.int .i64 x2) (.bool x3) (.int .i64 x4) (.bool false))
          have HCW := Lib.hid (HC2.out _ _ _ HS.out)
          have HZ2 := Lib.hid hz2
          clear hz s1 back hz2 HS
          refine wpE_one (i := 14) rfl (by kernel_rfl) (HCW.out) (fun K hK => ?_)
          go_simp
          refine hK _ _ ?_
          clear hK K j0 j1 j2 j3 j4 jl f0 f1 f2 f3 f4 HCW
          obtain ⟨W14, hW14⟩ : ∃ W14, (((((w12).setCell ⟨b4, 0, none⟩ (.int .i64 x1)).setCell ⟨b4, 1, none⟩ (.int .i64 x2)).setCell ⟨b4, 2, none⟩ (.bool x3)).setCell ⟨b4, 3, none⟩ (.int .i64 x4)).setCell ⟨b4, 4, none⟩ (.bool false) = W14 := ⟨_, rfl⟩
          rw [hW14]
          have hz2 := HZ2.out
          rw [hW14] at hz2
          obtain ⟨Y, s1, back⟩ := (hz2.of_eq (show _ = pts b5 mk0.box * (pts b4 (Mk.box ⟨x1, x2, x3, x4, false⟩) * (A * own W)) by ac_rfl)).box
          have j0 := s1.cell (i := 0) rfl
          have j1 := s1.cell (i := 1) rfl
          have j2 := s1.cell (i := 2) rfl
          have j3 := s1.cell (i := 3) rfl
          have j4 := s1.cell (i := 4) rfl
          have jl := s1.lt
          have f0 := s1.free (i := 0)
          have f1 := s1.free (i := 1)
          have f2 := s1.free (i := 2)
          have f3 := s1.free (i := 3)
          have f4 := s1.free (i := 4)
          have hz3 := back _ _ (sat_set5 s1 (.int .i64 y1) (.int .i64 y2) (.bool y3) (.int .i64 y4) (.bool y5))
          have HCW := Lib.hid (HC2.out _ _ _ hz2)
          have HZ3 := Lib.hid hz3
          clear s1 back hz2 hz3 HZ2 hW14
          refine wpE_one (i := 15) rfl (by kernel_rfl) (HCW.out) (fun K hK => ?_)
          go_simp
          refine hK _ _ ?_
          clear hK K j0 j1 j2 j3 j4 jl f0 f1 f2 f3 f4 HCW
          refine wpE_done (by kernel_rfl) (by kernel_rfl) ?_
          go_wp2
          go_meet
          exact ⟨b4, b5, rfl, rfl, HZ3.out.of_eq (by ac_rfl)⟩
        exact AllReadyE.nil
      refine AllReadyE.cons rfl (fun K hK => ?_) ?_
      · skip
        go_simp
        refine hK _ _ ?_
        clear hK K
        have hs := HS.out.alloc mk0.box
        obtain ⟨b4, hB⟩ : ∃ B, (W9).heap.size = B := ⟨_, rfl⟩
        obtain ⟨w12, hWN⟩ : ∃ WN, (W9).alloc mk0.box = WN := ⟨_, rfl⟩
        rw [hB, hWN] at hs
        rw [hB, show (W9).alloc (.cells #[.int .i64 0, .int .i64 0, .bool false, .int .i64 0, .bool false] 58) = w12 from hWN]
        have HS := Lib.hid hs
        clear hs hB hWN
        refine wpE_ready (rs := [11, 13]) (by kernel_rfl) (by simp) (HC2.out _ _ _ HS.out) ?_
        refine AllReadyE.cons rfl (fun K hK => ?_) ?_
        · skip
          go_simp
          with_reducible refine Calls.mono (nextV_any ⟨y1, y2, y3, y4, y5⟩ (by have := HT.out; omega) HS.out) ?_
          rintro e w11 ⟨rfl, hs⟩
          have HS := Lib.hid hs
          clear hs
          go_simp
          refine hK _ _ ?_
          clear hK K
          refine wpE_one (i := 13) rfl (by kernel_rfl) (HC2.out _ _ _ HS.out) (fun K hK => ?_)
          go_simp
          refine hK _ _ ?_
          clear hK K
          have hs := HS.out.alloc mk0.box
          obtain ⟨b5, hB⟩ : ∃ B, (w11).heap.size = B := ⟨_, rfl⟩
          obtain ⟨w13, hWN⟩ : ∃ WN, (w11).alloc mk0.box = WN := ⟨_, rfl⟩
          rw [hB, hWN] at hs
          rw [hB, show (w11).alloc (.cells #[.int .i64 0, .int .i64 0, .bool false, .int .i64 0, .bool false] 58) = w13 from hWN]
          have HS := Lib.hid hs
          clear hs hB hWN
          have hz := HS.out.of_eq (show _ = pts b4 mk0.box * (pts b5 mk0.box * (A * own W)) by ac_rfl)
          obtain ⟨Y, s1, back⟩ := hz.box
          have j0 := s1.cell (i := 0) rfl
          have j1 := s1.cell (i := 1) rfl
          have j2 := s1.cell (i := 2) rfl
          have j3 := s1.cell (i := 3) rfl
          have j4 := s1.cell (i := 4) rfl
          have jl := s1.lt
          have f0 := s1.free (i := 0)
          have f1 := s1.free (i := 1)
          have f2 := s1.free (i := 2)
          have f3 := s1.free (i := 3)
          have f4 := s1.free (i := 4)
          have hz2 := back _ _ (sat_set5 s1 (.int .i64 x1) (.int .i64 x2) (.bool x3) (.int .i64 x4) (.bool false))
          have HCW := Lib.hid (HC2.out _ _ _ HS.out)
          have HZ2 := Lib.hid hz2
          clear hz s1 back hz2 HS
          refine wpE_one (i := 14) rfl (by kernel_rfl) (HCW.out) (fun K hK => ?_)
          go_simp
          refine hK _ _ ?_
          clear hK K j0 j1 j2 j3 j4 jl f0 f1 f2 f3 f4 HCW
          obtain ⟨W14, hW14⟩ : ∃ W14, (((((w13).setCell ⟨b4, 0, none⟩ (.int .i64 x1)).setCell ⟨b4, 1, none⟩ (.int .i64 x2)).setCell ⟨b4, 2, none⟩ (.bool x3)).setCell ⟨b4, 3, none⟩ (.int .i64 x4)).setCell ⟨b4, 4, none⟩ (.bool false) = W14 := ⟨_, rfl⟩
          rw [hW14]
          have hz2 := HZ2.out
          rw [hW14] at hz2
          obtain ⟨Y, s1, back⟩ := (hz2.of_eq (show _ = pts b5 mk0.box * (pts b4 (Mk.box ⟨x1, x2, x3, x4, false⟩) * (A * own W)) by ac_rfl)).box
          have j0 := s1.cell (i := 0) rfl
          have j1 := s1.cell (i := 1) rfl
          have j2 := s1.cell (i := 2) rfl
          have j3 := s1.cell (i := 3) rfl
          have j4 := s1.cell (i := 4) rfl
          have jl := s1.lt
          have f0 := s1.free (i := 0)
          have f1 := s1.free (i := 1)
          have f2 := s1.free (i := 2)
          have f3 := s1.free (i := 3)
          have f4 := s1.free (i := 4)
          have hz3 := back _ _ (sat_set5 s1 (.int .i64 y1) (.int .i64 y2) (.bool y3) (.int .i64 y4) (.bool y5))
          have HCW := Lib.hid (HC2.out _ _ _ hz2)
          have HZ3 := Lib.hid hz3
          clear s1 back hz2 hz3 HZ2 hW14
          refine wpE_one (i := 15) rfl (by kernel_rfl) (HCW.out) (fun K hK => ?_)
          go_simp
          refine hK _ _ ?_
          clear hK K j0 j1 j2 j3 j4 jl f0 f1 f2 f3 f4 HCW
          refine wpE_done (by kernel_rfl) (by kernel_rfl) ?_
          go_wp2
          go_meet
          exact ⟨b4, b5, rfl, rfl, HZ3.out.of_eq (by ac_rfl)⟩
        refine AllReadyE.cons rfl (fun K hK => ?_) ?_
        · skip
          go_simp
          refine hK _ _ ?_
          clear hK K
          have hs := HS.out.alloc mk0.box
          obtain ⟨b5, hB⟩ : ∃ B, (w12).heap.size = B := ⟨_, rfl⟩
          obtain ⟨w13, hWN⟩ : ∃ WN, (w12).alloc mk0.box = WN := ⟨_, rfl⟩
          rw [hB, hWN] at hs
          rw [hB, show (w12).alloc (.cells #[.int .i64 0, .int .i64 0, .bool false, .int .i64 0, .bool false] 58) = w13 from hWN]
          have HS := Lib.hid hs
          clear hs hB hWN
          refine wpE_one (i := 11) rfl (by kernel_rfl) (HC2.out _ _ _ HS.out) (fun K hK => ?_)
          go_simp
          with_reducible refine Calls.mono (nextV_any ⟨y1, y2, y3, y4, y5⟩ (by have := HT.out; omega) HS.out) ?_
          rintro e w11 ⟨rfl, hs⟩
          have HS := Lib.hid hs
          clear hs
          go_simp
          refine hK _ _ ?_
          clear hK K
          have hz := HS.out.of_eq (show _ = pts b4 mk0.box * (pts b5 mk0.box * (A * own W)) by ac_rfl)
          obtain ⟨Y, s1, back⟩ := hz.box
          have j0 := s1.cell (i := 0) rfl
          have j1 := s1.cell (i := 1) rfl
          have j2 := s1.cell (i := 2) rfl
          have j3 := s1.cell (i := 3) rfl
          have j4 := s1.cell (i := 4) rfl
          have jl := s1.lt
          have f0 := s1.free (i := 0)
          have f1 := s1.free (i := 1)
          have f2 := s1.free (i := 2)
          have f3 := s1.free (i := 3)
          have f4 := s1.free (i := 4)
          have hz2 := back _ _ (sat_set5 s1 (.int .i64 x1) (.int .i64 x2) (.bool x3) (.int .i64 x4) (.bool false))
          have HCW := Lib.hid (HC2.out _ _ _ HS.out)
          have HZ2 := Lib.hid hz2
          clear hz s1 back hz2 HS
          refine wpE_one (i := 14) rfl (by kernel_rfl) (HCW.out) (fun K hK => ?_)
          go_simp
          refine hK _ _ ?_
          clear hK K j0 j1 j2 j3 j4 jl f0 f1 f2 f3 f4 HCW
          obtain ⟨W14, hW14⟩ : ∃ W14, (((((w11).setCell ⟨b4, 0, none⟩ (.int .i64 x1)).setCell ⟨b4, 1, none⟩ (.int .i64 x2)).setCell ⟨b4, 2, none⟩ (.bool x3)).setCell ⟨b4, 3, none⟩ (.int .i64 x4)).setCell ⟨b4, 4, none⟩ (.bool false) = W14 := ⟨_, rfl⟩
          rw [hW14]
          have hz2 := HZ2.out
          rw [hW14] at hz2
          obtain ⟨Y, s1, back⟩ := (hz2.of_eq (show _ = pts b5 mk0.box * (pts b4 (Mk.box ⟨x1, x2, x3, x4, false⟩) * (A * own W)) by ac_rfl)).box
          have j0 := s1.cell (i := 0) rfl
          have j1 := s1.cell (i := 1) rfl
          have j2 := s1.cell (i := 2) rfl
          have j3 := s1.cell (i := 3) rfl
          have j4 := s1.cell (i := 4) rfl
          have jl := s1.lt
          have f0 := s1.free (i := 0)
          have f1 := s1.free (i := 1)
          have f2 := s1.free (i := 2)
          have f3 := s1.free (i := 3)
          have f4 := s1.free (i := 4)
          have hz3 := back _ _ (sat_set5 s1 (.int .i64 y1) (.int .i64 y2) (.bool y3) (.int .i64 y4) (.bool y5))
          have HCW := Lib.hid (HC2.out _ _ _ hz2)
          have HZ3 := Lib.hid hz3
          clear s1 back hz2 hz3 HZ2 hW14
          refine wpE_one (i := 15) rfl (by kernel_rfl) (HCW.out) (fun K hK => ?_)
          go_simp
          refine hK _ _ ?_
          clear hK K j0 j1 j2 j3 j4 jl f0 f1 f2 f3 f4 HCW
          refine wpE_done (by kernel_rfl) (by kernel_rfl) ?_
          go_wp2
          go_meet
          exact ⟨b4, b5, rfl, rfl, HZ3.out.of_eq (by ac_rfl)⟩
        exact AllReadyE.nil
      refine AllReadyE.cons rfl (fun K hK => ?_) ?_
      · skip
        go_simp
        refine hK _ _ ?_
        clear hK K
        have hs := HS.out.alloc mk0.box
        obtain ⟨b5, hB⟩ : ∃ B, (W9).heap.size = B := ⟨_, rfl⟩
        obtain ⟨w13, hWN⟩ : ∃ WN, (W9).alloc mk0.box = WN := ⟨_, rfl⟩
        rw [hB, hWN] at hs
        rw [hB, show (W9).alloc (.cells #[.int .i64 0, .int .i64 0, .bool false, .int .i64 0, .bool false] 58) = w13 from hWN]
        have HS := Lib.hid hs
        clear hs hB hWN
        refine wpE_ready (rs := [11, 12]) (by kernel_rfl) (by simp) (HC2.out _ _ _ HS.out) ?_
        refine AllReadyE.cons rfl (fun K hK => ?_) ?_
        · skip
          go_simp
          with_reducible refine Calls.mono (nextV_any ⟨y1, y2, y3, y4, y5⟩ (by have := HT.out; omega) HS.out) ?_
          rintro e w11 ⟨rfl, hs⟩
          have HS := Lib.hid hs
          clear hs
          go_simp
          refine hK _ _ ?_
          clear hK K
          refine wpE_one (i := 12) rfl (by kernel_rfl) (HC2.out _ _ _ HS.out) (fun K hK => ?_)
          go_simp
          refine hK _ _ ?_
          clear hK K
          have hs := HS.out.alloc mk0.box
          obtain ⟨b4, hB⟩ : ∃ B, (w11).heap.size = B := ⟨_, rfl⟩
          obtain ⟨w12, hWN⟩ : ∃ WN, (w11).alloc mk0.box = WN := ⟨_, rfl⟩
          rw [hB, hWN] at hs
          rw [hB, show (w11).alloc (.cells #[.int .i64 0, .int .i64 0, .bool false, .int .i64 0, .bool false] 58) = w12 from hWN]
          have HS := Lib.hid hs
          clear hs hB hWN
          have hz := HS.out.of_eq (show _ = pts b4 mk0.box * (pts b5 mk0.box * (A * own W)) by ac_rfl)
          obtain ⟨Y, s1, back⟩ := hz.box
          have j0 := s1.cell (i := 0) rfl
          have j1 := s1.cell (i := 1) rfl
          have j2 := s1.cell (i := 2) rfl
          have j3 := s1.cell (i := 3) rfl
          have j4 := s1.cell (i := 4) rfl
          have jl := s1.lt
          have f0 := s1.free (i := 0)
          have f1 := s1.free (i := 1)
          have f2 := s1.free (i := 2)
          have f3 := s1.free (i := 3)
          have f4 := s1.free (i := 4)
          have hz2 := back _ _ (sat_set5 s1 (.int .i64 x1) (.int .i64 x2) (.bool x3) (.int .i64 x4) (.bool false))
          have HCW := Lib.hid (HC2.out _ _ _ HS.out)
          have HZ2 := Lib.hid hz2
          clear hz s1 back hz2 HS
          refine wpE_one (i := 14) rfl (by kernel_rfl) (HCW.out) (fun K hK => ?_)
          go_simp
          refine hK _ _ ?_
          clear hK K j0 j1 j2 j3 j4 jl f0 f1 f2 f3 f4 HCW
          obtain ⟨W14, hW14⟩ : ∃ W14, (((((w12).setCell ⟨b4, 0, none⟩ (.int .i64 x1)).setCell ⟨b4, 1, none⟩ (.int .i64 x2)).setCell ⟨b4, 2, none⟩ (.bool x3)).setCell ⟨b4, 3, none⟩ (.int .i64 x4)).setCell ⟨b4, 4, none⟩ (.bool false) = W14 := ⟨_, rfl⟩
          rw [hW14]
          have hz2 := HZ2.out
          rw [hW14] at hz2
          obtain ⟨Y, s1, back⟩ := (hz2.of_eq (show _ = pts b5 mk0.box * (pts b4 (Mk.box ⟨x1, x2, x3, x4, false⟩) * (A * own W)) by ac_rfl)).box
          have j0 := s1.cell (i := 0) rfl
          have j1 := s1.cell (i := 1) rfl
          have j2 := s1.cell (i := 2) rfl
          have j3 := s1.cell (i := 3) rfl
          have j4 := s1.cell (i := 4) rfl
          have jl := s1.lt
          have f0 := s1.free (i := 0)
          have f1 := s1.free (i := 1)
          have f2 := s1.free (i := 2)
          have f3 := s1.free (i := 3)
          have f4 := s1.free (i := 4)
          have hz3 := back _ _ (sat_set5 s1 (.int .i64 y1) (.int .i64 y2) (.bool y3) (.int .i64 y4) (.bool y5))
          have HCW := Lib.hid (HC2.out _ _ _ hz2)
          have HZ3 := Lib.hid hz3
          clear s1 back hz2 hz3 HZ2 hW14
          refine wpE_one (i := 15) rfl (by kernel_rfl) (HCW.out) (fun K hK => ?_)
          go_simp
          refine hK _ _ ?_
          clear hK K j0 j1 j2 j3 j4 jl f0 f1 f2 f3 f4 HCW
          refine wpE_done (by kernel_rfl) (by kernel_rfl) ?_
          go_wp2
          go_meet
          exact ⟨b4, b5, rfl, rfl, HZ3.out.of_eq (by ac_rfl)⟩
        refine AllReadyE.cons rfl (fun K hK => ?_) ?_
        · skip
          go_simp
          refine hK _ _ ?_
          clear hK K
          have hs := HS.out.alloc mk0.box
          obtain ⟨b4, hB⟩ : ∃ B, (w13).heap.size = B := ⟨_, rfl⟩
          obtain ⟨w12, hWN⟩ : ∃ WN, (w13).alloc mk0.box = WN := ⟨_, rfl⟩
          rw [hB, hWN] at hs
          rw [hB, show (w13).alloc (.cells #[.int .i64 0, .int .i64 0, .bool false, .int .i64 0, .bool false] 58) = w12 from hWN]
          have HS := Lib.hid hs
          clear hs hB hWN
          refine wpE_one (i := 11) rfl (by kernel_rfl) (HC2.out _ _ _ HS.out) (fun K hK => ?_)
          go_simp
          with_reducible refine Calls.mono (nextV_any ⟨y1, y2, y3, y4, y5⟩ (by have := HT.out; omega) HS.out) ?_
          rintro e w11 ⟨rfl, hs⟩
          have HS := Lib.hid hs
          clear hs
          go_simp
          refine hK _ _ ?_
          clear hK K
          have hz := HS.out.of_eq (show _ = pts b4 mk0.box * (pts b5 mk0.box * (A * own W)) by ac_rfl)
          obtain ⟨Y, s1, back⟩ := hz.box
          have j0 := s1.cell (i := 0) rfl
          have j1 := s1.cell (i := 1) rfl
          have j2 := s1.cell (i := 2) rfl
          have j3 := s1.cell (i := 3) rfl
          have j4 := s1.cell (i := 4) rfl
          have jl := s1.lt
          have f0 := s1.free (i := 0)
          have f1 := s1.free (i := 1)
          have f2 := s1.free (i := 2)
          have f3 := s1.free (i := 3)
          have f4 := s1.free (i := 4)
          have hz2 := back _ _ (sat_set5 s1 (.int .i64 x1) (.int .i64 x2) (.bool x3) (.int .i64 x4) (.bool false))
          have HCW := Lib.hid (HC2.out _ _ _ HS.out)
          have HZ2 := Lib.hid hz2
          clear hz s1 back hz2 HS
          refine wpE_one (i := 14) rfl (by kernel_rfl) (HCW.out) (fun K hK => ?_)
          go_simp
          refine hK _ _ ?_
          clear hK K j0 j1 j2 j3 j4 jl f0 f1 f2 f3 f4 HCW
          obtain ⟨W14, hW14⟩ : ∃ W14, (((((w11).setCell ⟨b4, 0, none⟩ (.int .i64 x1)).setCell ⟨b4, 1, none⟩ (.int .i64 x2)).setCell ⟨b4, 2, none⟩ (.bool x3)).setCell ⟨b4, 3, none⟩ (.int .i64 x4)).setCell ⟨b4, 4, none⟩ (.bool false) = W14 := ⟨_, rfl⟩
          rw [hW14]
          have hz2 := HZ2.out
          rw [hW14] at hz2
          obtain ⟨Y, s1, back⟩ := (hz2.of_eq (show _ = pts b5 mk0.box * (pts b4 (Mk.box ⟨x1, x2, x3, x4, false⟩) * (A * own W)) by ac_rfl)).box
          have j0 := s1.cell (i := 0) rfl
          have j1 := s1.cell (i := 1) rfl
          have j2 := s1.cell (i := 2) rfl
          have j3 := s1.cell (i := 3) rfl
          have j4 := s1.cell (i := 4) rfl
          have jl := s1.lt
          have f0 := s1.free (i := 0)
          have f1 := s1.free (i := 1)
          have f2 := s1.free (i := 2)
          have f3 := s1.free (i := 3)
          have f4 := s1.free (i := 4)
          have hz3 := back _ _ (sat_set5 s1 (.int .i64 y1) (.int .i64 y2) (.bool y3) (.int .i64 y4) (.bool y5))
          have HCW := Lib.hid (HC2.out _ _ _ hz2)
          have HZ3 := Lib.hid hz3
          clear s1 back hz2 hz3 HZ2 hW14
          refine wpE_one (i := 15) rfl (by kernel_rfl) (HCW.out) (fun K hK => ?_)
          go_simp
          refine hK _ _ ?_
          clear hK K j0 j1 j2 j3 j4 jl f0 f1 f2 f3 f4 HCW
          refine wpE_done (by kernel_rfl) (by kernel_rfl) ?_
          go_wp2
          go_meet
          exact ⟨b4, b5, rfl, rfl, HZ3.out.of_eq (by ac_rfl)⟩
        exact AllReadyE.nil
      exact AllReadyE.nil
    case rest =>
      obtain ⟨b4, b5, rfl, rfl, hm⟩ := hcut
      clear HC HC2 HM
      have HM := Lib.hid hm
      clear hm
      obtain ⟨C, hc1, hc2⟩ := class2 W b b4 b5 x F (.slice (some ⟨g, 0, none⟩) (n + 1) cap) (D ++ [(⟨x1, x2, x3, x4, false⟩ : Mk)]) T ⟨x1, x2, x3, x4, false⟩ ⟨y1, y2, y3, y4, y5⟩
      have HC := Lib.hid hc1
      have HC2 := Lib.hid hc2
      have HFI := Lib.hid (fun w' (h : Sat W (own W) w') => find_any (hrd.ext h.toExt) hok x1 y1 HXC.out)
      have HRD := Lib.hid hrd
      obtain ⟨q, hq⟩ : ∃ q, findM F x1 y1 = q := ⟨_, rfl⟩
      rw [hq] at HFI HLL
      have HQ := Lib.hid hq
      obtain ⟨ca, cc, sa, sc, ka, kc, pa, pc, ra, rc, rfl, -⟩ := hrd.vals
      clear hc1 hc2 hq
      go_upto_region 7 with fail
      go_cut [6, 7] from 45 to 56 (fun s6 s7 wx => ∃ b6 : Nat, s6 = .pointer (some ⟨b6, 0, none⟩) ∧ s7 = .bool q.isSome ∧ MAtV W (pts b6 (q.getD stp0).boxv * (pts b4 (Mk.box ⟨x1, x2, x3, x4, false⟩) * (pts b5 (Mk.box ⟨y1, y2, y3, y4, y5⟩) * (A * own W)))) b ⟨.slice ca F.chars.length cc, .slice sa F.steps.length sc, .slice ka F.kerns.length kc, .slice pa F.pieces.length pc, .slice ra F.params.length rc⟩ F (.slice (some ⟨g, 0, none⟩) (n + 1) cap) (D ++ [(⟨x1, x2, x3, x4, false⟩ : Mk)]) T wx)
      case first =>
        refine wp_region_E C (by kernel_rfl) ?_
        obtain ⟨W9, hW9⟩ : ∃ W9, wc.drew = W9 := ⟨_, rfl⟩
        have h9 := HM.out.ext ((Ext.refl wc).drew)
        rw [hW9] at h9
        rw [hW9]
        have HS := Lib.hid h9
        clear h9 hW9
        refine wpE_take (i := 0) (q := 1) (v := ?_) rfl (by kernel_rfl) (by kernel_rfl) (by kernel_rfl) (by kernel_rfl) (by kernel_rfl) (fun _ _ _ h => h) (by rfl) ?_ ?_
        rotate_left 1
        · intro w hw; (obtain ⟨⟨p2, p3, p4, p5, p6, p7, p8, p9, p10⟩, pl, q4, q5⟩ := HC.out _ hw; go_simp; try with_reducible rfl)
        refine wpE_take (i := 1) (q := 2) (v := ?_) rfl (by kernel_rfl) (by kernel_rfl) (by kernel_rfl) (by kernel_rfl) (by kernel_rfl) (fun _ _ _ h => h) (by rfl) ?_ ?_
        rotate_left 1
        · intro w hw; (obtain ⟨⟨p2, p3, p4, p5, p6, p7, p8, p9, p10⟩, pl, q4, q5⟩ := HC.out _ hw; go_simp; try with_reducible rfl)
        refine wpE_take (i := 2) (q := 3) (v := ?_) rfl (by kernel_rfl) (by kernel_rfl) (by kernel_rfl) (by kernel_rfl) (by kernel_rfl) (fun _ _ _ h => h) (by rfl) ?_ ?_
        rotate_left 1
        · intro w hw; (obtain ⟨⟨p2, p3, p4, p5, p6, p7, p8, p9, p10⟩, pl, q4, q5⟩ := HC.out _ hw; go_simp; try with_reducible rfl)
        refine wpE_take (i := 3) (q := 8) (v := ?_) rfl (by kernel_rfl) (by kernel_rfl) (by kernel_rfl) (by kernel_rfl) (by kernel_rfl) (fun _ _ _ h => h) (by rfl) ?_ ?_
        rotate_left 1
        · intro w hw; (obtain ⟨⟨p2, p3, p4, p5, p6, p7, p8, p9, p10⟩, pl, q4, q5⟩ := HC.out _ hw; go_simp; try with_reducible rfl)
        refine wpE_take (i := 4) (q := 5) (v := ?_) rfl (by kernel_rfl) (by kernel_rfl) (by kernel_rfl) (by kernel_rfl) (by kernel_rfl) (fun _ _ _ h => h) (by rfl) ?_ ?_
        rotate_left 1
        · intro w hw; (obtain ⟨⟨p2, p3, p4, p5, p6, p7, p8, p9, p10⟩, pl, q4, q5⟩ := HC.out _ hw; go_simp; try with_reducible rfl)
        refine wpE_take (i := 5) (q := 8) (v := ?_) rfl (by kernel_rfl) (by kernel_rfl) (by kernel_rfl) (by kernel_rfl) (by kernel_rfl) (fun _ _ _ h => h) (by rfl) ?_ ?_
        rotate_left 1
        · intro w hw; (obtain ⟨⟨p2, p3, p4, p5, p6, p7, p8, p9, p10⟩, pl, q4, q5⟩ := HC.out _ hw; go_simp; try with_reducible rfl)
        refine wpE_take (i := 6) (q := 7) (v := ?_) rfl (by kernel_rfl) (by kernel_rfl) (by kernel_rfl) (by kernel_rfl) (by kernel_rfl) (fun _ _ _ h => h) (by rfl) ?_ ?_
        rotate_left 1
        · intro w hw; (obtain ⟨⟨p2, p3, p4, p5, p6, p7, p8, p9, p10⟩, pl, q4, q5⟩ := HC.out _ hw; go_simp; try with_reducible rfl)
        refine wpE_take (i := 7) (q := 8) (v := ?_) rfl (by kernel_rfl) (by kernel_rfl) (by kernel_rfl) (by kernel_rfl) (by kernel_rfl) (fun _ _ _ h => h) (by rfl) ?_ ?_
        rotate_left 1
        · intro w hw; (obtain ⟨⟨p2, p3, p4, p5, p6, p7, p8, p9, p10⟩, pl, q4, q5⟩ := HC.out _ hw; go_simp; try with_reducible rfl)
        refine wpE_ready (rs := [8, 12]) (by kernel_rfl) (by simp) (HC2.out _ _ HS.out) ?_
        refine AllReadyE.cons rfl (fun K hK => ?_) ?_
        · skip
          go_simp
          with_reducible refine Calls.mono (HFI.out _ (HS.out.own1)) ?_
          rintro e w11 ⟨rfl, hx⟩
          have hs := HS.out.ext hx
          have HS := Lib.hid hs
          clear hs hx
          go_simp
          refine hK _ _ ?_
          clear hK K
          refine wpE_take (i := 9) (q := 10) (v := ?_) rfl (by kernel_rfl) (by kernel_rfl) (by kernel_rfl) (by kernel_rfl) (by kernel_rfl) (fun _ _ _ h => h) (by rfl) ?_ ?_
          rotate_left 1
          · intro w hw; (obtain ⟨⟨p2, p3, p4, p5, p6, p7, p8, p9, p10⟩, pl, q4, q5⟩ := HC.out _ hw; go_simp; try with_reducible rfl)
          refine wpE_take (i := 10) (q := 13) (v := ?_) rfl (by kernel_rfl) (by kernel_rfl) (by kernel_rfl) (by kernel_rfl) (by kernel_rfl) (fun _ _ _ h => h) (by rfl) ?_ ?_
          rotate_left 1
          · intro w hw; (obtain ⟨⟨p2, p3, p4, p5, p6, p7, p8, p9, p10⟩, pl, q4, q5⟩ := HC.out _ hw; go_simp; try with_reducible rfl)
          refine wpE_take (i := 11) (q := 14) (v := ?_) rfl (by kernel_rfl) (by kernel_rfl) (by kernel_rfl) (by kernel_rfl) (by kernel_rfl) (fun _ _ _ h => h) (by rfl) ?_ ?_
          rotate_left 1
          · intro w hw; (obtain ⟨⟨p2, p3, p4, p5, p6, p7, p8, p9, p10⟩, pl, q4, q5⟩ := HC.out _ hw; go_simp; try with_reducible rfl)
          refine wpE_one (i := 12) rfl (by kernel_rfl) (HC2.out _ _ HS.out) (fun K hK => ?_)
          go_simp
          refine hK _ _ ?_
          clear hK K
          have hs := HS.out.alloc stp0.boxv
          obtain ⟨b6, hB⟩ : ∃ B, (w11).heap.size = B := ⟨_, rfl⟩
          obtain ⟨w12, hWN⟩ : ∃ WN, (w11).alloc stp0.boxv = WN := ⟨_, rfl⟩
          rw [hB, hWN] at hs
          rw [hB, show (w11).alloc (.cells #[.int .u8 0, .int .u8 0, .int .u8 0, .int .u8 0] 36) = w12 from hWN]
          have HS := Lib.hid hs
          have HSC := Lib.hid (HC2.out _ _ (hs.of_eq (show _ = pts b4 (Mk.box ⟨x1, x2, x3, x4, false⟩) * (pts b5 (Mk.box ⟨y1, y2, y3, y4, y5⟩) * (pts b6 stp0.boxv * (A * own W))) by ac_rfl)))
          clear hs hB hWN
          obtain ⟨Y, s1, back⟩ := HS.out.box
          have j0 := s1.cell (i := 0) rfl
          have j1 := s1.cell (i := 1) rfl
          have j2 := s1.cell (i := 2) rfl
          have j3 := s1.cell (i := 3) rfl
          have jl := s1.lt
          have f0 := s1.free (i := 0)
          have f1 := s1.free (i := 1)
          have f2 := s1.free (i := 2)
          have f3 := s1.free (i := 3)
          have hz2 := back _ _ (sat_set4 s1 (.int .u8 (q.getD stp0).skip.toNat) (.int .u8 (q.getD stp0).next.toNat) (.int .u8 (q.getD stp0).op.toNat) (.int .u8 (q.getD stp0).rest.toNat))
          have HZ2 := Lib.hid hz2
          have HCZ := Lib.hid (HC2.out _ _ (hz2.of_eq (show _ = pts b4 (Mk.box ⟨x1, x2, x3, x4, false⟩) * (pts b5 (Mk.box ⟨y1, y2, y3, y4, y5⟩) * (pts b6 (q.getD stp0).boxv * (A * own W))) by ac_rfl)))
          clear s1 back hz2 HS
          refine wpE_one (i := 13) rfl (by kernel_rfl) (HSC.out) (fun K hK => ?_)
          go_simp
          refine hK _ _ ?_
          clear hK K j0 j1 j2 j3 jl f0 f1 f2 f3 HSC
          refine wpE_one (i := 14) rfl (by kernel_rfl) (HCZ.out) (fun K hK => ?_)
          go_simp
          refine hK _ _ ?_
          clear hK K HCZ
          refine wpE_done (by kernel_rfl) (by kernel_rfl) ?_
          go_wp2
          go_meet
          exact ⟨b6, rfl, rfl, HZ2.out⟩
        refine AllReadyE.cons rfl (fun K hK => ?_) ?_
        · skip
          go_simp
          refine hK _ _ ?_
          clear hK K
          have hs := HS.out.alloc stp0.boxv
          obtain ⟨b6, hB⟩ : ∃ B, (W9).heap.size = B := ⟨_, rfl⟩
          obtain ⟨w12, hWN⟩ : ∃ WN, (W9).alloc stp0.boxv = WN := ⟨_, rfl⟩
          rw [hB, hWN] at hs
          rw [hB, show (W9).alloc (.cells #[.int .u8 0, .int .u8 0, .int .u8 0, .int .u8 0] 36) = w12 from hWN]
          have HS := Lib.hid hs
          have HSC := Lib.hid (HC2.out _ _ (hs.of_eq (show _ = pts b4 (Mk.box ⟨x1, x2, x3, x4, false⟩) * (pts b5 (Mk.box ⟨y1, y2, y3, y4, y5⟩) * (pts b6 stp0.boxv * (A * own W))) by ac_rfl)))
          clear hs hB hWN
          refine wpE_one (i := 8) rfl (by kernel_rfl) (HSC.out) (fun K hK => ?_)
          go_simp
          with_reducible refine Calls.mono (HFI.out _ (HS.out.own2)) ?_
          rintro e w11 ⟨rfl, hx⟩
          have hs := HS.out.ext hx
          have HS := Lib.hid hs
          clear hs hx
          go_simp
          refine hK _ _ ?_
          clear hK K
          clear HSC
          have HSC := Lib.hid (HC2.out _ _ (HS.out.of_eq (show _ = pts b4 (Mk.box ⟨x1, x2, x3, x4, false⟩) * (pts b5 (Mk.box ⟨y1, y2, y3, y4, y5⟩) * (pts b6 stp0.boxv * (A * own W))) by ac_rfl)))
          refine wpE_take (i := 9) (q := 10) (v := ?_) rfl (by kernel_rfl) (by kernel_rfl) (by kernel_rfl) (by kernel_rfl) (by kernel_rfl) (fun _ _ _ h => h) (by rfl) ?_ ?_
          rotate_left 1
          · intro w hw; (obtain ⟨⟨p2, p3, p4, p5, p6, p7, p8, p9, p10⟩, pl, q4, q5⟩ := HC.out _ hw; go_simp; try with_reducible rfl)
          refine wpE_take (i := 10) (q := 13) (v := ?_) rfl (by kernel_rfl) (by kernel_rfl) (by kernel_rfl) (by kernel_rfl) (by kernel_rfl) (fun _ _ _ h => h) (by rfl) ?_ ?_
          rotate_left 1
          · intro w hw; (obtain ⟨⟨p2, p3, p4, p5, p6, p7, p8, p9, p10⟩, pl, q4, q5⟩ := HC.out _ hw; go_simp; try with_reducible rfl)
          refine wpE_take (i := 11) (q := 14) (v := ?_) rfl (by kernel_rfl) (by kernel_rfl) (by kernel_rfl) (by kernel_rfl) (by kernel_rfl) (fun _ _ _ h => h) (by rfl) ?_ ?_
          rotate_left 1
          · intro w hw; (obtain ⟨⟨p2, p3, p4, p5, p6, p7, p8, p9, p10⟩, pl, q4, q5⟩ := HC.out _ hw; go_simp; try with_reducible rfl)
          obtain ⟨Y, s1, back⟩ := HS.out.box
          have j0 := s1.cell (i := 0) rfl
          have j1 := s1.cell (i := 1) rfl
          have j2 := s1.cell (i := 2) rfl
          have j3 := s1.cell (i := 3) rfl
          have jl := s1.lt
          have f0 := s1.free (i := 0)
          have f1 := s1.free (i := 1)
          have f2 := s1.free (i := 2)
          have f3 := s1.free (i := 3)
          have hz2 := back _ _ (sat_set4 s1 (.int .u8 (q.getD stp0).skip.toNat) (.int .u8 (q.getD stp0).next.toNat) (.int .u8 (q.getD stp0).op.toNat) (.int .u8 (q.getD stp0).rest.toNat))
          have HZ2 := Lib.hid hz2
          have HCZ := Lib.hid (HC2.out _ _ (hz2.of_eq (show _ = pts b4 (Mk.box ⟨x1, x2, x3, x4, false⟩) * (pts b5 (Mk.box ⟨y1, y2, y3, y4, y5⟩) * (pts b6 (q.getD stp0).boxv * (A * own W))) by ac_rfl)))
          clear s1 back hz2 HS
          refine wpE_one (i := 13) rfl (by kernel_rfl) (HSC.out) (fun K hK => ?_)
          go_simp
          refine hK _ _ ?_
          clear hK K j0 j1 j2 j3 jl f0 f1 f2 f3 HSC
          refine wpE_one (i := 14) rfl (by kernel_rfl) (HCZ.out) (fun K hK => ?_)
          go_simp
          refine hK _ _ ?_
          clear hK K HCZ
          refine wpE_done (by kernel_rfl) (by kernel_rfl) ?_
          go_wp2
          go_meet
          exact ⟨b6, rfl, rfl, HZ2.out⟩
        exact AllReadyE.nil
      case rest =>
        obtain ⟨b6, rfl, rfl, hm⟩ := hcut
        clear HM HC HC2 HFI
        have HM := Lib.hid hm
        have hlen : (D ++ [(⟨x1, x2, x3, x4, false⟩ : Mk)]).length ≤ 1000000 := by rw [List.length_append, List.length_singleton]; have := HD.out; omega
        have HLN := Lib.hid hlen
        clear hm hlen
        cases q with
        | none =>
          simp only [Option.isSome_none, Option.getD_none] at HM ⊢
          have hres : D ++ stepM F ⟨x1, x2, x3, x4, false⟩ ⟨y1, y2, y3, y4, y5⟩ = (D ++ [(⟨x1, x2, x3, x4, false⟩ : Mk)]) ++ [⟨y1, y2, y3, y4, y5⟩] := by
            unfold stepM
            simp only [HQ.out]
            rw [List.append_assoc]
            rfl
          have HRES := Lib.hid hres
          clear hres
          go_upto_region 10 with fail
          obtain ⟨W9, hW9⟩ : ∃ W9, (wc).drew = W9 := ⟨_, rfl⟩
          have h9 := HM.out.ext ((Ext.refl (wc)).drew)
          rw [hW9] at h9
          obtain ⟨Y9, hf9, -⟩ := h9.frame
          have hs5 := hf9.of_eq (show _ = pts b5 (Mk.box ⟨y1, y2, y3, y4, y5⟩) * (pts b6 (stp0.boxv) * (pts b4 (Mk.box ⟨x1, x2, x3, x4, false⟩) * ((A * own W) * Y9))) by ac_rfl)
          have j0 := hs5.cell (i := 0) rfl
          have j1 := hs5.cell (i := 1) rfl
          have j2 := hs5.cell (i := 2) rfl
          have j3 := hs5.cell (i := 3) rfl
          have j4 := hs5.cell (i := 4) rfl
          have jl := hs5.lt
          have lb : b < W9.heap.size := by
            obtain ⟨tv, h8⟩ := h9
            exact h8.lt
          have HPS := Lib.hid (pass_any ⟨y1, y2, y3, y4, y5⟩ HLN.out h9.m)
          clear hf9 hs5 h9 HM
          refine wp_region_tail (fun w' => w' = W9) 4 (by kernel_rfl) (by kernel_rfl) hW9 ?_
          clear hW9
          simp only [List.take_succ_cons, List.take_zero, List.drop_succ_cons, List.drop_zero]
          iterate 4
            with_reducible refine wpQuiet_step ?_
            intro K hK
            go_simp
            first
              | (with_reducible refine hK _ ?_
                 clear hK K)
              | (rw [if_neg (by intro h; cases h)]
                 with_reducible refine hK _ ?_
                 clear hK K)
              | (refine Exists.intro _ ⟨fun w9 hw9 => ?_, ?_⟩
                 rotate_left 1
                 with_reducible refine hK _ ?_
                 clear hK K
                 rotate_left 1
                 · subst hw9; go_simp; try with_reducible rfl)
          refine wpQuiet_nil ?_
          rintro w17 rfl
          go_wp2_with fail
          with_reducible refine Calls.mono HPS.out ?_
          rintro e w18 ⟨rfl, h4⟩
          have H4 := Lib.hid h4
          clear h4 HPS j0 j1 j2 j3 j4 jl lb
          go_wp2
          go_ret
          exact ⟨rfl, by rw [HRES.out]; exact H4.out.drop3⟩
        | some s =>
          simp only [Option.isSome_some, Option.getD_some] at HM ⊢
          obtain ⟨s1, s2, s3, s4⟩ := s
          have k3 := u8i s3
          have k4 := u8i s4
          obtain ⟨Y, hf, -⟩ := HM.out.frame
          have hs6 := hf.of_eq (show _ = pts b6 (Stp.boxv ⟨s1, s2, s3, s4⟩) * (pts b4 (Mk.box ⟨x1, x2, x3, x4, false⟩) * (pts b5 (Mk.box ⟨y1, y2, y3, y4, y5⟩) * ((A * own W) * Y))) by ac_rfl)
          by_cases ho : 128 ≤ s3.toNat
          · have ho2 : (128 : Int) ≤ s3.toNat := by omega
            have hkk := hok.hk
            obtain ⟨kk, hkl, hks, hk128⟩ := findM_mem HQ.out
            have hki := hkk kk hkl (by rw [← hks]; exact hk128) (by rw [← hks]; exact ho)
            rw [← hks] at hki
            simp only at hki
            have hres : D ++ stepM F ⟨x1, x2, x3, x4, false⟩ ⟨y1, y2, y3, y4, y5⟩ = ((D ++ [(⟨x1, x2, x3, x4, false⟩ : Mk)]) ++ [⟨-2, 0, false, kernOf F ⟨s1, s2, s3, s4⟩, true⟩]) ++ [⟨y1, y2, y3, y4, y5⟩] := by
              unfold stepM
              simp only [HQ.out]
              rw [if_pos ho, List.append_assoc, List.append_assoc]
              rfl
            have HRES := Lib.hid hres
            obtain ⟨ki, hki2⟩ : ∃ ki, 256 * (s3.toNat - 128) + s4.toNat = ki := ⟨_, rfl⟩
            rw [hki2] at hki
            have hko : kernOf F ⟨s1, s2, s3, s4⟩ = F.kerns[ki] := by
              unfold kernOf
              simp only [hki2]
              rw [List.getD_eq_getElem?_getD, List.getElem?_eq_getElem hki]; rfl
            obtain ⟨kv, hkv⟩ : ∃ kv, kernOf F ⟨s1, s2, s3, s4⟩ = kv := ⟨_, rfl⟩
            rw [hkv] at HRES hko
            have e2 := hs6.cell (i := 2) rfl
            have e3 := hs6.cell (i := 3) rfl
            have le := hs6.lt
            have hsum : (256 : Int) * ((s3.toNat : Int) - 128) + s4.toNat = ki := by omega
            clear hres hkk hkl hks hk128 hf hs6 hkv
            go_upto_region 12 with fail
            clear e2 e3 le
            obtain ⟨W9, hW9⟩ : ∃ W9, wc.drew = W9 := ⟨_, rfl⟩
            have h9 := HM.out.ext ((Ext.refl wc).drew)
            rw [hW9] at h9
            obtain ⟨Y9, hf9, -⟩ := h9.frame
            have hs6 := hf9.of_eq (show _ = pts b6 (Stp.boxv ⟨s1, s2, s3, s4⟩) * (pts b4 (Mk.box ⟨x1, x2, x3, x4, false⟩) * (pts b5 (Mk.box ⟨y1, y2, y3, y4, y5⟩) * ((A * own W) * Y9))) by ac_rfl)
            have e2 := hs6.cell (i := 2) rfl
            have e3 := hs6.cell (i := 3) rfl
            have le := hs6.lt
            have hE9 : Ext W W9 := (hf9.of_eq (show _ = own W * (pts b6 (Stp.boxv ⟨s1, s2, s3, s4⟩) * (pts b4 (Mk.box ⟨x1, x2, x3, x4, false⟩) * (pts b5 (Mk.box ⟨y1, y2, y3, y4, y5⟩) * (A * Y9)))) by ac_rfl)).l.toExt
            obtain ⟨kb, ko, rfl, kc0, kl⟩ := (HRD.out.ext hE9).rk.int rfl hki
            rw [← hko] at kc0
            have m7 : W9.cell? ⟨b, 7, none⟩ = some (.slice (some ⟨kb, ko, none⟩) F.kerns.length kc) := by
              obtain ⟨tv, h8⟩ := h9
              exact h8.cell rfl
            have lb : b < W9.heap.size := by
              obtain ⟨tv, h8⟩ := h9
              exact h8.lt
            have hki3 : (ki : Int) < F.kerns.length := by omega
            have H9 := Lib.hid h9
            have wk1 : IntKind.i64.wrap (s3.toNat : Int) = s3.toNat := IntWalk.i64_in _ (by omega)
            have wk2 : IntKind.i64.wrap (s4.toNat : Int) = s4.toNat := IntWalk.i64_in _ (by omega)
            have wk3 : IntKind.i64.wrap ((s3.toNat : Int) - 128) = (s3.toNat : Int) - 128 := IntWalk.i64_in _ (by omega)
            have wk4 : IntKind.i64.wrap (256 * ((s3.toNat : Int) - 128)) = 256 * ((s3.toNat : Int) - 128) := IntWalk.i64_in _ (by omega)
            have wk5 : IntKind.i64.wrap (256 * ((s3.toNat : Int) - 128) + s4.toNat) = ki := by rw [hsum]; exact IntWalk.i64_in _ (by omega)
            have wk6 : IntKind.i64.wrap (ki : Int) = ki := IntWalk.i64_in _ (by omega)
            have ki0 : (0 : Int) ≤ ki := by omega
            have HPK := Lib.hid (pass_any ⟨-2, 0, false, kv, true⟩ HLN.out H9.out.m)
            clear hf9 hs6 hE9 hko h9 HM
            refine wp_region_tail (fun w' => w' = W9) 21 (by kernel_rfl) (by kernel_rfl) hW9 ?_
            clear hW9
            simp only [List.take_succ_cons, List.take_zero, List.drop_succ_cons, List.drop_zero]
            iterate 21
              with_reducible refine wpQuiet_step ?_
              intro K hK
              go_simp
              first
                | (with_reducible refine hK _ ?_
                   clear hK K)
                | (rw [if_neg (by intro h; cases h)]
                   with_reducible refine hK _ ?_
                   clear hK K)
                | (refine Exists.intro _ ⟨fun w9 hw9 => ?_, ?_⟩
                   rotate_left 1
                   with_reducible refine hK _ ?_
                   clear hK K
                   rotate_left 1
                   · subst hw9; go_simp; try with_reducible rfl)
            refine wpQuiet_nil ?_
            rintro w17 rfl
            go_wp2_with fail
            with_reducible refine Calls.mono HPK.out ?_
            rintro e w16 ⟨rfl, h4⟩
            obtain ⟨dv2, h5⟩ := h4.v
            have HM := Lib.hid h5
            have hlen2 : ((D ++ [(⟨x1, x2, x3, x4, false⟩ : Mk)]) ++ [(⟨-2, 0, false, kv, true⟩ : Mk)]).length ≤ 1000000 := by simp only [List.length_append, List.length_singleton]; have := HD.out; omega
            clear HLN
            have HLN := Lib.hid hlen2
            clear h4 h5 hlen2 HPK H9 e2 e3 le kc0 m7 lb kl wk1 wk2 wk3 wk4 wk5 wk6
            go_upto_region 13 with fail
            obtain ⟨W9, hW9⟩ : ∃ W9, (w16).drew = W9 := ⟨_, rfl⟩
            have h9 := HM.out.ext ((Ext.refl (w16)).drew)
            rw [hW9] at h9
            obtain ⟨Y9, hf9, -⟩ := h9.frame
            have hs5 := hf9.of_eq (show _ = pts b5 (Mk.box ⟨y1, y2, y3, y4, y5⟩) * (pts b6 (Stp.boxv ⟨s1, s2, s3, s4⟩) * (pts b4 (Mk.box ⟨x1, x2, x3, x4, false⟩) * ((A * own W) * Y9))) by ac_rfl)
            have j0 := hs5.cell (i := 0) rfl
            have j1 := hs5.cell (i := 1) rfl
            have j2 := hs5.cell (i := 2) rfl
            have j3 := hs5.cell (i := 3) rfl
            have j4 := hs5.cell (i := 4) rfl
            have jl := hs5.lt
            have lb : b < W9.heap.size := by
              obtain ⟨tv, h8⟩ := h9
              exact h8.lt
            have HPS := Lib.hid (pass_any ⟨y1, y2, y3, y4, y5⟩ HLN.out h9.m)
            clear hf9 hs5 h9 HM
            refine wp_region_tail (fun w' => w' = W9) 4 (by kernel_rfl) (by kernel_rfl) hW9 ?_
            clear hW9
            simp only [List.take_succ_cons, List.take_zero, List.drop_succ_cons, List.drop_zero]
            iterate 4
              with_reducible refine wpQuiet_step ?_
              intro K hK
              go_simp
              first
                | (with_reducible refine hK _ ?_
                   clear hK K)
                | (rw [if_neg (by intro h; cases h)]
                   with_reducible refine hK _ ?_
                   clear hK K)
                | (refine Exists.intro _ ⟨fun w9 hw9 => ?_, ?_⟩
                   rotate_left 1
                   with_reducible refine hK _ ?_
                   clear hK K
                   rotate_left 1
                   · subst hw9; go_simp; try with_reducible rfl)
            refine wpQuiet_nil ?_
            rintro w17 rfl
            go_wp2_with fail
            with_reducible refine Calls.mono HPS.out ?_
            rintro e w18 ⟨rfl, h4⟩
            have H4 := Lib.hid h4
            clear h4 HPS j0 j1 j2 j3 j4 jl lb
            go_wp2
            go_ret
            exact ⟨rfl, by rw [HRES.out]; exact H4.out.drop3⟩
          · have ho2 : ¬ (128 : Int) ≤ s3.toNat := by omega
            have h30 := HLL.out ⟨s1, s2, s3, s4⟩ rfl (show s3.toNat < 128 by omega)
            simp only at h30
            have hres : D ++ stepM F ⟨x1, x2, x3, x4, false⟩ ⟨y1, y2, y3, y4, y5⟩ = D ++ [⟨s4.toNat, y2 + x2, true, 0, false⟩] := by
              unfold stepM
              simp only [HQ.out]
              rw [if_neg ho]
            have HRES := Lib.hid hres
            have HLG := Lib.hid (lig_any ⟨x1, x2, x3, x4, false⟩ ⟨y1, y2, y3, y4, y5⟩ s1.toNat s2.toNat s4.toNat (by omega) HXN.out HYN.out (by have := HD.out; omega) HM.out.m)
            rw [HN.out] at HLG
            have e0 := hs6.cell (i := 0) rfl
            have e1 := hs6.cell (i := 1) rfl
            have e2 := hs6.cell (i := 2) rfl
            have e3 := hs6.cell (i := 3) rfl
            have le := hs6.lt
            have i0 := hs6.r.cell (i := 0) rfl
            have i1 := hs6.r.cell (i := 1) rfl
            have i2 := hs6.r.cell (i := 2) rfl
            have i3 := hs6.r.cell (i := 3) rfl
            have i4 := hs6.r.cell (i := 4) rfl
            have il := hs6.r.lt
            have j0 := hs6.r.r.cell (i := 0) rfl
            have j1 := hs6.r.r.cell (i := 1) rfl
            have j2 := hs6.r.r.cell (i := 2) rfl
            have j3 := hs6.r.r.cell (i := 3) rfl
            have j4 := hs6.r.r.cell (i := 4) rfl
            have jl := hs6.r.r.lt
            have h30i : (s3.toNat : Int) = 0 := by omega
            clear hres hf hs6 HM ho h30
            go_wp2_with fail
            with_reducible refine Calls.mono HLG.out ?_
            rintro e w16 ⟨rfl, h4⟩
            have H4 := Lib.hid h4
            clear h4 HLG e0 e1 e2 e3 le i0 i1 i2 i3 i4 il j0 j1 j2 j3 j4 jl
            go_wp2
            go_ret
            exact ⟨rfl, by rw [HRES.out]; exact H4.out.drop3⟩
end Go.Proofs.Ytigjfbbgbiajbaa
