/-
  The law MacrosChecks, walked. Conditions: those that the theorem names.
-/
import Derived.Test.YtlbebcioabfbgaaMacW
namespace Go.Proofs.Ytlbebcioabfbgaa
open Go.RowKit Go.Sp
variable {W w w' : World} {F : HProp}

/-- the three cells of a block of three -/
theorem Ext.three {w w' : World} {b : Nat} {x y z : Value} {e : TypeId} (h : w.heap[b]? = some (.cells #[x, y, z] e (0, 0))) (k : Ext w w') :
    w'.cell? ⟨b, 0, none⟩ = some x ∧ w'.cell? ⟨b, 1, none⟩ = some y ∧ w'.cell? ⟨b, 2, none⟩ = some z :=
  ⟨k.cell (cell_of_row w b 0 _ e _ h), k.cell (cell_of_row w b 1 _ e _ h), k.cell (cell_of_row w b 2 _ e _ h)⟩

theorem given_at (P B : List Tok) (vp vb : Value) (long : Bool) (w : World) (hp : RdT w vp P) (hb : RdT w vb B) (hnP : P.length ≤ 4000000000) (hnB : B.length ≤ 4000000000) :
    Calls Try.prog 19 #[.agg #[vp, vb, .bool long]] w fun e w' => ∃ u v, e = .returned (.agg #[u, v, .bool long]) ∧ Ext w w' ∧ RdT w' u P ∧ RdT w' v B := by
  refine Calls.mono (given_any P B vp vb long w hp hb hnP hnB) ?_
  rintro e w' ⟨u, v, rfl, h⟩
  exact ⟨u, v, rfl, h.r.r.toExt, rowT_rd h, rowT_rd h.r⟩

theorem sameM_self (P B : List Tok) (l : Bool) : sameM P B P B l l = true := by simp [sameM]
theorem same_self (P B : List Tok) (vp vb vp' vb' : Value) (long : Bool) (w : World) (hp : RdT w vp P) (hb : RdT w vb B) (hp' : RdT w vp' P) (hb' : RdT w vb' B) :
    Calls Try.prog 36 #[.agg #[vp, vb, .bool long], .agg #[vp', vb', .bool long]] w fun e w' => e = .returned (.bool true) ∧ Ext w w' := sameM_self P B long ▸ same_macro P B P B vp vb vp' vb' long long w hp hb hp' hb'
theorem alike_self (P B : List Tok) (vp vb vp' vb' : Value) (long : Bool) (w : World) (hp : RdT w vp P) (hb : RdT w vb B) (hp' : RdT w vp' P) (hb' : RdT w vb' B) :
    Calls Try.prog 15 #[.agg #[vp, vb, .bool long], .agg #[vp', vb', .bool long]] w fun e w' => e = .returned (.bool true) ∧ Ext w w' := sameM_self P B long ▸ alike_any P B P B vp vb vp' vb' long long w hp hb hp' hb'

set_option maxRecDepth 100000 in
set_option maxHeartbeats 8000000 in
theorem checks_law (P B P' B' : List Tok) (vp vb vp' vb' : Value) (long long' : Bool) (w : World) (hp : RdT w vp P) (hb : RdT w vb B) (hp' : RdT w vp' P') (hb' : RdT w vb' B')
    (hnP : P.length ≤ 4000000000) (hnB : B.length ≤ 4000000000) (hnP' : P'.length ≤ 4000000000) (hnB' : B'.length ≤ 4000000000) :
    Calls Try.prog 9 #[.agg #[vp, vb, .bool long], .agg #[vp', vb', .bool long']] w fun e w' => e = .returned (.bool true) ∧ Ext w w' := by
  have h1 := ((Sat.start w).alloc (.cells #[vp, vb, .bool long] 29)).alloc (.cells #[vp', vb', .bool long'] 29)
  have e1 : (w.alloc (.cells #[vp, vb, .bool long] 29)).heap.size = w.heap.size + 1 := by simp
  rw [e1] at h1
  have B2 := Lib.hid h1.r.blk
  have B3 := Lib.hid h1.blk
  have HX1 := Lib.hid h1.r.r.toExt
  have HP := Lib.hid hp
  have HB := Lib.hid hb
  have HP' := Lib.hid hp'
  have HB' := Lib.hid hb'
  have NP := Lib.hid hnP
  have NB := Lib.hid hnB
  have NP' := Lib.hid hnP'
  have NB' := Lib.hid hnB'
  clear h1 e1 hp hb hp' hb' hnP hnB hnP' hnB'
  go_enter Try.func9, Try.ntmps9
  go_wp2_with fail
  refine Calls.mono (given_at P B vp vb long _ (HP.out.ext HX1.out) (HB.out.ext HX1.out) NP.out NB.out) ?_
  rintro e w1 ⟨ux, vx, rfl, hx, hux, hvx⟩
  obtain ⟨xa, xc, rfl, -⟩ := hux.capd
  obtain ⟨ya, yc, rfl, -⟩ := hvx.capd
  obtain ⟨a0, a1, a2⟩ := Ext.three B2.out hx
  obtain ⟨b0, b1, b2⟩ := Ext.three B3.out hx
  have HXa := Lib.hid hx
  have HU1 := Lib.hid hux
  have HV1 := Lib.hid hvx
  have l2 : w.heap.size < w1.heap.size := World.block_lt_of_cell? w1 _ a0
  have l3 : w.heap.size + 1 < w1.heap.size := World.block_lt_of_cell? w1 _ b0
  clear hx hux hvx
  go_wp2_with fail
  refine Calls.mono (given_at P' B' vp' vb' long' _ (((HP'.out.ext HX1.out).ext HXa.out).ext (Ext.refl _).alloc) (((HB'.out.ext HX1.out).ext HXa.out).ext (Ext.refl _).alloc) NP'.out NB'.out) ?_
  rintro e w2 ⟨uy, vy, rfl, hx, huy, hvy⟩
  have B5 := Lib.hid (show w2.heap[w1.heap.size]? = some (.cells #[.slice xa P.length xc, .slice ya B.length yc, .bool long] 25) from hx.2 _ _ (Go.heap_alloc_new w1 _))
  have hx := (Ext.refl w1).alloc.trans hx
  obtain ⟨xa', xc', rfl, -⟩ := huy.capd
  obtain ⟨ya', yc', rfl, -⟩ := hvy.capd
  have HXb := Lib.hid hx
  have HU2 := Lib.hid huy
  have HV2 := Lib.hid hvy
  clear a0 a1 a2 b0 b1 b2 l2 l3 huy hvy
  obtain ⟨a0, a1, a2⟩ := Ext.three B2.out (HXa.out.trans HXb.out)
  have l2 : w.heap.size < w2.heap.size := World.block_lt_of_cell? w2 _ a0
  clear hx
  go_wp2_with fail
  refine Calls.mono (given_at P B vp vb long _ ((((HP.out.ext HX1.out).ext HXa.out).ext HXb.out).ext (Ext.refl _).alloc) ((((HB.out.ext HX1.out).ext HXa.out).ext HXb.out).ext (Ext.refl _).alloc) NP.out NB.out) ?_
  rintro e w3 ⟨uz, vz, rfl, hx, huz, hvz⟩
  have B6 := Lib.hid (show w3.heap[w2.heap.size]? = some (.cells #[.slice xa' P'.length xc', .slice ya' B'.length yc', .bool long'] 25) from hx.2 _ _ (Go.heap_alloc_new w2 _))
  have hx := (Ext.refl w2).alloc.trans hx
  obtain ⟨xa2, xc2, rfl, -⟩ := huz.capd
  obtain ⟨ya2, yc2, rfl, -⟩ := hvz.capd
  have HXc := Lib.hid hx
  have HU3 := Lib.hid huz
  have HV3 := Lib.hid hvz
  clear a0 a1 a2 l2 huz hvz hx
  go_wp2_with fail
  have hlast := (Ext.refl w3).alloc (o := .cells #[.slice xa2 P.length xc2, .slice ya2 B.length yc2, .bool long] 25)
  have H2 := Lib.hid (Ext.three B2.out ((HXa.out.trans (HXb.out.trans HXc.out)).trans hlast))
  have H3 := Lib.hid (Ext.three B3.out ((HXa.out.trans (HXb.out.trans HXc.out)).trans hlast))
  have H5 := Lib.hid (Ext.three B5.out (HXc.out.trans hlast))
  have H6 := Lib.hid (Ext.three B6.out hlast)
  have H7 := Lib.hid (Ext.three (Go.heap_alloc_new w3 (.cells #[.slice xa2 P.length xc2, .slice ya2 B.length yc2, .bool long] 25)) (Ext.refl _))
  have RP := Lib.hid ((HP.out.ext HX1.out).ext ((HXa.out.trans (HXb.out.trans HXc.out)).trans hlast))
  have RB := Lib.hid ((HB.out.ext HX1.out).ext ((HXa.out.trans (HXb.out.trans HXc.out)).trans hlast))
  have RP' := Lib.hid ((HP'.out.ext HX1.out).ext ((HXa.out.trans (HXb.out.trans HXc.out)).trans hlast))
  have RB' := Lib.hid ((HB'.out.ext HX1.out).ext ((HXa.out.trans (HXb.out.trans HXc.out)).trans hlast))
  have U1 := Lib.hid (HU1.out.ext ((HXb.out.trans HXc.out).trans hlast))
  have V1 := Lib.hid (HV1.out.ext ((HXb.out.trans HXc.out).trans hlast))
  have U2 := Lib.hid (HU2.out.ext (HXc.out.trans hlast))
  have V2 := Lib.hid (HV2.out.ext (HXc.out.trans hlast))
  have U3 := Lib.hid (HU3.out.ext hlast)
  have V3 := Lib.hid (HV3.out.ext hlast)
  have HF := Lib.hid (HX1.out.trans ((HXa.out.trans (HXb.out.trans HXc.out)).trans hlast))
  clear hlast
  generalize w3.alloc (.cells #[.slice xa2 P.length xc2, .slice ya2 B.length yc2, .bool long] 25) = W4 at *
  generalize w3.heap.size = b7 at *
  generalize w2.heap.size = b6 at *
  generalize w1.heap.size = b5 at *
  generalize w.heap.size + 1 = b3 at *
  generalize w.heap.size = b2 at *
  refine wp_region_tail (Ext W4) 40 (by kernel_rfl) (by kernel_rfl) ((Ext.refl W4).drew) ?_
  simp only [List.take_succ_cons, List.take_zero, List.drop_succ_cons, List.drop_zero]
  repeat (refine wpQuiet_step (fun K hK => ?_); go_simp; first | (refine hK _ ?_; clear hK K) | (apply Exists.intro; refine ⟨fun w' hw' => ?_, hK _ ?_⟩; (first | rfl | (go_at_call 32; with_reducible refine Calls.mono (check_any P B _ _ long _ (U1.out.ext hw') (V1.out.ext hw') NP.out NB.out) ?_; exact fun _ _ ⟨h1, h2⟩ => ⟨h1, hw'.trans h2⟩) | (go_at_call 14; with_reducible refine Calls.mono (num_any _ _) ?_; exact fun _ _ ⟨h1, h2⟩ => ⟨h1, h2 ▸ hw'⟩) | (go_at_call 33; with_reducible refine Calls.mono (checkR_any P B _ _ long _ (RP.out.ext hw') (RB.out.ext hw') NP.out NB.out) ?_; exact fun _ _ ⟨h1, h2⟩ => ⟨h1, hw'.trans h2⟩) | (go_at_call 34; with_reducible refine Calls.mono (count_macro P _ _ long _ (U1.out.ext hw') NP.out) ?_; exact fun _ _ ⟨h1, h2⟩ => ⟨h1, hw'.trans h2⟩) | (go_at_call 35; with_reducible refine Calls.mono (count_ref P _ _ long _ (RP.out.ext hw') NP.out) ?_; exact fun _ _ ⟨h1, h2⟩ => ⟨h1, hw'.trans h2⟩) | (go_at_call 36; with_reducible refine Calls.mono (same_macro P B P' B' _ _ _ _ long long' _ (U1.out.ext hw') (V1.out.ext hw') (U2.out.ext hw') (V2.out.ext hw')) ?_; exact fun _ _ ⟨h1, h2⟩ => ⟨h1, hw'.trans h2⟩) | (go_at_call 37; with_reducible refine Calls.mono (same_ref P B P' B' _ _ _ _ long long' _ (RP.out.ext hw') (RB.out.ext hw') (RP'.out.ext hw') (RB'.out.ext hw')) ?_; exact fun _ _ ⟨h1, h2⟩ => ⟨h1, hw'.trans h2⟩) | (go_at_call 36; with_reducible refine Calls.mono (same_self P B _ _ _ _ long _ (U1.out.ext hw') (V1.out.ext hw') (U3.out.ext hw') (V3.out.ext hw')) ?_; exact fun _ _ ⟨h1, h2⟩ => ⟨h1, hw'.trans h2⟩) | (go_at_call 15; with_reducible refine Calls.mono (alike_self P B _ _ _ _ long _ (U1.out.ext hw') (V1.out.ext hw') (RP.out.ext hw') (RB.out.ext hw')) ?_; exact fun _ _ ⟨h1, h2⟩ => ⟨h1, hw'.trans h2⟩) | (go_at_call 15; with_reducible refine Calls.mono (alike_self P' B' _ _ _ _ long' _ (U2.out.ext hw') (V2.out.ext hw') (RP'.out.ext hw') (RB'.out.ext hw')) ?_; exact fun _ _ ⟨h1, h2⟩ => ⟨h1, hw'.trans h2⟩) | (go_at_call 18; with_reducible refine Calls.mono (live_any _) ?_; exact fun _ _ ⟨h1, h2⟩ => ⟨h1, hw'.trans h2⟩) | (obtain ⟨p0, p1, p2⟩ := H2.out; obtain ⟨q0, q1, q2⟩ := H3.out; obtain ⟨r0, r1, r2⟩ := H5.out; obtain ⟨s0, s1, s2⟩ := H6.out; obtain ⟨t0, t1, t2⟩ := H7.out; have p0 := hw'.cell p0; have p1 := hw'.cell p1; have p2 := hw'.cell p2; have q0 := hw'.cell q0; have q1 := hw'.cell q1; have q2 := hw'.cell q2; have r0 := hw'.cell r0; have r1 := hw'.cell r1; have r2 := hw'.cell r2; have s0 := hw'.cell s0; have s1 := hw'.cell s1; have s2 := hw'.cell s2; have t0 := hw'.cell t0; have t1 := hw'.cell t1; have t2 := hw'.cell t2; go_simp; first | done | rfl)); clear hK K))
  refine wpQuiet_nil ?_
  intro w9 hw9
  go_wp2
  go_ret
  exact ⟨rfl, HF.out.trans hw9⟩

end Go.Proofs.Ytlbebcioabfbgaa
