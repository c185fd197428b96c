
/-
  A table: tokens are kept for a group's end. Conditions: those that each theorem names.
-/
import Derived.Test.YtebggkgciocciaaGreatTabF
namespace Go.Proofs.YtebggkgciocciaaGreat
open Go.RowKit Go.Sp
variable {W w w' : World} {F A : HProp}

def GrpS.keep (g : GrpS) (t : Tok) : GrpS := { g with after := g.after ++ [t] }
/-- what After answers; the last group with a token more -/
def afterE (S : TabS) (t : Tok) : Int :=
  if tokOK t = false then 160 else match S.groups.getLast? with | none => 150 | some g => if g.after.length = 20000 then 6 else 0
noncomputable def afterS (S : TabS) (t : Tok) : TabS :=
  if afterE S t = 0 then { S with groups := S.groups.dropLast ++ (S.groups.getLast?.map (·.keep t)).toList } else S

theorem TabAt.allocD {b N : Nat} {S : TabS} (h : TabAt W F b N S w) {o : Obj} : TabAt W F b N S (w.alloc o) := by
  obtain ⟨m, nm, gs, lt, R, V, h1, h2⟩ := h
  exact ⟨m, nm, gs, lt, R, V, h1, h2.allocD⟩
theorem TabAt.drewN {b N : Nat} {S : TabS} (h : TabAt W F b N S w) {q : Nat} : TabAt W F b N S (w.drewN q) := by
  obtain ⟨m, nm, gs, lt, R, V, h1, h2⟩ := h
  exact ⟨m, nm, gs, lt, R, V, h1, h2.drewN⟩
theorem TabAt.ext {b N : Nat} {S : TabS} (h : TabAt W F b N S w) (k : Ext w w') : TabAt W F b N S w' := by
  obtain ⟨m, nm, gs, lt, R, V, h1, h2⟩ := h
  exact ⟨m, nm, gs, lt, R, V, h1, h2.ext k⟩

theorem snoc_of {α : Type} (l : List α) (h : l ≠ []) : ∃ l' x, l = l' ++ [x] := ⟨l.dropLast, l.getLast h, (List.dropLast_concat_getLast h).symm⟩

theorem _root_.Go.Sp.Sat.rowT_value {v : Value} {L : List Tok} (h : Sat W (rowT v L * A) w) : ∃ a c, v = .slice a L.length c := by
  obtain ⟨a, c, h, _⟩ := (rowT_rd h).capd
  exact ⟨a, c, h⟩

set_option maxRecDepth 100000 in
set_option maxHeartbeats 8000000 in
theorem after_yes {b N : Nat} {S : TabS} (t : Tok) (S0 : List GrpS) (g : GrpS) (hS : S.groups = S0 ++ [g]) (ht : tokOK t = true) (hg : g.after.length < 20000) (h : TabAt W F b N S w) :
    Calls Tryz.prog 24 #[.pointer (some ⟨b, 0, none⟩), Tok.val t] w fun e w' => e = .returned (.int .i64 0) ∧ TabAt W F b N { S with groups := S0 ++ [g.keep t] } w' := by
  obtain ⟨i0, hi, hz0, hz1, hz2⟩ := info_parts3 info_tok
  have HI := Lib.hid hi
  have HZ0 := Lib.hid hz0
  have HZ1 := Lib.hid hz1
  have HZ2 := Lib.hid hz2
  clear hi hz0 hz1 hz2
  have hb0 := h.allocD (o := .cells #[.int .i64 t.cat, .int .u8 t.chr.toNat, .string t.name] 40)
  have HG := Lib.hid (good_any hb0)
  have hTK := token_any t
  rw [ht] at hTK
  have HTK := Lib.hid hTK
  obtain ⟨m, nm, gs, lt, R, V, ⟨h1, h2, h2b, h3, h4⟩, hs⟩ := h
  obtain ⟨V0, v, rfl⟩ := snoc_of V (by rintro rfl; rw [hS] at h3; simp at h3)
  have hV0 : V0.length = S0.length := by rw [hS] at h3; simpa using h3
  rw [hS, grpsH_snoc m v g V0 S0 hV0] at hs
  obtain ⟨⟨hk, hal⟩, nn, rn, f, hf, hs2⟩ := Sat.grp_open (A := pts b (.cells (tabCells nm R gs lt) 34) * (roH m * (mapH Value.string Mean.val nm N S.names * (row gs (V0 ++ [v]).length 83 4 (flatG (V0 ++ [v])) * (grpsH m V0 S0 * F))))) (hs.of_eq (by ac_rfl))
  obtain ⟨n, hn⟩ : ∃ n, V0.length = n := ⟨_, rfl⟩
  rw [show (V0 ++ [v]).length = n + 1 by simp [hn]] at hs2
  have hs3 := hs2.of_eq (show _ = row gs (n + 1) 83 4 (flatG (V0 ++ [v])) * (rowT v.av g.after * (pts b (.cells (tabCells nm R gs lt) 34) * (mapH Value.string Mean.val v.nb nn g.names * (mapH kE2 RegV.val v.rb rn f * (roH m * (mapH Value.string Mean.val nm N S.names * (grpsH m V0 S0 * F))))))) by ac_rfl)
  obtain ⟨_, hcs⟩ := hs3.row_cases
  rcases hcs with ⟨_, h0, _⟩ | ⟨gb, cap, _, hgs, _⟩
  · omega
  subst hgs
  have hget := flatG_get (V0 ++ [v]) n 3 v.av (by simp [hn]) (by rw [List.getElem_append_right (by omega)]; simp [hn, GrpV.cells])
  have hav := hs3.r.rowT_value
  obtain ⟨aa, ac, hva⟩ := hav
  have h5 := (hs3.alloc (Tok.box t)).of_eq (show _ = rowT v.av g.after * (row (.slice (some ⟨gb, 0, none⟩) (n + 1) cap) (n + 1) 83 4 (flatG (V0 ++ [v])) * (pts w.heap.size (Tok.box t) * (pts b (.cells (tabCells nm R (.slice (some ⟨gb, 0, none⟩) (n + 1) cap) lt) 34) * (mapH Value.string Mean.val v.nb nn g.names * (mapH kE2 RegV.val v.rb rn f * (roH m * (mapH Value.string Mean.val nm N S.names * (grpsH m V0 S0 * F)))))))) by ac_rfl)
  obtain ⟨bt, hbt⟩ : ∃ bt, w.heap.size = bt := ⟨_, rfl⟩
  rw [hbt] at h5
  have H5 := Lib.hid h5
  obtain ⟨GC, hGC⟩ : ∃ GC : World → Prop, GC = fun w' => w'.cell? ⟨b, 10753, none⟩ = some (.slice (some ⟨gb, 0, none⟩) (n + 1) cap) ∧ w'.cell? ⟨gb, n * 4 + 3, none⟩ = some v.av ∧ w'.cell? ⟨bt, 0, none⟩ = some (.int .i64 t.cat) ∧ w'.cell? ⟨bt, 1, none⟩ = some (.int .u8 t.chr.toNat) ∧ w'.cell? ⟨bt, 2, none⟩ = some (.string t.name) := ⟨_, rfl⟩
  have HGC := Lib.hid (show ∀ (X : HProp) (w' : World), Sat W (X * (row (.slice (some ⟨gb, 0, none⟩) (n + 1) cap) (n + 1) 83 4 (flatG (V0 ++ [v])) * (pts bt (Tok.box t) * (pts b (.cells (tabCells nm R (.slice (some ⟨gb, 0, none⟩) (n + 1) cap) lt) 34) * (mapH Value.string Mean.val v.nb nn g.names * (mapH kE2 RegV.val v.rb rn f * (roH m * (mapH Value.string Mean.val nm N S.names * (grpsH m V0 S0 * F)))))))) ) w' → GC w' from fun X w' h => by
    rw [hGC]
    exact ⟨h.r.r.r.cell (tab_groups nm R _ lt), h.r.row_cell hget, h.r.r.cell rfl, h.r.r.cell rfl, h.r.r.cell rfl⟩)
  have HK := Lib.hid hk
  have HF := Lib.hid hf
  have H1 := Lib.hid h1
  have H2 := Lib.hid h2
  have H2b := Lib.hid h2b
  have H4 := Lib.hid h4
  have HN := Lib.hid hn
  have HGET := Lib.hid hget
  have HV0 := Lib.hid hV0
  have HS := Lib.hid hS
  have HVA := Lib.hid hva
  obtain ⟨k, hkk⟩ : ∃ k, g.after.length = k := ⟨_, rfl⟩
  have HKK := Lib.hid hkk
  have hk2 : k < 20000 := by omega
  have q1 : ((k : Int) == 20000) = false := by rw [beq_eq_false_iff_ne]; omega
  have q2 : ((n : Int) + 1 == 0) = false := by rw [beq_eq_false_iff_ne]; omega
  have hnn : n ≤ 200 := by rw [hS] at h4; simp at h4; omega
  have cv := HGC.out _ _ h5
  rw [hkk] at hva
  have hl5 := h5.r.r.r.lt
  clear hs hs2 hs3 h1 h2 h2b h3 h4 hf hk hal hget hn hV0 hS hb0 hTK h5 hkk hg ht
  go_enter Tryz.func24, Tryz.ntmps24
  go_upto_region 1 with fail
  generalize w.alloc (.cells #[.int .i64 t.cat, .int .u8 t.chr.toNat, .string t.name] 40) = W1 at *
  clear hbt
  have HC1 := Lib.hid cv
  rw [hGC] at cv
  obtain ⟨c1, c2, c3, c4, c5⟩ := cv
  go_wp2_with fail
  refine Calls.mono HG.out ?_
  rintro e w' ⟨rfl, rfl⟩
  go_wp2_with fail
  refine Calls.mono HG.out ?_
  rintro e w' ⟨rfl, rfl⟩
  go_wp2_with fail
  refine Calls.mono (HTK.out _) ?_
  rintro e w2 ⟨rfl, hx⟩
  have H6 := Lib.hid (H5.out.ext hx)
  have hc6 := HGC.out _ _ H6.out
  have HC6 := Lib.hid hc6
  rw [hGC] at hc6
  clear c1 c2 c3 c4 c5 hx
  obtain ⟨c1, c2, c3, c4, c5⟩ := hc6
  rw [hva] at c2
  have l6 := H6.out.r.r.r.lt
  have l7 := H6.out.r.r.lt
  have wn : IntKind.i64.wrap (n : Int) = (n : Int) := IntWalk.i64_in _ (by omega)
  have wn0 : (0 : Int) ≤ (n : Int) := by omega
  have wn1 : (n : Int) < (n : Int) + 1 := by omega
  go_upto_region 12 with fail
  refine wp_region_E GC (by kernel_rfl) ?_
  refine wpE_take (i := 0) (q := 20) (v := ?_) rfl (by kernel_rfl) (by kernel_rfl) (by kernel_rfl) (by kernel_rfl) (by kernel_rfl) (fun _ _ _ h => h) (by rfl) ?_ ?_
  rotate_left 1
  · intro w hw; go_simp; try with_reducible rfl
  refine wpE_take (i := 1) (q := 20) (v := ?_) rfl (by kernel_rfl) (by kernel_rfl) (by kernel_rfl) (by kernel_rfl) (by kernel_rfl) (fun _ _ _ h => h) (by rfl) ?_ ?_
  rotate_left 1
  · intro w hw; go_simp; try with_reducible rfl
  refine wpE_take (i := 2) (q := 20) (v := ?_) rfl (by kernel_rfl) (by kernel_rfl) (by kernel_rfl) (by kernel_rfl) (by kernel_rfl) (fun _ _ _ h => h) (by rfl) ?_ ?_
  rotate_left 1
  · intro w hw; go_simp; try with_reducible rfl
  refine wpE_take (i := 3) (q := 20) (v := ?_) rfl (by kernel_rfl) (by kernel_rfl) (by kernel_rfl) (by kernel_rfl) (by kernel_rfl) (fun _ _ _ h => h) (by rfl) ?_ ?_
  rotate_left 1
  · intro w hw; (rw [hGC] at hw; obtain ⟨c1, c2, c3, c4, c5⟩ := hw; go_simp; try with_reducible rfl)
  refine wpE_take (i := 4) (q := 20) (v := ?_) rfl (by kernel_rfl) (by kernel_rfl) (by kernel_rfl) (by kernel_rfl) (by kernel_rfl) (fun _ _ _ h => h) (by rfl) ?_ ?_
  rotate_left 1
  · intro w hw; go_simp; try with_reducible rfl
  refine wpE_take (i := 5) (q := 20) (v := ?_) rfl (by kernel_rfl) (by kernel_rfl) (by kernel_rfl) (by kernel_rfl) (by kernel_rfl) (fun _ _ _ h => h) (by rfl) ?_ ?_
  rotate_left 1
  · intro w hw; go_simp; try with_reducible rfl
  refine wpE_take (i := 6) (q := 20) (v := ?_) rfl (by kernel_rfl) (by kernel_rfl) (by kernel_rfl) (by kernel_rfl) (by kernel_rfl) (fun _ _ _ h => h) (by rfl) ?_ ?_
  rotate_left 1
  · intro w hw; go_simp; try with_reducible rfl
  refine wpE_take (i := 7) (q := 20) (v := ?_) rfl (by kernel_rfl) (by kernel_rfl) (by kernel_rfl) (by kernel_rfl) (by kernel_rfl) (fun _ _ _ h => h) (by rfl) ?_ ?_
  rotate_left 1
  · intro w hw; go_simp; try with_reducible rfl
  refine wpE_take (i := 8) (q := 20) (v := ?_) rfl (by kernel_rfl) (by kernel_rfl) (by kernel_rfl) (by kernel_rfl) (by kernel_rfl) (fun _ _ _ h => h) (by rfl) ?_ ?_
  rotate_left 1
  · intro w hw; go_simp; try with_reducible rfl
  refine wpE_take (i := 9) (q := 20) (v := ?_) rfl (by kernel_rfl) (by kernel_rfl) (by kernel_rfl) (by kernel_rfl) (by kernel_rfl) (fun _ _ _ h => h) (by rfl) ?_ ?_
  rotate_left 1
  · intro w hw; (rw [hGC] at hw; obtain ⟨c1, c2, c3, c4, c5⟩ := hw; go_simp; try with_reducible rfl)
  refine wpE_take (i := 10) (q := 20) (v := ?_) rfl (by kernel_rfl) (by kernel_rfl) (by kernel_rfl) (by kernel_rfl) (by kernel_rfl) (fun _ _ _ h => h) (by rfl) ?_ ?_
  rotate_left 1
  · intro w hw; go_simp; try with_reducible rfl
  refine wpE_take (i := 11) (q := 20) (v := ?_) rfl (by kernel_rfl) (by kernel_rfl) (by kernel_rfl) (by kernel_rfl) (by kernel_rfl) (fun _ _ _ h => h) (by rfl) ?_ ?_
  rotate_left 1
  · intro w hw; go_simp; try with_reducible rfl
  refine wpE_take (i := 12) (q := 20) (v := ?_) rfl (by kernel_rfl) (by kernel_rfl) (by kernel_rfl) (by kernel_rfl) (by kernel_rfl) (fun _ _ _ h => h) (by rfl) ?_ ?_
  rotate_left 1
  · intro w hw; go_simp; try with_reducible rfl
  refine wpE_take (i := 13) (q := 20) (v := ?_) rfl (by kernel_rfl) (by kernel_rfl) (by kernel_rfl) (by kernel_rfl) (by kernel_rfl) (fun _ _ _ h => h) (by rfl) ?_ ?_
  rotate_left 1
  · intro w hw; go_simp; try with_reducible rfl
  refine wpE_take (i := 14) (q := 20) (v := ?_) rfl (by kernel_rfl) (by kernel_rfl) (by kernel_rfl) (by kernel_rfl) (by kernel_rfl) (fun _ _ _ h => h) (by rfl) ?_ ?_
  rotate_left 1
  · intro w hw; (rw [hGC] at hw; obtain ⟨c1, c2, c3, c4, c5⟩ := hw; rw [hva] at c2; go_simp; try with_reducible rfl)
  refine wpE_take (i := 15) (q := 20) (v := ?_) rfl (by kernel_rfl) (by kernel_rfl) (by kernel_rfl) (by kernel_rfl) (by kernel_rfl) (fun _ _ _ h => h) (by rfl) ?_ ?_
  rotate_left 1
  · intro w hw; (rw [hGC] at hw; obtain ⟨c1, c2, c3, c4, c5⟩ := hw; go_simp; try with_reducible rfl)
  refine wpE_one (i := 16) rfl (by kernel_rfl) (HGC.out _ _ H6.out.drew) (fun K hK => ?_)
  go_simp
  refine hK _ _ ?_
  clear hK K
  have h7 := (H6.out.drew.alloc (.cells #[.int .i64 t.cat, .int .u8 t.chr.toNat, .string t.name] 40)).row_whole 1 (size := 3) (by simp [maxLen]) rfl
  have H7 := Lib.hid h7
  have hk0 := HKK.out
  have h8 := h7.rot
  unfold rowT at h8
  rw [HKK.out, hva] at h8
  have H8 := Lib.hid h8
  clear h8
  refine wpE_one (i := 17) rfl (by kernel_rfl) (HGC.out _ _ H7.out.r) (fun K hK => ?_)
  refine step_append_rd rfl _ _ 27 rfl i0 _ 32 Tryz.underlying27 HI.out HZ0.out HZ1.out HZ2.out rfl (by omega) rfl H8.out (.slice (some ⟨w2.heap.size, 0, none⟩) 1 1) 1 t.cells rfl H7.out.rd (by simp [Tok.cells, Value.oneCell']) (by simp [maxLen]; omega) (by omega) ?_
  intro v1 w3 h9 _
  have h10 := rowT_snoc (acc := g.after) (t := t) h9 (by rw [HKK.out]) rfl
  obtain ⟨va, vc, hv1⟩ := h10.rowT_value
  have h11 := h10.of_eq (show _ = row (.slice (some ⟨gb, 0, none⟩) (n + 1) cap) (n + 1) 83 4 (flatG (V0 ++ [v])) * (pts b (.cells (tabCells nm R (.slice (some ⟨gb, 0, none⟩) (n + 1) cap) lt) 34) * (rowT v1 (g.after ++ [t]) * (mapH Value.string Mean.val v.nb nn g.names * (mapH kE2 RegV.val v.rb rn f * (roH m * (mapH Value.string Mean.val nm N S.names * (grpsH m V0 S0 * (pts bt (Tok.box t) * (row (.slice (some ⟨w2.heap.size, 0, none⟩) 1 1) 1 40 3 t.cells * F))))))))) by ac_rfl)
  have H11 := Lib.hid h11
  subst hv1
  have r0 := h11.row_cell (j := n * 4 + 3) HGET.out
  have f0 := h11.row_free (i := n * 4 + 3)
  have l0 := h11.r.lt
  have HC11 := Lib.hid (show GC w3 from by
    rw [hGC]
    have hbx := h11.r.r.r.r.r.r.r.r
    exact ⟨h11.r.cell (tab_groups nm R _ lt), h11.row_cell HGET.out, hbx.cell rfl, hbx.cell rfl, hbx.cell rfl⟩)
  have HSET := Lib.hid (h11.row_set (i := n * 4 + 3) (u := .slice va (g.after ++ [t]).length vc))
  clear h9 h10 h11 H7 H8
  go_simp
  refine hK _ _ ?_
  clear hK K
  refine wpE_take (i := 18) (q := 19) (v := ?_) rfl (by kernel_rfl) (by kernel_rfl) (by kernel_rfl) (by kernel_rfl) (by kernel_rfl) (fun _ _ _ h => h) (by rfl) ?_ ?_
  rotate_left 1
  · intro w hw; go_simp; try with_reducible rfl
  refine wpE_take (i := 19) (q := 20) (v := ?_) rfl (by kernel_rfl) (by kernel_rfl) (by kernel_rfl) (by kernel_rfl) (by kernel_rfl) (fun _ _ _ h => h) (by rfl) ?_ ?_
  rotate_left 1
  · intro w hw; go_simp; try with_reducible rfl
  refine wpE_one (i := 20) rfl (by kernel_rfl) (HC11.out) (fun K hK => ?_)
  go_simp
  refine hK _ _ ?_
  clear hK K
  refine wpE_done (by kernel_rfl) (by kernel_rfl) ?_
  clear wn wn0 wn1 r0 f0
  go_wp2
  go_ret
  refine ⟨rfl, m, nm, .slice (some ⟨gb, 0, none⟩) (n + 1) cap, lt, R, V0 ++ [⟨v.kind, v.nb, v.rb, .slice va (k + 1) vc⟩], ⟨H1.out, H2.out, H2b.out, ?_, ?_⟩, ?_⟩
  · have h1 := HV0.out; have h2 := HN.out; simp [h1]
  · have h1 := H4.out; rw [HS.out] at h1; simpa using h1
  · have h12 := HSET.out
    have hlen : (g.after ++ [t]).length = k + 1 := by rw [List.length_append, HKK.out]; rfl
    rw [hlen] at h12
    have e1 : (flatG (V0 ++ [v])).set (n * 4 + 3) (.slice va (k + 1) vc) = flatG (V0 ++ [⟨v.kind, v.nb, v.rb, .slice va (k + 1) vc⟩]) := by
      rw [flatG_app, flatG_app, List.set_append_right _ _ (by rw [flatG_len, HN.out]; omega), flatG_len, HN.out]
      congr 1
      rw [show n * 4 + 3 - n * 4 = 3 by omega]
      rfl
    rw [e1] at h12
    have h13 : Sat W (mapH Value.string Mean.val v.nb nn (g.keep t).names * (mapH kE2 RegV.val v.rb rn f * (rowT (.slice va (k + 1) vc) (g.keep t).after * (row (.slice (some ⟨gb, 0, none⟩) (n + 1) cap) (n + 1) 83 4 (flatG (V0 ++ [⟨v.kind, v.nb, v.rb, .slice va (k + 1) vc⟩])) * (pts b (.cells (tabCells nm R (.slice (some ⟨gb, 0, none⟩) (n + 1) cap) lt) 34) * (roH m * (mapH Value.string Mean.val nm N S.names * (grpsH m V0 S0 * F))))))) ) (w3.setCell ⟨gb, n * 4 + 3, none⟩ (.slice va (k + 1) vc)) := by
      have h14 := h12.of_eq (show _ = pts bt (Tok.box t) * (row (.slice (some ⟨w2.heap.size, 0, none⟩) 1 1) 1 40 3 t.cells * (mapH Value.string Mean.val v.nb nn (g.keep t).names * (mapH kE2 RegV.val v.rb rn f * (rowT (.slice va (k + 1) vc) (g.keep t).after * (row (.slice (some ⟨gb, 0, none⟩) (n + 1) cap) (n + 1) 83 4 (flatG (V0 ++ [⟨v.kind, v.nb, v.rb, .slice va (k + 1) vc⟩])) * (pts b (.cells (tabCells nm R (.slice (some ⟨gb, 0, none⟩) (n + 1) cap) lt) 34) * (roH m * (mapH Value.string Mean.val nm N S.names * (grpsH m V0 S0 * F))))))))) by
        simp only [GrpS.keep]; ac_rfl)
      exact h14.r.r
    have h15 := Sat.grp_mk (m := m) (v := ⟨v.kind, v.nb, v.rb, .slice va (k + 1) vc⟩) (s := g.keep t) h13 ⟨HK.out, by show (g.after ++ [t]).length ≤ 20000; rw [hlen]; omega⟩ HF.out
    refine h15.of_eq ?_
    rw [show ({ S with groups := S0 ++ [g.keep t] } : TabS).groups = S0 ++ [g.keep t] from rfl, grpsH_snoc m _ _ V0 S0 HV0.out, show (V0 ++ [(⟨v.kind, v.nb, v.rb, .slice va (k + 1) vc⟩ : GrpV)]).length = n + 1 by simp [HN.out]]
    ac_rfl

theorem afterE_bad {S : TabS} {t : Tok} (h : tokOK t = false) : afterE S t = 160 := by rw [afterE, if_pos h]
theorem afterE_none {S : TabS} {t : Tok} (h : tokOK t = true) (hg : S.groups = []) : afterE S t = 150 := by rw [afterE, if_neg (by rw [h]; decide), hg]; rfl
theorem afterE_last {S : TabS} {t : Tok} {S0 : List GrpS} {g : GrpS} (h : tokOK t = true) (hg : S.groups = S0 ++ [g]) : afterE S t = if g.after.length = 20000 then 6 else 0 := by
  rw [afterE, if_neg (by rw [h]; decide), hg, List.getLast?_concat]
theorem afterS_no {S : TabS} {t : Tok} (h : afterE S t ≠ 0) : afterS S t = S := by rw [afterS, if_neg h]
theorem afterS_yes {S : TabS} {t : Tok} {S0 : List GrpS} {g : GrpS} (h : afterE S t = 0) (hg : S.groups = S0 ++ [g]) : afterS S t = { S with groups := S0 ++ [g.keep t] } := by
  rw [afterS, if_pos h, hg, List.getLast?_concat, List.dropLast_concat]; rfl

theorem TabAt.last {b N : Nat} {S : TabS} {S0 : List GrpS} {g : GrpS} (hS : S.groups = S0 ++ [g]) (h : TabAt W F b N S w) : g.after.length ≤ 20000 := by
  obtain ⟨m, nm, gs, lt, R, V, ⟨h1, h2, h2b, h3, h4⟩, hs⟩ := h
  obtain ⟨V0, v, rfl⟩ := snoc_of V (by rintro rfl; rw [hS] at h3; simp at h3)
  have hV0 : V0.length = S0.length := by rw [hS] at h3; simpa using h3
  rw [hS, grpsH_snoc m v g V0 S0 hV0] at hs
  have hs1 := (hs.r.r.r.r).asc
  exact (Sat.grp_open hs1).1.2


set_option maxRecDepth 100000 in
set_option maxHeartbeats 8000000 in
theorem after_any {b N : Nat} {S : TabS} (t : Tok) (h : TabAt W F b N S w) :
    Calls Tryz.prog 24 #[.pointer (some ⟨b, 0, none⟩), Tok.val t] w fun e w' => e = .returned (.int .i64 (afterE S t)) ∧ TabAt W F b N (afterS S t) w' := by
  have hb0 := h.allocD (o := .cells #[.int .i64 t.cat, .int .u8 t.chr.toNat, .string t.name] 40)
  have HG := Lib.hid (good_any hb0)
  have hTK := token_any t
  have HB := Lib.hid hb0
  have hbx := (h.sat.alloc (.cells #[.int .i64 t.cat, .int .u8 t.chr.toNat, .string t.name] 40))
  obtain ⟨bt, hbt⟩ : ∃ bt, w.heap.size = bt := ⟨_, rfl⟩
  rw [hbt] at hbx
  have x0 := hbx.cell (i := 0) rfl
  have x1 := hbx.cell (i := 1) rfl
  have x2 := hbx.cell (i := 2) rfl
  have lx := hbx.lt
  obtain ⟨m, nm, gs, lt, R, V, ⟨_, _, _, h3, _⟩, hs⟩ := hb0
  obtain ⟨a, cap, rfl⟩ := Sat.row_value hs.r.r.r
  have c0 := hs.cell (i := 10753) (tab_groups nm R _ lt)
  have lb := hs.lt
  have HS := Lib.hid hs
  by_cases ht : tokOK t = true
  · rcases List.eq_nil_or_concat S.groups with hg | ⟨S0, g, hg⟩
    · have e1 := afterE_none ht hg
      rw [e1, afterS_no (by rw [e1]; decide)]
      rw [h3, hg] at c0
      rw [ht] at hTK
      have HTK := Lib.hid hTK
      simp only [List.length_nil] at c0
      clear h hTK hbx hs h3 e1 hg ht
      go_enter Tryz.func24, Tryz.ntmps24
      go_upto_region 1 with fail
      generalize w.alloc (.cells #[.int .i64 t.cat, .int .u8 t.chr.toNat, .string t.name] 40) = W1 at *
      clear hbt
      go_wp2_with fail
      refine Calls.mono HG.out ?_
      rintro e w' ⟨rfl, rfl⟩
      go_wp2_with fail
      refine Calls.mono HG.out ?_
      rintro e w' ⟨rfl, rfl⟩
      go_wp2_with fail
      refine Calls.mono (HTK.out _) ?_
      rintro e w2 ⟨rfl, hx⟩
      have H6 := Lib.hid (HB.out.ext hx)
      clear c0 x0 x1 x2 hx
      go_wp2
      go_ret
      exact ⟨rfl, H6.out⟩
    · rw [List.concat_eq_append] at hg
      have hle := h.last hg
      have e0 := afterE_last ht hg
      by_cases hf : g.after.length = 20000
      · have e1 : afterE S t = 6 := by rw [e0, if_pos hf]
        rw [e1, afterS_no (by rw [e1]; decide)]
        obtain ⟨V0, v, rfl⟩ := snoc_of V (by rintro rfl; rw [hg] at h3; simp at h3)
        have hV0 : V0.length = S0.length := by rw [hg] at h3; simpa using h3
        rw [hg, grpsH_snoc m v g V0 S0 hV0] at hs
        obtain ⟨_, nn, rn, f, hff, hs2⟩ := Sat.grp_open (hs.r.r.r.r.asc)
        obtain ⟨aa, ac, hva⟩ := hs2.r.r.rowT_value
        rw [hf] at hva
        obtain ⟨n, hn⟩ : ∃ n, V0.length = n := ⟨_, rfl⟩
        have hs3 := hs.r.r.r
        rw [show (V0 ++ [v]).length = n + 1 by simp [hn]] at hs3 c0
        obtain ⟨_, hcs⟩ := hs3.row_cases
        rcases hcs with ⟨_, h0, _⟩ | ⟨gb, cap', _, hgs, _⟩
        · omega
        simp only [Value.slice.injEq] at hgs
        obtain ⟨rfl, -, rfl⟩ := hgs
        have hget := flatG_get (V0 ++ [v]) n 3 v.av (by simp [hn]) (by rw [List.getElem_append_right (by omega)]; simp [hn, GrpV.cells])
        have c3 := hs3.row_cell hget
        rw [hva] at c3
        have lg := World.block_lt_of_cell? _ _ c3
        have hnn : n ≤ 200 := by have := h.le; rw [hg] at this; simp at this; omega
        have q2 : ((n : Int) + 1 == 0) = false := by rw [beq_eq_false_iff_ne]; omega
        have C0 := Lib.hid c0
        have C3 := Lib.hid c3
        rw [ht] at hTK
        have HTK := Lib.hid hTK
        clear h hTK hbx hs hs2 hs3 h3 e1 e0 hg ht hf hle hget hn hV0 hva hff
        go_enter Tryz.func24, Tryz.ntmps24
        go_upto_region 1 with fail
        generalize w.alloc (.cells #[.int .i64 t.cat, .int .u8 t.chr.toNat, .string t.name] 40) = W1 at *
        clear hbt
        go_wp2_with fail
        refine Calls.mono HG.out ?_
        rintro e w' ⟨rfl, rfl⟩
        go_wp2_with fail
        refine Calls.mono HG.out ?_
        rintro e w' ⟨rfl, rfl⟩
        go_wp2_with fail
        refine Calls.mono (HTK.out _) ?_
        rintro e w2 ⟨rfl, hx⟩
        have H6 := Lib.hid (HB.out.ext hx)
        have d0 := hx.cell C0.out
        have d3 := hx.cell C3.out
        clear c0 c3 x0 x1 x2 hx
        go_wp2
        go_ret
        exact ⟨rfl, H6.out⟩
      · have e1 : afterE S t = 0 := by rw [e0, if_neg hf]
        rw [e1, afterS_yes e1 hg]
        exact after_yes t S0 g hg ht (by omega) h
  · have ht2 : tokOK t = false := by simpa using ht
    have e1 := afterE_bad (S := S) ht2
    rw [e1, afterS_no (by rw [e1]; decide)]
    rw [ht2] at hTK
    have HTK := Lib.hid hTK
    clear h hTK hbx hs e1 ht ht2 h3
    go_enter Tryz.func24, Tryz.ntmps24
    go_upto_region 1 with fail
    generalize w.alloc (.cells #[.int .i64 t.cat, .int .u8 t.chr.toNat, .string t.name] 40) = W1 at *
    clear hbt
    go_wp2_with fail
    refine Calls.mono HG.out ?_
    rintro e w' ⟨rfl, rfl⟩
    go_wp2_with fail
    refine Calls.mono HG.out ?_
    rintro e w' ⟨rfl, rfl⟩
    go_wp2_with fail
    refine Calls.mono (HTK.out _) ?_
    rintro e w2 ⟨rfl, hx⟩
    have H6 := Lib.hid (HB.out.ext hx)
    clear c0 x0 x1 x2 hx
    go_wp2
    go_ret
    exact ⟨rfl, H6.out⟩

end Go.Proofs.YtebggkgciocciaaGreat
