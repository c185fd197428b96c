/-
  The law MacrosBehind, walked. Conditions: those that the theorem names.
-/
import Derived.Test.YtlbebcioabfbgaaMacX
import Derived.Test.YtlbebcioabfbgaaMacAA
namespace Go.Proofs.Ytlbebcioabfbgaa
open Go.RowKit Go.Sp
variable {W w w' : World} {F : HProp}

theorem tokens_at (L : List Tok) (v : Value) (w : World) (hn : L.length ≤ 4000000000) (hv : RdT w v L) :
    Calls Try.prog 11 #[v] w fun e w' => ∃ u, e = .returned u ∧ Ext w w' ∧ RdT w' u L := by
  refine Calls.mono (tokens_any L v w hn hv) ?_
  rintro e w' ⟨u, rfl, h⟩
  exact ⟨u, rfl, h.extR, rowT_rd h⟩

/-- Match, with what it makes as something that can be read -/
theorem match_ext (P B L : List Tok) (vp vb vl : Value) (long : Bool) (w : World) (hp : RdT w vp P) (hb : RdT w vb B) (hl : RdT w vl L) (hnP : P.length ≤ 4000000000) (hnB : B.length ≤ 4000000000) (hnL : L.length ≤ 4000000000) :
    Calls Try.prog 20 #[.agg #[vp, vb, .bool long], vl] w fun e w' =>
      (∃ k, matchM P B long L = .error k ∧ e = .returned (.tuple #[.slice none 0 0, .int .i64 0, .int .i64 k]) ∧ Ext w w') ∨
      ∃ x a c, matchM P B long L = .ok x ∧ e = .returned (.tuple #[.slice a x.1.length c, .int .i64 x.2, .int .i64 0]) ∧ Ext w w' ∧ RdTT w' (.slice a x.1.length c) x.1 := by
  refine Calls.mono (match_any P B L vp vb vl long w hp hb hl hnP hnB hnL) ?_
  intro e w' h
  unfold MatchPost at h
  cases hm : matchM P B long L with
  | error k => rw [hm] at h; obtain ⟨rfl, hs⟩ := h; exact .inl ⟨k, rfl, rfl, hs.toExt⟩
  | ok x =>
    rw [hm] at h
    obtain ⟨v, us, rfl, hl, hs⟩ := h
    have hr := rowUU_rd hl hs
    have hr' := hr
    obtain ⟨-, -, -, ⟨a, c, rfl, -⟩, -⟩ := hr'
    exact .inr ⟨x, a, c, rfl, rfl, hs.extR, hr⟩

theorem lists_same (A : List (List Tok)) (v u : Value) (w : World) (hn : A.length ≤ 4000000000) (hv : RdTT w v A) (hu : RdTT w u A) :
    Calls Try.prog 22 #[v, u] w fun e w' => e = .returned (.bool true) ∧ Ext w w' := by
  have := lists_any A A v u w hn hv hu
  simpa using this

set_option maxRecDepth 100000 in
set_option maxHeartbeats 8000000 in
theorem behind_law (P B L M : List Tok) (vp vb vl vm : Value) (long : Bool) (w : World) (hp : RdT w vp P) (hb : RdT w vb B) (hl : RdT w vl L) (hm : RdT w vm M)
    (hnP : P.length ≤ 1048576) (hnB : B.length ≤ 1048576) (hnL : L.length ≤ 1048576) (hnM : M.length ≤ 1048576) :
    Calls Try.prog 8 #[.agg #[vp, vb, .bool long], vl, vm] w fun e w' => e = .returned (.bool true) ∧ Ext w w' := by
  obtain ⟨i0, hi, hz0, hz1, hz2⟩ := info_parts info_tok
  have HI := Lib.hid hi
  have HZ0 := Lib.hid hz0
  have HZ1 := Lib.hid hz1
  have HZ2 := Lib.hid hz2
  clear hi hz0 hz1 hz2
  have h1 := (Sat.start w).alloc (.cells #[vp, vb, .bool long] 29)
  have B2 := Lib.hid h1.blk
  have HX1 := Lib.hid h1.r.toExt
  obtain ⟨nm, hnm⟩ : ∃ nm, M.length = nm := ⟨_, rfl⟩
  obtain ⟨am, cm, hvm, -⟩ := hm.capd
  rw [hnm] at hvm
  subst hvm
  have HP := Lib.hid hp
  have HB := Lib.hid hb
  have HL := Lib.hid hl
  have HM := Lib.hid hm
  have NM := Lib.hid hnm
  have NP := Lib.hid (show P.length ≤ 4000000000 by omega)
  have NB := Lib.hid (show B.length ≤ 4000000000 by omega)
  have NL := Lib.hid (show L.length ≤ 4000000000 by omega)
  have NLM := Lib.hid (show L.length + M.length ≤ 4000000000 by omega)
  clear h1 hp hb hl hm hnP hnB hnL hnm
  go_enter Try.func8, Try.ntmps8
  go_wp2_with fail
  refine Calls.mono (given_at P B vp vb long _ (HP.out.ext HX1.out) (HB.out.ext HX1.out) NP.out NB.out) ?_
  rintro e w1 ⟨ux, vx, rfl, hx, hux, hvx⟩
  have HX2 := Lib.hid hx
  have HUX := Lib.hid hux
  have HVX := Lib.hid hvx
  clear hx hux hvx
  go_wp2_with fail
  refine Calls.mono (tokens_at L vl _ NL.out ((HL.out.ext HX1.out).ext HX2.out)) ?_
  rintro e w2 ⟨ul, rfl, hx, hul⟩
  have HX3 := Lib.hid (HX2.out.trans hx)
  have HMT := Lib.hid (match_ext P B L ux vx ul long w2 (HUX.out.ext hx) (HVX.out.ext hx) hul NP.out NB.out NL.out)
  clear hx hul
  go_wp2_with fail
  refine Calls.mono HMT.out ?_
  rintro e w3 (⟨k, hk, rfl, hx⟩ | ⟨x, a, c, hx, rfl, hx3, hra⟩)
  · have q1 : (k != 0) = true := by simpa using matchM_err hk
    have HX4 := Lib.hid (HX1.out.trans (HX3.out.trans hx))
    clear hx hk
    go_wp2_with (first
      | (go_at_call 14; with_reducible refine Calls.mono (num_any _ _) ?_; rintro e w' ⟨rfl, rfl⟩)
      | (go_at_call 18; with_reducible refine Calls.mono (live_any _) ?_; rintro e w' ⟨rfl, hx⟩; have HX5 := Lib.hid (HX4.out.trans hx); clear hx))
    go_ret
    exact ⟨rfl, HX5.out⟩
  · have HX4 := Lib.hid (HX3.out.trans hx3)
    have HR1 := Lib.hid hra
    have HMX := Lib.hid hx
    obtain ⟨a0, a1, a2⟩ := Ext.three B2.out HX4.out
    have l2 : w.heap.size < w3.heap.size := World.block_lt_of_cell? w3 _ a0
    have HXN := Lib.hid (show x.1.length ≤ 4000000000 by have := (matchM_le hx).1; have := NP.out; omega)
    clear hx hx3 hra HMT HUX HVX
    go_wp2_with ((go_at_call 14; with_reducible refine Calls.mono (num_any _ _) ?_; rintro e w' ⟨rfl, rfl⟩))
    refine Calls.mono (given_at P B vp vb long _ ((HP.out.ext HX1.out).ext HX4.out) ((HB.out.ext HX1.out).ext HX4.out) NP.out NB.out) ?_
    rintro e w4 ⟨uy, vy, rfl, hx, huy, hvy⟩
    have HX5 := Lib.hid (HX4.out.trans hx)
    have HUY := Lib.hid huy
    have HVY := Lib.hid hvy
    have HR2 := Lib.hid (HR1.out.ext hx)
    clear hx huy hvy a0 a1 a2 l2
    go_wp2_with fail
    refine Calls.mono (tokens_any L vl _ NL.out ((HL.out.ext HX1.out).ext HX5.out)) ?_
    rintro e w5 ⟨ul2, rfl, hs⟩
    have HS5 := Lib.hid hs
    clear hs
    go_wp2_with (at_builtin; refine wpList_append_rd rfl _ _ 22 rfl i0 _ 32 Try.underlying22 HI.out HZ0.out HZ1.out HZ2.out rfl (by omega) rfl HS5.out _ M.length (flat M) rfl (((HM.out.ext HX1.out).ext HX5.out).ext HS5.out.extR).1 (flat_one M) ?_ ?_ ?_)
    · have := NLM.out; simp [maxLen]; omega
    · have := NLM.out; omega
    intro v' w6 h6
    have h7 := rowT_app h6 rfl
    have HX6 := Lib.hid (HX5.out.trans h7.extR)
    have HR3 := Lib.hid (HR2.out.ext h7.extR)
    have HMT := Lib.hid (match_ext P B (L ++ M) uy vy v' long w6 (HUY.out.ext h7.extR) (HVY.out.ext h7.extR) (rowT_rd h7) NP.out NB.out (by rw [List.length_append]; exact NLM.out))
    clear h6 h7
    go_wp2_with fail
    refine Calls.mono HMT.out ?_
    have HMM := Lib.hid (match_more M HMX.out)
    rintro e w7 (⟨k, hk, rfl, hx⟩ | ⟨y, a', c', hy, rfl, hx7, hra⟩)
    · have hM : M ≠ [] ∧ (k = 6 ∨ k = 160) := by
        rcases HMM.out with ⟨h0, h1 | h1⟩ | h1
        · rw [hk] at h1; cases h1; exact ⟨h0, .inl rfl⟩
        · rw [hk] at h1; cases h1; exact ⟨h0, .inr rfl⟩
        · rw [hk] at h1; cases h1
      have hmp : (0 : Int) < (nm : Int) := by
        have := NM.out
        have := List.length_pos_iff.2 hM.1
        omega
      have HX7 := Lib.hid (HX1.out.trans (HX6.out.trans hx))
      have hk6 := hM.2
      clear hx hk hM HMT HMM
      rcases hk6 with rfl | rfl
      all_goals
        go_wp2_with (first
          | (go_at_call 14; with_reducible refine Calls.mono (num_any _ _) ?_; rintro e w' ⟨rfl, rfl⟩)
          | (go_at_call 18; with_reducible refine Calls.mono (live_any _) ?_; rintro e w' ⟨rfl, hx⟩; have HX8 := Lib.hid (HX7.out.trans hx); clear hx))
        go_ret
        exact ⟨rfl, HX8.out⟩
    · have hxy : y = x := by
        rcases HMM.out with ⟨h0, h1 | h1⟩ | h1
        · rw [hy] at h1; cases h1
        · rw [hy] at h1; cases h1
        · rw [hy] at h1; cases h1; rfl
      subst hxy
      have HX7 := Lib.hid (HX6.out.trans hx7)
      have HLS := Lib.hid (lists_same y.1 _ _ w7 HXN.out (HR3.out.ext hx7) hra)
      clear hx7 hra hy HMT HMM HR1 HR2 HR3
      go_wp2_with (first
        | (go_at_call 14; with_reducible refine Calls.mono (num_any _ _) ?_; rintro e w' ⟨rfl, rfl⟩)
        | (go_at_call 22; with_reducible refine Calls.mono HLS.out ?_; rintro e w' ⟨rfl, hx⟩; have HX8 := Lib.hid (HX7.out.trans hx); clear hx)
        | (go_at_call 18; with_reducible refine Calls.mono (live_any _) ?_; rintro e w' ⟨rfl, hx⟩; have HX9 := Lib.hid (HX1.out.trans (HX8.out.trans hx)); clear hx))
      go_ret
      exact ⟨rfl, HX9.out⟩

end Go.Proofs.Ytlbebcioabfbgaa
