
/-
  A macro in memory of its own; macros as text. Conditions: those that each theorem names.
-/
import Derived.Test.YtlfekbmcegbhoaaDoorLogO
namespace Go.Proofs.YtlfekbmcegbhoaaDoor
open Go.RowKit Go.Sp
variable {W w w' : World} {F F' : HProp}

abbrev mB (vp vb : Value) (long : Bool) : Obj := .cells #[vp, vb, .bool long] 45
abbrev mQ (vp vb : Value) (long : Bool) : Obj := .cells #[vp, vb, .bool long] 49


theorem row_empty (h : Sat W F w) : Sat W (row (.slice (some ⟨w.heap.size, 0, none⟩) 0 0) 0 55 3 [] * F) (w.alloc (.cells #[] 55)) :=
  (h.alloc (.cells #[] 55)).row_whole 0 (size := 3) (by simp [maxLen]) (by simp)
theorem rowT_one {v : Value} {X : List Tok} {n : Nat} {xs : List Value} (h : Sat W (row v n 55 3 xs * F) w) (hn : n = X.length) (hx : xs = flat X) : Sat W (rowT v X * F) w := by
  subst hn hx; exact h

set_option maxRecDepth 100000 in
set_option maxHeartbeats 8000000 in
theorem ownL_any (P B : List Tok) (vp vb : Value) (long : Bool) (w : World) (hp : RdT w vp P) (hb : RdT w vb B) (hnP : P.length ≤ 4000000000) (hnB : B.length ≤ 4000000000) :
    Calls Tryd.prog 16 #[.agg #[vp, vb, .bool long]] w fun e w' => ∃ u v, e = .returned (.agg #[u, v, .bool long]) ∧ Sat w (rowT u P * (rowT v B * own w)) w' := by
  obtain ⟨i0, hi, hz0, hz1, hz2⟩ := info_parts3 info_tok
  have HI := Lib.hid hi
  have HZ0 := Lib.hid hz0
  have HZ1 := Lib.hid hz1
  have HZ2 := Lib.hid hz2
  clear hi hz0 hz1 hz2
  have h1 := ((Sat.start w).alloc (mB vp vb long)).alloc (mQ (.slice none 0 0) (.slice none 0 0) false)
  have e1 : (w.alloc (mB vp vb long)).heap.size = w.heap.size + 1 := by simp
  rw [e1] at h1
  clear e1
  have HP := Lib.hid hp
  have HB := Lib.hid hb
  have NP := Lib.hid hnP
  have NB := Lib.hid hnB
  clear hp hb hnP hnB
  go_enter Tryd.func16, Tryd.ntmps16
  go_wp2
  generalize hw2 : (w.alloc (mB vp vb long)).alloc (mQ (.slice none 0 0) (.slice none 0 0) false) = w2 at *
  generalize hbm : w.heap.size = bm at *
  obtain ⟨rb, hrb⟩ : ∃ rb, bm + 1 = rb := ⟨_, rfl⟩
  rw [hrb] at h1
  rw [hrb]
  clear hrb hbm hw2
  have H1 := Lib.hid h1
  have HX := Lib.hid h1.r.r.toExt
  clear h1
  refine wp_region_C (fun w' => ∃ cs, Sat w (pts rb (.cells cs 49) * (pts bm (mB vp vb long) * own w)) w') (by kernel_rfl) ?_
  refine wpC_take (i := 1) (v := ?_) rfl (by kernel_rfl) (by kernel_rfl) (by kernel_rfl) (fun _ _ _ h => h) (by rfl) ?_ ?_
  rotate_left 1
  · intro w hw; (obtain ⟨cs, hw⟩ := hw; have r0 := hw.r.cell (i := 0) rfl; have lr := hw.r.lt; go_simp; try with_reducible rfl)
  refine wpC_take (i := 2) (v := ?_) rfl (by kernel_rfl) (by kernel_rfl) (by kernel_rfl) (fun _ _ _ h => h) (by rfl) ?_ ?_
  rotate_left 1
  · intro w hw; (obtain ⟨cs, hw⟩ := hw; have r0 := hw.r.cell (i := 0) rfl; have lr := hw.r.lt; go_simp; try with_reducible rfl)
  refine wpC_take (i := 5) (v := ?_) rfl (by kernel_rfl) (by kernel_rfl) (by kernel_rfl) (fun _ _ _ h => h) (by rfl) ?_ ?_
  rotate_left 1
  · intro w hw; (obtain ⟨cs, hw⟩ := hw; have r0 := hw.r.cell (i := 1) rfl; have lr := hw.r.lt; go_simp; try with_reducible rfl)
  refine wpC_take (i := 6) (v := ?_) rfl (by kernel_rfl) (by kernel_rfl) (by kernel_rfl) (fun _ _ _ h => h) (by rfl) ?_ ?_
  rotate_left 1
  · intro w hw; (obtain ⟨cs, hw⟩ := hw; have r0 := hw.r.cell (i := 1) rfl; have lr := hw.r.lt; go_simp; try with_reducible rfl)
  refine wpC_take (i := 8) (v := ?_) rfl (by kernel_rfl) (by kernel_rfl) (by kernel_rfl) (fun _ _ _ h => h) (by rfl) ?_ ?_
  rotate_left 1
  · intro w hw; (obtain ⟨cs, hw⟩ := hw; have r0 := hw.r.cell (i := 2) rfl; have lr := hw.r.lt; go_simp; try with_reducible rfl)
  refine wpC_take (i := 9) (v := ?_) rfl (by kernel_rfl) (by kernel_rfl) (by kernel_rfl) (fun _ _ _ h => h) (by rfl) ?_ ?_
  rotate_left 1
  · intro w hw; (obtain ⟨cs, hw⟩ := hw; have r0 := hw.r.cell (i := 2) rfl; have lr := hw.r.lt; go_simp; try with_reducible rfl)
  refine wpC_ready (rs := [0, 4]) (by kernel_rfl) (by simp) (⟨_, H1.out.drew⟩) ?_
  refine AllReadyC.cons rfl (fun K hK => ?_) ?_
  · go_simp
    refine hK _ _ ?_
    clear hK K
    have H2 := Lib.hid (row_empty H1.out.drew)
    refine wpC_ready (rs := [3, 4]) (by kernel_rfl) (by simp) (⟨_, H2.out.r⟩) ?_
    refine AllReadyC.cons rfl (fun K hK => ?_) ?_
    · skip
      refine step_append_rd rfl _ _ 39 rfl i0 _ 32 Tryd.underlying39 HI.out HZ0.out HZ1.out HZ2.out rfl (by omega) rfl H2.out vp (P).length (flat P) rfl ((HP.out.ext H2.out.r.r.r.toExt).1) (flat_one P) (by simp [maxLen]; have := NP.out; have := NB.out; omega) (by have := NP.out; have := NB.out; omega) ?_
      intro v1 w3 hq _
      have hq' := rowT_one (X := P) hq (by simp) (by simp)
      obtain ⟨pa, pc, rfl, -⟩ := (rowT_rd hq').capd
      have H3 := Lib.hid hq'
      clear hq hq'
      go_simp
      refine hK _ _ ?_
      clear hK K
      refine wpC_one (i := 4) rfl (by kernel_rfl) (⟨_, H3.out.r⟩) (fun K hK => ?_)
      go_simp
      go_simp
      refine hK _ _ ?_
      clear hK K
      have H4 := Lib.hid (row_empty H3.out)
      refine wpC_one (i := 7) rfl (by kernel_rfl) (⟨_, H4.out.r.r⟩) (fun K hK => ?_)
      refine step_append_rd rfl _ _ 39 rfl i0 _ 32 Tryd.underlying39 HI.out HZ0.out HZ1.out HZ2.out rfl (by omega) rfl H4.out vb (B).length (flat B) rfl ((HB.out.ext H4.out.r.r.r.r.toExt).1) (flat_one B) (by simp [maxLen]; have := NP.out; have := NB.out; omega) (by have := NP.out; have := NB.out; omega) ?_
      intro v2 w4 hq _
      have hq' := rowT_one (X := B) hq (by simp) (by simp)
      obtain ⟨qa, qc, rfl, -⟩ := (rowT_rd hq').capd
      have H5 := Lib.hid hq'
      clear hq hq'
      go_simp
      refine hK _ _ ?_
      clear hK K
      have HQ := Lib.hid H5.out
      have r0 := HQ.out.r.r.cell (i := 0) rfl
      have r1 := HQ.out.r.r.cell (i := 1) rfl
      have r2 := HQ.out.r.r.cell (i := 2) rfl
      have f0 := HQ.out.r.r.free (i := 0)
      have f1 := HQ.out.r.r.free (i := 1)
      have f2 := HQ.out.r.r.free (i := 2)
      have lr := HQ.out.r.r.lt
      refine wpC_take (i := 10) (v := ?_) rfl (by kernel_rfl) (by kernel_rfl) (by kernel_rfl) (fun _ _ _ h => h) (by rfl) ?_ ?_
      rotate_left 1
      · intro w hw; go_simp; try with_reducible rfl
      have HF := (((HQ.out.asc'.comm.asc.set (i := 0) (v := .slice pa P.length pc)).set (i := 1) (v := .slice qa B.length qc)).set (i := 2) (v := .bool long))
      have HG := Lib.hid HF
      refine wpC_one (i := 11) rfl (by kernel_rfl) (⟨_, HQ.out.r.r⟩) (fun K hK => ?_)
      go_simp
      go_simp
      refine hK _ _ ?_
      clear hK K
      refine wpC_done (by kernel_rfl) (⟨_, HG.out.asc'.comm.r⟩) ?_
      have g0 := HG.out.cell (i := 0) rfl
      have g1 := HG.out.cell (i := 1) rfl
      have g2 := HG.out.cell (i := 2) rfl
      go_wp2
      (try simp only [Exit.inBlock, Exit.then])
      refine bodyPost_ret (v := .agg #[.slice pa P.length pc, .slice qa B.length qc, .bool long]) (by unfold results; go_simp) rfl ?_
      exact ⟨_, _, rfl, (HG.out.r.of_eq (by ac_rfl) : Sat w (pts bm (mB vp vb long) * (rowT (.slice pa P.length pc) P * (rowT (.slice qa B.length qc) B * own w))) _).r⟩
    refine AllReadyC.cons rfl (fun K hK => ?_) ?_
    · go_simp
      refine hK _ _ ?_
      clear hK K
      have h3 := row_empty H2.out
      rw [show (w2.drew.alloc (.cells #[] 55)).heap.size = w2.heap.size + 1 by simp] at h3
      have H3 := Lib.hid h3
      clear h3
      refine wpC_one (i := 3) rfl (by kernel_rfl) (⟨_, H3.out.r.r⟩) (fun K hK => ?_)
      have HR1 := Lib.hid H3.out.rot
      refine step_append_rd rfl _ _ 39 rfl i0 _ 32 Tryd.underlying39 HI.out HZ0.out HZ1.out HZ2.out rfl (by omega) rfl HR1.out vp (P).length (flat P) rfl ((HP.out.ext H3.out.r.r.r.r.toExt).1) (flat_one P) (by simp [maxLen]; have := NP.out; have := NB.out; omega) (by have := NP.out; have := NB.out; omega) ?_
      intro v1 w4 hq _
      have hq' := rowT_one (X := P) hq (by simp) (by simp)
      obtain ⟨pa, pc, rfl, -⟩ := (rowT_rd hq').capd
      have H4 := Lib.hid hq'
      clear hq hq'
      go_simp
      refine hK _ _ ?_
      clear hK K
      refine wpC_one (i := 7) rfl (by kernel_rfl) (⟨_, H4.out.r.r⟩) (fun K hK => ?_)
      have HR2 := Lib.hid H4.out.rot
      refine step_append_rd rfl _ _ 39 rfl i0 _ 32 Tryd.underlying39 HI.out HZ0.out HZ1.out HZ2.out rfl (by omega) rfl HR2.out vb (B).length (flat B) rfl ((HB.out.ext H4.out.r.r.r.r.toExt).1) (flat_one B) (by simp [maxLen]; have := NP.out; have := NB.out; omega) (by have := NP.out; have := NB.out; omega) ?_
      intro v2 w5 hq _
      have hq' := rowT_one (X := B) hq (by simp) (by simp)
      obtain ⟨qa, qc, rfl, -⟩ := (rowT_rd hq').capd
      have H5 := Lib.hid hq'
      clear hq hq'
      go_simp
      refine hK _ _ ?_
      clear hK K
      have HQ := Lib.hid H5.out
      have r0 := HQ.out.r.r.cell (i := 0) rfl
      have r1 := HQ.out.r.r.cell (i := 1) rfl
      have r2 := HQ.out.r.r.cell (i := 2) rfl
      have f0 := HQ.out.r.r.free (i := 0)
      have f1 := HQ.out.r.r.free (i := 1)
      have f2 := HQ.out.r.r.free (i := 2)
      have lr := HQ.out.r.r.lt
      refine wpC_take (i := 10) (v := ?_) rfl (by kernel_rfl) (by kernel_rfl) (by kernel_rfl) (fun _ _ _ h => h) (by rfl) ?_ ?_
      rotate_left 1
      · intro w hw; go_simp; try with_reducible rfl
      have HF := (((HQ.out.asc'.comm.asc.set (i := 0) (v := .slice pa P.length pc)).set (i := 1) (v := .slice qa B.length qc)).set (i := 2) (v := .bool long))
      have HG := Lib.hid HF
      refine wpC_one (i := 11) rfl (by kernel_rfl) (⟨_, HQ.out.r.r⟩) (fun K hK => ?_)
      go_simp
      go_simp
      refine hK _ _ ?_
      clear hK K
      refine wpC_done (by kernel_rfl) (⟨_, HG.out.asc'.comm.r⟩) ?_
      have g0 := HG.out.cell (i := 0) rfl
      have g1 := HG.out.cell (i := 1) rfl
      have g2 := HG.out.cell (i := 2) rfl
      go_wp2
      (try simp only [Exit.inBlock, Exit.then])
      refine bodyPost_ret (v := .agg #[.slice pa P.length pc, .slice qa B.length qc, .bool long]) (by unfold results; go_simp) rfl ?_
      exact ⟨_, _, rfl, (HG.out.r.of_eq (by ac_rfl) : Sat w (pts bm (mB vp vb long) * (rowT (.slice pa P.length pc) P * (rowT (.slice qa B.length qc) B * own w))) _).r⟩
    exact AllReadyC.nil
  refine AllReadyC.cons rfl (fun K hK => ?_) ?_
  · go_simp
    refine hK _ _ ?_
    clear hK K
    have H2 := Lib.hid (row_empty H1.out.drew)
    refine wpC_one (i := 0) rfl (by kernel_rfl) (⟨_, H2.out.r⟩) (fun K hK => ?_)
    go_simp
    go_simp
    refine hK _ _ ?_
    clear hK K
    have h3 := row_empty H2.out
    rw [show (w2.drew.alloc (.cells #[] 55)).heap.size = w2.heap.size + 1 by simp] at h3
    have H3 := Lib.hid h3
    clear h3
    refine wpC_one (i := 3) rfl (by kernel_rfl) (⟨_, H3.out.r.r⟩) (fun K hK => ?_)
    refine step_append_rd rfl _ _ 39 rfl i0 _ 32 Tryd.underlying39 HI.out HZ0.out HZ1.out HZ2.out rfl (by omega) rfl H3.out vp (P).length (flat P) rfl ((HP.out.ext H3.out.r.r.r.r.toExt).1) (flat_one P) (by simp [maxLen]; have := NP.out; have := NB.out; omega) (by have := NP.out; have := NB.out; omega) ?_
    intro v1 w4 hq _
    have hq' := rowT_one (X := P) hq (by simp) (by simp)
    obtain ⟨pa, pc, rfl, -⟩ := (rowT_rd hq').capd
    have H4 := Lib.hid hq'
    clear hq hq'
    go_simp
    refine hK _ _ ?_
    clear hK K
    refine wpC_one (i := 7) rfl (by kernel_rfl) (⟨_, H4.out.r.r⟩) (fun K hK => ?_)
    have HR3 := Lib.hid H4.out.rot
    refine step_append_rd rfl _ _ 39 rfl i0 _ 32 Tryd.underlying39 HI.out HZ0.out HZ1.out HZ2.out rfl (by omega) rfl HR3.out vb (B).length (flat B) rfl ((HB.out.ext H4.out.r.r.r.r.toExt).1) (flat_one B) (by simp [maxLen]; have := NP.out; have := NB.out; omega) (by have := NP.out; have := NB.out; omega) ?_
    intro v2 w5 hq _
    have hq' := rowT_one (X := B) hq (by simp) (by simp)
    obtain ⟨qa, qc, rfl, -⟩ := (rowT_rd hq').capd
    have H5 := Lib.hid hq'
    clear hq hq'
    go_simp
    refine hK _ _ ?_
    clear hK K
    have HQ := Lib.hid H5.out
    have r0 := HQ.out.r.r.cell (i := 0) rfl
    have r1 := HQ.out.r.r.cell (i := 1) rfl
    have r2 := HQ.out.r.r.cell (i := 2) rfl
    have f0 := HQ.out.r.r.free (i := 0)
    have f1 := HQ.out.r.r.free (i := 1)
    have f2 := HQ.out.r.r.free (i := 2)
    have lr := HQ.out.r.r.lt
    refine wpC_take (i := 10) (v := ?_) rfl (by kernel_rfl) (by kernel_rfl) (by kernel_rfl) (fun _ _ _ h => h) (by rfl) ?_ ?_
    rotate_left 1
    · intro w hw; go_simp; try with_reducible rfl
    have HF := (((HQ.out.asc'.comm.asc.set (i := 0) (v := .slice pa P.length pc)).set (i := 1) (v := .slice qa B.length qc)).set (i := 2) (v := .bool long))
    have HG := Lib.hid HF
    refine wpC_one (i := 11) rfl (by kernel_rfl) (⟨_, HQ.out.r.r⟩) (fun K hK => ?_)
    go_simp
    go_simp
    refine hK _ _ ?_
    clear hK K
    refine wpC_done (by kernel_rfl) (⟨_, HG.out.asc'.comm.r⟩) ?_
    have g0 := HG.out.cell (i := 0) rfl
    have g1 := HG.out.cell (i := 1) rfl
    have g2 := HG.out.cell (i := 2) rfl
    go_wp2
    (try simp only [Exit.inBlock, Exit.then])
    refine bodyPost_ret (v := .agg #[.slice pa P.length pc, .slice qa B.length qc, .bool long]) (by unfold results; go_simp) rfl ?_
    exact ⟨_, _, rfl, (HG.out.r.of_eq (by ac_rfl) : Sat w (pts bm (mB vp vb long) * (rowT (.slice pa P.length pc) P * (rowT (.slice qa B.length qc) B * own w))) _).r⟩
  exact AllReadyC.nil

def macB (C : List Int) (P B : List Tok) : List UInt8 := [109, 97, 99, 114, 111, 58] ++ (tokM C 4611686018427387904 P).1 ++ [45, 62] ++ (tokM C 4611686018427387904 B).1
def longB : List UInt8 := [92, 108, 111, 110, 103, 32]
/-- what Macro answers -/
def macM (C : List Int) (P B : List Tok) (long : Bool) : List UInt8 × Int := if check P B then ((if long then longB ++ macB C P B else macB C P B), 0) else ([], 170)
theorem macM_no {C : List Int} {P B : List Tok} {long : Bool} (h : check P B = false) : macM C P B long = ([], 170) := by simp [macM, h]
theorem macM_yes {C : List Int} {P B : List Tok} (h : check P B = true) : macM C P B false = (macB C P B, 0) ∧ macM C P B true = (longB ++ macB C P B, 0) := by simp [macM, h]

/-- strings joined, with their sizes -/
theorem join_sz {a b : ByteArray} {m n : Nat} (ha : a.size = m) (hb : b.size = n) : ∃ s, a ++ b = s ∧ s.size = m + n := ⟨_, rfl, by rw [ByteArray.size_append, ha, hb]⟩
theorem str_eq (a : List UInt8) (s : ByteArray) (h : (⟨a.toArray⟩ : ByteArray) = s) : s = ⟨a.toArray⟩ := h.symm


set_option maxRecDepth 1000000 in
set_option maxHeartbeats 8000000 in
theorem macro_any (C : List Int) (hC : C.length = 256) (P B : List Tok) (vp vb : Value) (long : Bool) (hp : ∀ w', Sat W F w' → RdT w' vp P) (hb : ∀ w', Sat W F w' → RdT w' vb B) (hlP : P.length ≤ 4000000000) (hlB : B.length ≤ 4000000000)
    (hTP : (textB C P).length ≤ 200000000) (hTB : (textB C B).length ≤ 200000000) (hNP : ∀ t ∈ P, t.name.size ≤ 2000000) (hNB : ∀ t ∈ B, t.name.size ≤ 2000000) (h : Sat W F w) :
    Calls Tryd.prog 15 #[.agg #[vp, vb, .bool long], codesV C] w fun e w' => e = .returned (.tuple #[(.string ⟨((macM C P B long).1).toArray⟩), .int .i64 (macM C P B long).2]) ∧ Sat W F w' := by
  have h0 := ((h.alloc (mQ vp vb long)).alloc (codesO C 40)).of_eq (show _ = pts (w.heap.size + 1) (codesO C 40) * (pts w.heap.size (mQ vp vb long) * F) by simp)
  have hd : (Tryd.prog.info? 40).map (·.size) = some ((C.map (Value.int .i64)).toArray).size := by rw [size_codes]; simp [hC]
  have HD := Lib.hid hd
  have r0 := h0.r.cell (i := 0) rfl
  have r1 := h0.r.cell (i := 1) rfl
  have r2 := h0.r.cell (i := 2) rfl
  have lr := h0.r.lt
  obtain ⟨W0, hW0⟩ : ∃ W0, (w.alloc (mQ vp vb long)).alloc (codesO C 40) = W0 := ⟨_, rfl⟩
  rw [hW0] at h0 r0 r1 r2 lr
  have H0 := Lib.hid h0
  have HCK := Lib.hid (check_any P B vp vb long W0 (hp W0 h0.r.r) (hb W0 h0.r.r) hlP hlB)
  obtain ⟨pa, pc, rfl⟩ := (hp w h).val
  obtain ⟨ba, bcp, rfl⟩ := (hb w h).val
  obtain ⟨bm, hbm⟩ : ∃ bm, w.heap.size = bm := ⟨_, rfl⟩
  rw [hbm] at H0 r0 r1 r2 lr
  obtain ⟨bc, hbc⟩ : ∃ bc, bm + 1 = bc := ⟨_, rfl⟩
  rw [hbc] at H0
  cases hck : check P B with
  | false =>
    rw [macM_no hck]
    rw [checkE_no hck] at HCK
    clear h0 h hp hb hd hC hTP hTB hNP hNB hck
    go_enter Tryd.func15, Tryd.ntmps15
    go_wp2_with fail
    clear hW0 hbm hbc
    refine Calls.mono HCK.out ?_
    rintro e w1 ⟨rfl, hx⟩
    have H1 := Lib.hid (H0.out.ext hx)
    clear hx
    go_wp2
    go_ret2
    exact ⟨rfl, H1.out.r.r⟩
  | true =>
    rw [checkE_yes hck] at HCK
    have HTP := Lib.hid (fun (w' : World) (h : Sat W (pts bc (codesO C 40) * (pts bm (mQ (.slice pa P.length pc) (.slice ba B.length bcp) long) * F)) w') => tokens_m C hC _ P 4611686018427387904 (by unfold maxLen; omega) (fun w' h => hp w' h.r.r) hTP hNP h)
    have HTB := Lib.hid (fun (w' : World) (h : Sat W (pts bc (codesO C 40) * (pts bm (mQ (.slice pa P.length pc) (.slice ba B.length bcp) long) * F)) w') => tokens_m C hC _ B 4611686018427387904 (by unfold maxLen; omega) (fun w' h => hb w' h.r.r) hTB hNB h)
    have hzp := tokM_len C 4611686018427387904 P
    have hzb := tokM_len C 4611686018427387904 B
    have HM := Lib.hid (@macM_yes C P B)
    have HMB := Lib.hid (show macB C P B = [109, 97, 99, 114, 111, 58] ++ (tokM C 4611686018427387904 P).1 ++ [45, 62] ++ (tokM C 4611686018427387904 B).1 from rfl)
    obtain ⟨⟨lp, ep⟩, hlp⟩ : ∃ r, tokM C 4611686018427387904 P = r := ⟨_, rfl⟩
    obtain ⟨⟨lb, eb⟩, hlb⟩ : ∃ r, tokM C 4611686018427387904 B = r := ⟨_, rfl⟩
    rw [hlp] at HTP hzp HMB
    rw [hlb] at HTB hzb HMB
    simp only at HTP HTB hzp hzb HMB
    clear hlp hlb
    have hza : (⟨lp.toArray⟩ : ByteArray).size = lp.length := by simp [ByteArray.size]
    have hzc : (⟨lb.toArray⟩ : ByteArray).size = lb.length := by simp [ByteArray.size]
    obtain ⟨M1, c1, z1⟩ := join_sz (a := ⟨#[109, 97, 99, 114, 111, 58]⟩) rfl hza
    obtain ⟨M2, c2, z2⟩ := join_sz (b := ⟨#[45, 62]⟩) z1 rfl
    obtain ⟨M3, c3, z3⟩ := join_sz z2 hzc
    obtain ⟨L1, d1, y1⟩ := join_sz (a := ⟨#[92, 108, 111, 110, 103, 32, 109, 97, 99, 114, 111, 58]⟩) rfl hza
    obtain ⟨L2, d2, y2⟩ := join_sz (b := ⟨#[45, 62]⟩) y1 rfl
    obtain ⟨L3, d3, y3⟩ := join_sz y2 hzc
    have HM3 := Lib.hid (show M3 = ⟨(macB C P B).toArray⟩ by
      rw [← c3, ← c2, ← c1, HMB.out, show (⟨#[109, 97, 99, 114, 111, 58]⟩ : ByteArray) = ⟨([109, 97, 99, 114, 111, 58] : List UInt8).toArray⟩ from rfl, show (⟨#[45, 62]⟩ : ByteArray) = ⟨([45, 62] : List UInt8).toArray⟩ from rfl, cat_mk, cat_mk, cat_mk])
    have HL3 := Lib.hid (show L3 = ⟨(longB ++ macB C P B).toArray⟩ by
      rw [← d3, ← d2, ← d1, HMB.out, show (⟨#[92, 108, 111, 110, 103, 32, 109, 97, 99, 114, 111, 58]⟩ : ByteArray) = ⟨([92, 108, 111, 110, 103, 32, 109, 97, 99, 114, 111, 58] : List UInt8).toArray⟩ from rfl, show (⟨#[45, 62]⟩ : ByteArray) = ⟨([45, 62] : List UInt8).toArray⟩ from rfl, cat_mk, cat_mk, cat_mk]
      rfl)
    generalize (⟨lp.toArray⟩ : ByteArray) = sp at *
    generalize (⟨lb.toArray⟩ : ByteArray) = sb at *
    have hzp2 : lp.length ≤ 200000005 := by omega
    have hzb2 : lb.length ≤ 200000005 := by omega
    clear hzp hzb
    have HC := Lib.hid hC
    obtain ⟨res, hres⟩ : ∃ res, macM C P B long = res := ⟨_, rfl⟩
    rw [hres]
    have HRES := Lib.hid hres
    have HK := Lib.hid hck
    clear h0 h hp hb hd hC hTP hTB hNP hNB hck hres
    generalize lp.length = np at *
    generalize lb.length = nb at *
    cases long
    all_goals
      go_enter Tryd.func15, Tryd.ntmps15
      go_wp2_with fail
      clear hW0 hbm hbc
      refine Calls.mono HCK.out ?_
      rintro e w1 ⟨rfl, hx⟩
      have H1 := Lib.hid (H0.out.ext hx)
      clear hx r0 r1 r2 lr
      have r0 := H1.out.r.cell (i := 0) rfl
      have r1 := H1.out.r.cell (i := 1) rfl
      have r2 := H1.out.r.cell (i := 2) rfl
      have lr := H1.out.r.lt
      have HBK := Lib.hid H1.out.blk
      go_upto_region 7 with fail
      go_step
      refine wpList_plain rfl (fun K hK => ?_)
      go_simp
      refine hK _ _ ?_
      clear hK K
      refine wpList_plain rfl (fun K hK => ?_)
      go_simp
      refine hK _ _ ?_
      clear hK K
      refine wpList_load_row rfl 40 (.tmp 3) rfl bc rfl 40 _ _ _ HBK.out Tryd.underlying40 rfl HD.out ?_
      go_wp2_with fail
      refine Calls.mono (HTP.out _ H1.out) ?_
      rintro e w2 ⟨rfl, h2⟩
      have H2 := Lib.hid h2
      clear h2 r0 r1 r2 lr HBK
      have r0 := H2.out.r.cell (i := 0) rfl
      have r1 := H2.out.r.cell (i := 1) rfl
      have r2 := H2.out.r.cell (i := 2) rfl
      have lr := H2.out.r.lt
      have HBK := Lib.hid H2.out.blk
      go_upto_region 8 with fail
      go_step
      refine wpList_plain rfl (fun K hK => ?_)
      go_simp
      refine hK _ _ ?_
      clear hK K
      refine wpList_plain rfl (fun K hK => ?_)
      go_simp
      refine hK _ _ ?_
      clear hK K
      refine wpList_load_row rfl 40 (.tmp 3) rfl bc rfl 40 _ _ _ HBK.out Tryd.underlying40 rfl HD.out ?_
      go_wp2_with fail
      refine Calls.mono (HTB.out _ H2.out) ?_
      rintro e w3 ⟨rfl, h3⟩
      have H3 := Lib.hid h3.r.r
      clear h3 r0 r1 r2 lr HBK
      go_wp2
      go_ret2
      first
        | exact ⟨by rw [← HRES.out, (HM.out HK.out).1, ← HM3.out]; rfl, H3.out⟩
        | exact ⟨by rw [← HRES.out, (HM.out HK.out).2, ← HL3.out]; rfl, H3.out⟩

end Go.Proofs.YtlfekbmcegbhoaaDoor
