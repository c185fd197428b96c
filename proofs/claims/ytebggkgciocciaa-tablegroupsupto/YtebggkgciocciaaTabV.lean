
/-
  A table: a register gets what a function makes of it. Conditions: those that each theorem names.
-/
import Derived.Test.YtebggkgciocciaaTabU
namespace Go.Proofs.Ytebggkgciocciaa
open Go.RowKit Go.Sp
variable {W w w' : World} {F A : HProp}

/-- what 'sum' answers, and the table then, when the function made r, with the error er -/
def sumE (c : Int) (r : RegS) (er : Int) : Int := if er ≠ 0 then er else if rightM c r = true then 0 else 20
noncomputable def sumT (S : TabS) (c i : Nat) (r : RegS) (er : Int) (g : Bool) : TabS := if er ≠ 0 then S else if rightM (c : Int) r = true then putS S c i r g else S

set_option maxRecDepth 100000 in
set_option maxHeartbeats 4000000 in
theorem sum_any {b N : Nat} {S : TabS} {c i : Nat} (g : Bool) (k : Nat) (caps : Array Value) (res : RegS → Int → Prop) (hc : c ≤ 5) (hi : i < 256)
    (hent : ∀ v w, (callFunc k (#[v] ++ caps)).run Try.prog w = .ok (.enter k (#[v] ++ caps)) w)
    (hk : ∀ u w', RdT w' u (S.regs (c * 256 + i)).toks → Sat W F w' → Calls Try.prog k (#[valA (S.regs (c * 256 + i)) u] ++ caps) w' fun e w'' => ∃ r er, e = .returned (.tuple #[valA r (.slice none 0 0), .int .i64 er]) ∧ r.toks = [] ∧ res r er ∧ Ext w' w'')
    (h : TabAt W F b N S w) :
    Calls Try.prog 36 #[.pointer (some ⟨b, 0, none⟩), .int .i64 c, .int .i64 i, .bool g, .func (.func k) #[] caps] w fun e w' => ∃ r er, res r er ∧ e = .returned (.int .i64 (sumE c r er)) ∧ TabAt W F b N (sumT S c i r er g) w' := by
  have HH := Lib.hid h
  obtain ⟨m, nm, gs, lt, R, V, hT, hs⟩ := h
  obtain ⟨hr, hl⟩ := hT.1 (c * 256 + i) (by omega)
  have hrd := hs.r.ro_rd hr.2.2
  have ra := reg_at hs hc hi
  have lb := hs.lt
  obtain ⟨c0, c1, c2, c3, c4, c5, c6⟩ := ra
  obtain ⟨hr1, hr2, hr3⟩ := hr
  rw [hr1] at c0
  rw [hr2] at c1 c2 c3 c4 c5
  have HC := Lib.hid (hk _ w hrd HH.out.sat)
  generalize (R (c * 256 + i)).s = sv at *
  generalize S.regs (c * 256 + i) = z at *
  obtain ⟨zn, ⟨z1, z2, z3, z4, z5⟩, L⟩ := z
  simp only [valA] at c0 c1 c2 c3 c4 c5 hl hr3 hrd HC
  obtain ⟨sa, sc, rfl⟩ := hrd.val
  have i1 : (c : Int) < 6 := by omega
  have i2 : (i : Int) < 256 := by omega
  clear hs hT hr1 hr2 hr3 hrd hl hk
  go_enter Try.func36, Try.ntmps36
  go_wp2_with fail
  refine Calls.mono HC.out ?_
  rintro e w2 ⟨r, er, rfl, hrt, hres, hx⟩
  have h2 := (HH.out.ext hx).allocX (.cells #[.int .i64 r.n, .int .i64 r.g.nat, .int .i64 r.g.stretch, .int .i64 r.g.shrink, .int .i64 r.g.so, .int .i64 r.g.ko, .slice none 0 0] 40)
  obtain ⟨n, ⟨g1, g2, g3, g4, g5⟩, L2⟩ := r
  simp only at hrt
  subst hrt
  simp only at h2
  have HRES := Lib.hid hres
  have H2 := Lib.hid h2
  obtain ⟨bv, hbv⟩ : ∃ bv, w2.heap.size = bv := ⟨_, rfl⟩
  rw [hbv] at H2
  have hnil : ∀ w', RdT w' (.slice none 0 0) [] := fun w' => RdT.empty w' none 0
  clear hx h2 c0 c1 c2 c3 c4 c5 c6 hent lb hres
  by_cases he : er = 0
  · subst he
    have HRI := Lib.hid (right_any (v := ⟨n, ⟨g1, g2, g3, g4, g5⟩, []⟩) _ (hnil (w2.alloc (.cells #[.int .i64 n, .int .i64 g1, .int .i64 g2, .int .i64 g3, .int .i64 g4, .int .i64 g5, .slice none 0 0] 40))) (c : Int))
    have d0 := H2.out.sat.cell (i := 0) rfl
    have d1 := H2.out.sat.cell (i := 1) rfl
    have d2 := H2.out.sat.cell (i := 2) rfl
    have d3 := H2.out.sat.cell (i := 3) rfl
    have d4 := H2.out.sat.cell (i := 4) rfl
    have d5 := H2.out.sat.cell (i := 5) rfl
    have d6 := H2.out.sat.cell (i := 6) rfl
    have lv := H2.out.sat.lt
    by_cases hri : rightM (c : Int) ⟨n, ⟨g1, g2, g3, g4, g5⟩, []⟩ = true
    · rw [hri] at HRI
      have e1 : sumE (c : Int) ⟨n, ⟨g1, g2, g3, g4, g5⟩, []⟩ 0 = 0 := by rw [sumE, if_neg (by simp), if_pos hri]
      have e2 : sumT S c i ⟨n, ⟨g1, g2, g3, g4, g5⟩, []⟩ 0 g = putS S c i ⟨n, ⟨g1, g2, g3, g4, g5⟩, []⟩ g := by rw [sumT, if_neg (by simp), if_pos hri]
      have HE := Lib.hid e1
      have HE2 := Lib.hid e2
      clear e1 e2 hri
      go_wp2_with fail
      generalize w2.alloc (.cells #[.int .i64 n, .int .i64 g1, .int .i64 g2, .int .i64 g3, .int .i64 g4, .int .i64 g5, .slice none 0 0] 40) = W3 at *
      simp only [valA] at HRI
      refine Calls.mono HRI.out ?_
      rintro e w4 ⟨rfl, hx⟩
      have q0 := hx.cell d0
      have q1 := hx.cell d1
      have q2 := hx.cell d2
      have q3 := hx.cell d3
      have q4 := hx.cell d4
      have q5 := hx.cell d5
      have q6 := hx.cell d6
      have HP := Lib.hid (put_any (v := ⟨n, ⟨g1, g2, g3, g4, g5⟩, []⟩) (s := .slice none 0 0) g hc hi (by simp) (fun w' _ => hnil w') (H2.out.ext hx))
      simp only [valA] at HP
      clear d0 d1 d2 d3 d4 d5 d6 hx lv
      go_wp2_with fail
      refine Calls.mono HP.out ?_
      rintro e w5 ⟨rfl, h5⟩
      have H5 := Lib.hid h5
      clear h5 q0 q1 q2 q3 q4 q5 q6
      go_wp2
      go_ret
      exact ⟨_, _, HRES.out, by rw [HE.out]; rfl, by rw [HE2.out]; exact H5.out.less⟩
    · have e1 : sumE (c : Int) ⟨n, ⟨g1, g2, g3, g4, g5⟩, []⟩ 0 = 20 := by rw [sumE, if_neg (by simp), if_neg hri]
      have e2 : sumT S c i ⟨n, ⟨g1, g2, g3, g4, g5⟩, []⟩ 0 g = S := by rw [sumT, if_neg (by simp), if_neg hri]
      simp only [Bool.not_eq_true] at hri
      rw [hri] at HRI
      have HE := Lib.hid e1
      have HE2 := Lib.hid e2
      clear e1 e2 hri
      go_wp2_with fail
      generalize w2.alloc (.cells #[.int .i64 n, .int .i64 g1, .int .i64 g2, .int .i64 g3, .int .i64 g4, .int .i64 g5, .slice none 0 0] 40) = W3 at *
      simp only [valA] at HRI
      refine Calls.mono HRI.out ?_
      rintro e w4 ⟨rfl, hx⟩
      have H5 := Lib.hid (H2.out.ext hx)
      clear d0 d1 d2 d3 d4 d5 d6 hx lv
      go_wp2
      go_ret
      exact ⟨_, _, HRES.out, by rw [HE.out]; rfl, by rw [HE2.out]; exact H5.out.less⟩
  · have e1 : sumE (c : Int) ⟨n, ⟨g1, g2, g3, g4, g5⟩, []⟩ er = er := by rw [sumE, if_pos he]
    have e2 : sumT S c i ⟨n, ⟨g1, g2, g3, g4, g5⟩, []⟩ er g = S := by rw [sumT, if_pos he]
    have HE := Lib.hid e1
    have HE2 := Lib.hid e2
    have q1 : (er == 0) = false := by rw [beq_eq_false_iff_ne]; exact he
    clear e1 e2 he
    go_wp2
    go_ret
    exact ⟨_, _, HRES.out, by rw [HE.out]; rfl, by rw [HE2.out]; exact H2.out.less⟩

end Go.Proofs.Ytebggkgciocciaa
