
/-
  Values of registers: are they right? Conditions: those that each theorem names.
-/
import Derived.Test.YtebggkgciocciaaGreatTabG
namespace Go.Proofs.YtebggkgciocciaaGreat
open Go.RowKit Go.Sp
variable {W w w' : World} {F A : HProp}

def dimB (x : Int) : Bool := decide (-1073741823 ≤ x ∧ x ≤ 1073741823)
theorem dimB_yes {x : Int} (h1 : -1073741823 ≤ x) (h2 : x ≤ 1073741823) : dimB x = true := by simp [dimB, h1, h2]
theorem dimB_no {x : Int} (h : ¬ -1073741823 ≤ x ∨ ¬ x ≤ 1073741823) : dimB x = false := by
  simp only [dimB, decide_eq_false_iff_not]; omega

theorem dimen_any (x : Int) (w : World) : Calls Tryz.prog 88 #[.int .i64 x] w fun e w' => e = .returned (.bool (dimB x)) ∧ w = w' := by
  by_cases h1 : -1073741823 ≤ x
  · by_cases h2 : x ≤ 1073741823
    · rw [dimB_yes h1 h2]
      go_enter Tryz.func88, Tryz.ntmps88
      go_wp2
      go_ret
      exact ⟨rfl, rfl⟩
    · rw [dimB_no (.inr h2)]
      go_enter Tryz.func88, Tryz.ntmps88
      go_wp2
      go_ret
      exact ⟨rfl, rfl⟩
  · rw [dimB_no (.inl h1)]
    go_enter Tryz.func88, Tryz.ntmps88
    go_wp2
    go_ret
    exact ⟨rfl, rfl⟩

def withB (x most : Int) : Bool := decide (-most ≤ x ∧ x ≤ most)
theorem within_any (x most : Int) (hm : 0 ≤ most) (hM : most ≤ 4000000000) (w : World) : Calls Tryz.prog 72 #[.int .i64 x, .int .i64 most] w fun e w' => e = .returned (.bool (withB x most)) ∧ w = w' := by
  by_cases h1 : -most ≤ x
  · by_cases h2 : x ≤ most
    · rw [show withB x most = true by simp [withB, h1, h2]]
      go_enter Tryz.func72, Tryz.ntmps72
      go_wp2
      go_ret
      exact ⟨rfl, rfl⟩
    · rw [show withB x most = false by simp [withB, h2]]
      go_enter Tryz.func72, Tryz.ntmps72
      go_wp2
      go_ret
      exact ⟨rfl, rfl⟩
  · rw [show withB x most = false by simp [withB, h1]]
    go_enter Tryz.func72, Tryz.ntmps72
    go_wp2
    go_ret
    exact ⟨rfl, rfl⟩

theorem size_int1 (w : World) : (sizeOf 3).run Tryz.prog w = .ok 1 w := by
  obtain ⟨i, hi⟩ := infoInt
  rw [run_sizeOf (P := Tryz.prog) w hi, cellsOf_int]
theorem idx3 (a b c : Int) (w : World) : (Instr.index 136 (.agg #[.int .i64 a, .int .i64 b, .int .i64 c]) (.int .i64 0)).run Tryz.prog w = .ok (.int .i64 a) w ∧
    (Instr.index 136 (.agg #[.int .i64 a, .int .i64 b, .int .i64 c]) (.int .i64 1)).run Tryz.prog w = .ok (.int .i64 b) w ∧
    (Instr.index 136 (.agg #[.int .i64 a, .int .i64 b, .int .i64 c]) (.int .i64 2)).run Tryz.prog w = .ok (.int .i64 c) w := by
  have hu := Tryz.underlying136
  have hs := size_int1 w
  refine ⟨?_, ?_, ?_⟩ <;> (simp only [Instr.index, Sem.run_bind, asIntOf, run_underlying hu w, Result.andThen_ok, Sem.run_pure]; go_simp; try rfl)
theorem idx2 (a b : Int) (w : World) : (Instr.index 95 (.agg #[.int .i64 a, .int .i64 b]) (.int .i64 0)).run Tryz.prog w = .ok (.int .i64 a) w ∧
    (Instr.index 95 (.agg #[.int .i64 a, .int .i64 b]) (.int .i64 1)).run Tryz.prog w = .ok (.int .i64 b) w := by
  have hu := Tryz.underlying95
  have hs := size_int1 w
  refine ⟨?_, ?_⟩ <;> (simp only [Instr.index, Sem.run_bind, asIntOf, run_underlying hu w, Result.andThen_ok, Sem.run_pure]; go_simp; try rfl)

def ordB (x : Int) : Bool := decide (0 ≤ x ∧ x ≤ 3)
def glueB (g : Gl) : Bool := dimB g.nat && dimB g.stretch && dimB g.shrink && ordB g.so && ordB g.ko
def glueE (g : Gl) : Int := if glueB g then 0 else 30
abbrev Gl.val (g : Gl) : Value := .agg #[.int .i64 g.nat, .int .i64 g.stretch, .int .i64 g.shrink, .int .i64 g.so, .int .i64 g.ko]


set_option maxRecDepth 100000 in
set_option maxHeartbeats 4000000 in
theorem glue_any (g : Gl) (w : World) : Calls Tryz.prog 73 #[g.val] w fun e w' => e = .returned (.int .i64 (glueE g)) ∧ Ext w w' := by
  obtain ⟨a, b, c, o, p⟩ := g
  have HX := Lib.hid (Ext.alloc (Ext.refl w) (o := .cells #[.int .i64 a, .int .i64 b, .int .i64 c, .int .i64 o, .int .i64 p] 26))
  have hs := (Sat.start w).alloc (.cells #[.int .i64 a, .int .i64 b, .int .i64 c, .int .i64 o, .int .i64 p] 26)
  have R0 := Lib.hid (hs.cell (i := 0) rfl)
  have R1 := Lib.hid (hs.cell (i := 1) rfl)
  have R2 := Lib.hid (hs.cell (i := 2) rfl)
  have r3 := hs.cell (i := 3) rfl
  have r4 := hs.cell (i := 4) rfl
  have lz := hs.lt
  clear hs
  go_enter Tryz.func73, Tryz.ntmps73
  go_upto_region 1 with fail
  generalize hW1 : w.alloc (.cells #[.int .i64 a, .int .i64 b, .int .i64 c, .int .i64 o, .int .i64 p] 26) = W1 at *
  generalize w.heap.size = bg at *
  clear hW1
  obtain ⟨k0, k1, k2⟩ := idx3 a b c W1
  obtain ⟨m0, m1⟩ := idx2 o p W1
  have r0 : W1.cell? ⟨bg, 0, none⟩ = some (.int .i64 a) := R0.out
  have r1 : W1.cell? ⟨bg, 1, none⟩ = some (.int .i64 b) := R1.out
  have r2 : W1.cell? ⟨bg, 2, none⟩ = some (.int .i64 c) := R2.out
  go_upto_block 0 with fail
  clear r0 r1 r2
  go_wp2_with fail
  go_loop [14] (fun s14 => ∃ k : Nat, k ≤ 3 ∧ s14 = .int .i64 k ∧ (1 ≤ k → dimB a = true) ∧ (2 ≤ k → dimB b = true) ∧ (3 ≤ k → dimB c = true)) (fun s14 => 3 - (intOf s14).toNat)
  case atStart => exact ⟨0, by omega, rfl, fun h => by omega, fun h => by omega, fun h => by omega⟩
  case round =>
    obtain ⟨k, hk, rfl, h0, h1, h2⟩ := hrel
    have H0 := Lib.hid h0
    have H1 := Lib.hid h1
    have H2 := Lib.hid h2
    clear h0 h1 h2
    have hkc : k = 0 ∨ k = 1 ∨ k = 2 ∨ k = 3 := by omega
    rcases hkc with rfl | rfl | rfl | rfl
    · skip
      by_cases hd : dimB a = true
      · have HD := Lib.hid hd
        have hdc := dimen_any a W1
        rw [hd] at hdc
        have HDC := Lib.hid hdc
        clear hdc hd
        go_wp2_with fail
        refine Calls.mono HDC.out ?_
        rintro e w' ⟨rfl, rfl⟩
        go_wp2
        go_round
        case rel => first | exact ⟨1, by omega, rfl, fun _ => HD.out, fun h => by omega, fun h => by omega⟩ | exact ⟨2, by omega, rfl, fun _ => H0.out (by omega), fun _ => HD.out, fun h => by omega⟩ | exact ⟨3, by omega, rfl, fun _ => H0.out (by omega), fun _ => H1.out (by omega), fun _ => HD.out⟩
        case measure => simp [intOf]
      · have hd2 : dimB a = false := by simpa using hd
        have hdc := dimen_any a W1
        rw [hd2] at hdc
        have HDC := Lib.hid hdc
        have HE := Lib.hid (show glueE ⟨a, b, c, o, p⟩ = 30 by simp [glueE, glueB, hd2])
        clear hdc hd hd2
        go_wp2_with fail
        refine Calls.mono HDC.out ?_
        rintro e w' ⟨rfl, rfl⟩
        go_wp2
        go_ret
        exact ⟨by rw [HE.out]; rfl, HX.out⟩
    · skip
      by_cases hd : dimB b = true
      · have HD := Lib.hid hd
        have hdc := dimen_any b W1
        rw [hd] at hdc
        have HDC := Lib.hid hdc
        clear hdc hd
        go_wp2_with fail
        refine Calls.mono HDC.out ?_
        rintro e w' ⟨rfl, rfl⟩
        go_wp2
        go_round
        case rel => first | exact ⟨1, by omega, rfl, fun _ => HD.out, fun h => by omega, fun h => by omega⟩ | exact ⟨2, by omega, rfl, fun _ => H0.out (by omega), fun _ => HD.out, fun h => by omega⟩ | exact ⟨3, by omega, rfl, fun _ => H0.out (by omega), fun _ => H1.out (by omega), fun _ => HD.out⟩
        case measure => simp [intOf]
      · have hd2 : dimB b = false := by simpa using hd
        have hdc := dimen_any b W1
        rw [hd2] at hdc
        have HDC := Lib.hid hdc
        have HE := Lib.hid (show glueE ⟨a, b, c, o, p⟩ = 30 by simp [glueE, glueB, hd2])
        clear hdc hd hd2
        go_wp2_with fail
        refine Calls.mono HDC.out ?_
        rintro e w' ⟨rfl, rfl⟩
        go_wp2
        go_ret
        exact ⟨by rw [HE.out]; rfl, HX.out⟩
    · skip
      by_cases hd : dimB c = true
      · have HD := Lib.hid hd
        have hdc := dimen_any c W1
        rw [hd] at hdc
        have HDC := Lib.hid hdc
        clear hdc hd
        go_wp2_with fail
        refine Calls.mono HDC.out ?_
        rintro e w' ⟨rfl, rfl⟩
        go_wp2
        go_round
        case rel => first | exact ⟨1, by omega, rfl, fun _ => HD.out, fun h => by omega, fun h => by omega⟩ | exact ⟨2, by omega, rfl, fun _ => H0.out (by omega), fun _ => HD.out, fun h => by omega⟩ | exact ⟨3, by omega, rfl, fun _ => H0.out (by omega), fun _ => H1.out (by omega), fun _ => HD.out⟩
        case measure => simp [intOf]
      · have hd2 : dimB c = false := by simpa using hd
        have hdc := dimen_any c W1
        rw [hd2] at hdc
        have HDC := Lib.hid hdc
        have HE := Lib.hid (show glueE ⟨a, b, c, o, p⟩ = 30 by simp [glueE, glueB, hd2])
        clear hdc hd hd2
        go_wp2_with fail
        refine Calls.mono HDC.out ?_
        rintro e w' ⟨rfl, rfl⟩
        go_wp2
        go_ret
        exact ⟨by rw [HE.out]; rfl, HX.out⟩
    · have D0 := Lib.hid (H0.out (by omega))
      have D1 := Lib.hid (H1.out (by omega))
      have D2 := Lib.hid (H2.out (by omega))
      clear H0 H1 H2
      go_upto_block 2 with fail
      go_wp2_with fail
      go_loop [26] (fun s26 => ∃ k : Nat, k ≤ 2 ∧ s26 = .int .i64 k ∧ (1 ≤ k → ordB o = true) ∧ (2 ≤ k → ordB p = true)) (fun s26 => 2 - (intOf s26).toNat)
      case atStart => exact ⟨0, by omega, rfl, fun h => by omega, fun h => by omega⟩
      case round =>
        obtain ⟨k, hk, rfl, h0, h1⟩ := hrel
        have H0 := Lib.hid h0
        have H1 := Lib.hid h1
        clear h0 h1
        have hkc : k = 0 ∨ k = 1 ∨ k = 2 := by omega
        rcases hkc with rfl | rfl | rfl
        · skip
          by_cases ho1 : o < 0
          · have HE := Lib.hid (show glueE ⟨a, b, c, o, p⟩ = 30 by rw [glueE, if_neg]; simp [glueB, ordB]; omega)
            go_wp2
            go_ret
            exact ⟨by rw [HE.out]; rfl, HX.out⟩
          · by_cases ho2 : 3 < o
            · have HE := Lib.hid (show glueE ⟨a, b, c, o, p⟩ = 30 by rw [glueE, if_neg]; simp [glueB, ordB]; omega)
              go_wp2
              go_ret
              exact ⟨by rw [HE.out]; rfl, HX.out⟩
            · have HO := Lib.hid (show ordB o = true by simp [ordB]; omega)
              go_wp2
              go_round
              case rel => first | exact ⟨1, by omega, rfl, fun _ => HO.out, fun h => by omega⟩ | exact ⟨2, by omega, rfl, fun _ => H0.out (by omega), fun _ => HO.out⟩
              case measure => simp [intOf]
        · skip
          by_cases ho1 : p < 0
          · have HE := Lib.hid (show glueE ⟨a, b, c, o, p⟩ = 30 by rw [glueE, if_neg]; simp [glueB, ordB]; omega)
            go_wp2
            go_ret
            exact ⟨by rw [HE.out]; rfl, HX.out⟩
          · by_cases ho2 : 3 < p
            · have HE := Lib.hid (show glueE ⟨a, b, c, o, p⟩ = 30 by rw [glueE, if_neg]; simp [glueB, ordB]; omega)
              go_wp2
              go_ret
              exact ⟨by rw [HE.out]; rfl, HX.out⟩
            · have HO := Lib.hid (show ordB p = true by simp [ordB]; omega)
              go_wp2
              go_round
              case rel => first | exact ⟨1, by omega, rfl, fun _ => HO.out, fun h => by omega⟩ | exact ⟨2, by omega, rfl, fun _ => H0.out (by omega), fun _ => HO.out⟩
              case measure => simp [intOf]
        · have HE := Lib.hid (show glueE ⟨a, b, c, o, p⟩ = 0 by rw [glueE, if_pos]; simp only [glueB, D0.out, D1.out, D2.out, H0.out (by omega), H1.out (by omega)]; rfl)
          go_wp2
          go_ret
          exact ⟨by rw [HE.out]; rfl, HX.out⟩

end Go.Proofs.YtebggkgciocciaaGreat
