import Derived.Test.YticljfpippbkkaaMTA
/-
  A table: groups begin, or not; tokens that may be kept. Conditions: those that each theorem names.
-/
namespace Go.Proofs.Yticljfpippbkkaa
open Go.RowKit Go.Sp
variable {W w w' : World} {F A : HProp}

/-- what Begin answers, and what the table is then -/
def beginE (S : TabS) (k : Int) : Int := if k < 0 ∨ 20 < k then 11 else if S.groups.length = 200 then 6 else 0
noncomputable def beginS (S : TabS) (k : Int) : TabS := if beginE S k = 0 then S.begun k else S

theorem TabAt.le {b N : Nat} {S : TabS} (h : TabAt W F b N S w) : S.groups.length ≤ 200 := by
  obtain ⟨m, nm, gs, lt, R, V, ⟨_, _, _, _, h⟩, _⟩ := h
  exact h

/-- may a token be kept? -/
def tokOK (t : Tok) : Bool :=
  if t.cat = 16 then ((t.chr.toNat : Int) == 0)
  else if t.cat = 1 ∨ t.cat = 2 ∨ t.cat = 3 ∨ t.cat = 4 ∨ t.cat = 6 ∨ t.cat = 7 ∨ t.cat = 8 ∨ t.cat = 10 ∨ t.cat = 11 ∨ t.cat = 12 ∨ t.cat = 13 then t.name.toList.isEmpty
  else false


set_option maxRecDepth 100000 in
set_option maxHeartbeats 4000000 in
theorem token_any (t : Tok) (w : World) : Calls Try.prog 90 #[Tok.val t] w fun e w' => e = .returned (.bool (tokOK t)) ∧ Ext w w' := by
  obtain ⟨k, c, n⟩ := t
  have HX := Lib.hid (Ext.alloc (Ext.refl w) (o := .cells #[.int .i64 k, .int .u8 c.toNat, .string n] 28))
  by_cases h16 : k = 16
  · subst h16
    have e1 : tokOK ⟨16, c, n⟩ = ((c.toNat : Int) == 0) := by rw [tokOK, if_pos rfl]
    rw [e1]
    clear e1
    go_enter Try.func90, Try.ntmps90
    go_wp2
    go_ret
    exact ⟨rfl, HX.out⟩
  · by_cases hk : k = 1 ∨ k = 2 ∨ k = 3 ∨ k = 4 ∨ k = 6 ∨ k = 7 ∨ k = 8 ∨ k = 10 ∨ k = 11 ∨ k = 12 ∨ k = 13
    · have e1 : tokOK ⟨k, c, n⟩ = n.toList.isEmpty := by rw [tokOK, if_neg h16, if_pos hk]
      rw [e1]
      clear e1 h16
      rcases hk with rfl | rfl | rfl | rfl | rfl | rfl | rfl | rfl | rfl | rfl | rfl
      all_goals
        go_enter Try.func90, Try.ntmps90
        go_wp2
        go_ret
        exact ⟨rfl, HX.out⟩
    · have e1 : tokOK ⟨k, c, n⟩ = false := by rw [tokOK, if_neg h16, if_neg hk]
      rw [e1]
      have q1 : (k == 1) = false := by simp; omega
      have q2 : (k == 2) = false := by simp; omega
      have q3 : (k == 3) = false := by simp; omega
      have q4 : (k == 4) = false := by simp; omega
      have q6 : (k == 6) = false := by simp; omega
      have q7 : (k == 7) = false := by simp; omega
      have q8 : (k == 8) = false := by simp; omega
      have q10 : (k == 10) = false := by simp; omega
      have q11 : (k == 11) = false := by simp; omega
      have q12 : (k == 12) = false := by simp; omega
      have q13 : (k == 13) = false := by simp; omega
      have q16 : (k == 16) = false := by simp; omega
      clear e1 h16 hk
      go_enter Try.func90, Try.ntmps90
      go_wp2
      go_ret
      exact ⟨rfl, HX.out⟩

end Go.Proofs.Yticljfpippbkkaa

/-
  A table: tokens are kept for a group's end. Conditions: those that each theorem names.
-/
namespace Go.Proofs.Yticljfpippbkkaa
open Go.RowKit Go.Sp
variable {W w w' : World} {F A : HProp}

def GrpS.keep (g : GrpS) (t : Tok) : GrpS := { g with after := g.after ++ [t] }
/-- what After answers; the last group with a token more -/
def afterE (S : TabS) (t : Tok) : Int :=
  if tokOK t = false then 160 else match S.groups.getLast? with | none => 150 | some g => if g.after.length = 20000 then 6 else 0
noncomputable def afterS (S : TabS) (t : Tok) : TabS :=
  if afterE S t = 0 then { S with groups := S.groups.dropLast ++ (S.groups.getLast?.map (·.keep t)).toList } else S

theorem TabAt.allocD {b N : Nat} {S : TabS} (h : TabAt W F b N S w) {o : Obj} : TabAt W F b N S (w.alloc o) := by
  obtain ⟨m, nm, gs, lt, R, V, h1, h2⟩ := h
  exact ⟨m, nm, gs, lt, R, V, h1, h2.allocD⟩
theorem TabAt.drewN {b N : Nat} {S : TabS} (h : TabAt W F b N S w) {q : Nat} : TabAt W F b N S (w.drewN q) := by
  obtain ⟨m, nm, gs, lt, R, V, h1, h2⟩ := h
  exact ⟨m, nm, gs, lt, R, V, h1, h2.drewN⟩
theorem TabAt.ext {b N : Nat} {S : TabS} (h : TabAt W F b N S w) (k : Ext w w') : TabAt W F b N S w' := by
  obtain ⟨m, nm, gs, lt, R, V, h1, h2⟩ := h
  exact ⟨m, nm, gs, lt, R, V, h1, h2.ext k⟩

theorem snoc_of {α : Type} (l : List α) (h : l ≠ []) : ∃ l' x, l = l' ++ [x] := ⟨l.dropLast, l.getLast h, (List.dropLast_concat_getLast h).symm⟩

theorem _root_.Go.Sp.Sat.rowT_value {v : Value} {L : List Tok} (h : Sat W (rowT v L * A) w) : ∃ a c, v = .slice a L.length c := by
  obtain ⟨a, c, h, _⟩ := (rowT_rd h).capd
  exact ⟨a, c, h⟩

theorem afterE_bad {S : TabS} {t : Tok} (h : tokOK t = false) : afterE S t = 160 := by rw [afterE, if_pos h]
theorem afterE_none {S : TabS} {t : Tok} (h : tokOK t = true) (hg : S.groups = []) : afterE S t = 150 := by rw [afterE, if_neg (by rw [h]; decide), hg]; rfl
theorem afterE_last {S : TabS} {t : Tok} {S0 : List GrpS} {g : GrpS} (h : tokOK t = true) (hg : S.groups = S0 ++ [g]) : afterE S t = if g.after.length = 20000 then 6 else 0 := by
  rw [afterE, if_neg (by rw [h]; decide), hg, List.getLast?_concat]
theorem afterS_no {S : TabS} {t : Tok} (h : afterE S t ≠ 0) : afterS S t = S := by rw [afterS, if_neg h]
theorem afterS_yes {S : TabS} {t : Tok} {S0 : List GrpS} {g : GrpS} (h : afterE S t = 0) (hg : S.groups = S0 ++ [g]) : afterS S t = { S with groups := S0 ++ [g.keep t] } := by
  rw [afterS, if_pos h, hg, List.getLast?_concat, List.dropLast_concat]; rfl

theorem TabAt.last {b N : Nat} {S : TabS} {S0 : List GrpS} {g : GrpS} (hS : S.groups = S0 ++ [g]) (h : TabAt W F b N S w) : g.after.length ≤ 20000 := by
  obtain ⟨m, nm, gs, lt, R, V, ⟨h1, h2, h2b, h3, h4⟩, hs⟩ := h
  obtain ⟨V0, v, rfl⟩ := snoc_of V (by rintro rfl; rw [hS] at h3; simp at h3)
  have hV0 : V0.length = S0.length := by rw [hS] at h3; simpa using h3
  rw [hS, grpsH_snoc m v g V0 S0 hV0] at hs
  have hs1 := (hs.r.r.r.r).asc
  exact (Sat.grp_open hs1).1.2


end Go.Proofs.Yticljfpippbkkaa

/-
  Values of registers: are they right? Conditions: those that each theorem names.
-/
namespace Go.Proofs.Yticljfpippbkkaa
open Go.RowKit Go.Sp
variable {W w w' : World} {F A : HProp}

def dimB (x : Int) : Bool := decide (-1073741823 ≤ x ∧ x ≤ 1073741823)
theorem dimB_yes {x : Int} (h1 : -1073741823 ≤ x) (h2 : x ≤ 1073741823) : dimB x = true := by simp [dimB, h1, h2]
theorem dimB_no {x : Int} (h : ¬ -1073741823 ≤ x ∨ ¬ x ≤ 1073741823) : dimB x = false := by
  simp only [dimB, decide_eq_false_iff_not]; omega

theorem dimen_any (x : Int) (w : World) : Calls Try.prog 99 #[.int .i64 x] w fun e w' => e = .returned (.bool (dimB x)) ∧ w = w' := by
  by_cases h1 : -1073741823 ≤ x
  · by_cases h2 : x ≤ 1073741823
    · rw [dimB_yes h1 h2]
      go_enter Try.func99, Try.ntmps99
      go_wp2
      go_ret
      exact ⟨rfl, rfl⟩
    · rw [dimB_no (.inr h2)]
      go_enter Try.func99, Try.ntmps99
      go_wp2
      go_ret
      exact ⟨rfl, rfl⟩
  · rw [dimB_no (.inl h1)]
    go_enter Try.func99, Try.ntmps99
    go_wp2
    go_ret
    exact ⟨rfl, rfl⟩

def withB (x most : Int) : Bool := decide (-most ≤ x ∧ x ≤ most)
theorem within_any (x most : Int) (hm : 0 ≤ most) (hM : most ≤ 4000000000) (w : World) : Calls Try.prog 87 #[.int .i64 x, .int .i64 most] w fun e w' => e = .returned (.bool (withB x most)) ∧ w = w' := by
  by_cases h1 : -most ≤ x
  · by_cases h2 : x ≤ most
    · rw [show withB x most = true by simp [withB, h1, h2]]
      go_enter Try.func87, Try.ntmps87
      go_wp2
      go_ret
      exact ⟨rfl, rfl⟩
    · rw [show withB x most = false by simp [withB, h2]]
      go_enter Try.func87, Try.ntmps87
      go_wp2
      go_ret
      exact ⟨rfl, rfl⟩
  · rw [show withB x most = false by simp [withB, h1]]
    go_enter Try.func87, Try.ntmps87
    go_wp2
    go_ret
    exact ⟨rfl, rfl⟩

theorem size_int1 (w : World) : (sizeOf 3).run Try.prog w = .ok 1 w := by
  obtain ⟨i, hi⟩ := infoInt
  rw [run_sizeOf (P := Try.prog) w hi, cellsOf_int]
theorem idx3 (a b c : Int) (w : World) : (Instr.index 70 (.agg #[.int .i64 a, .int .i64 b, .int .i64 c]) (.int .i64 0)).run Try.prog w = .ok (.int .i64 a) w ∧
    (Instr.index 70 (.agg #[.int .i64 a, .int .i64 b, .int .i64 c]) (.int .i64 1)).run Try.prog w = .ok (.int .i64 b) w ∧
    (Instr.index 70 (.agg #[.int .i64 a, .int .i64 b, .int .i64 c]) (.int .i64 2)).run Try.prog w = .ok (.int .i64 c) w := by
  have hu := Try.underlying70
  have hs := size_int1 w
  refine ⟨?_, ?_, ?_⟩ <;> (simp only [Instr.index, Sem.run_bind, asIntOf, run_underlying hu w, Result.andThen_ok, Sem.run_pure]; go_simp; try rfl)
theorem idx2 (a b : Int) (w : World) : (Instr.index 170 (.agg #[.int .i64 a, .int .i64 b]) (.int .i64 0)).run Try.prog w = .ok (.int .i64 a) w ∧
    (Instr.index 170 (.agg #[.int .i64 a, .int .i64 b]) (.int .i64 1)).run Try.prog w = .ok (.int .i64 b) w := by
  have hu := Try.underlying170
  have hs := size_int1 w
  refine ⟨?_, ?_⟩ <;> (simp only [Instr.index, Sem.run_bind, asIntOf, run_underlying hu w, Result.andThen_ok, Sem.run_pure]; go_simp; try rfl)

def ordB (x : Int) : Bool := decide (0 ≤ x ∧ x ≤ 3)
def glueB (g : Gl) : Bool := dimB g.nat && dimB g.stretch && dimB g.shrink && ordB g.so && ordB g.ko
def glueE (g : Gl) : Int := if glueB g then 0 else 30
abbrev Gl.val (g : Gl) : Value := .agg #[.int .i64 g.nat, .int .i64 g.stretch, .int .i64 g.shrink, .int .i64 g.so, .int .i64 g.ko]


set_option maxRecDepth 100000 in
set_option maxHeartbeats 4000000 in
theorem glue_any (g : Gl) (w : World) : Calls Try.prog 82 #[g.val] w fun e w' => e = .returned (.int .i64 (glueE g)) ∧ Ext w w' := by
  obtain ⟨a, b, c, o, p⟩ := g
  have HX := Lib.hid (Ext.alloc (Ext.refl w) (o := .cells #[.int .i64 a, .int .i64 b, .int .i64 c, .int .i64 o, .int .i64 p] 57))
  have hs := (Sat.start w).alloc (.cells #[.int .i64 a, .int .i64 b, .int .i64 c, .int .i64 o, .int .i64 p] 57)
  have R0 := Lib.hid (hs.cell (i := 0) rfl)
  have R1 := Lib.hid (hs.cell (i := 1) rfl)
  have R2 := Lib.hid (hs.cell (i := 2) rfl)
  have r3 := hs.cell (i := 3) rfl
  have r4 := hs.cell (i := 4) rfl
  have lz := hs.lt
  clear hs
  go_enter Try.func82, Try.ntmps82
  go_upto_region 1 with fail
  generalize hW1 : w.alloc (.cells #[.int .i64 a, .int .i64 b, .int .i64 c, .int .i64 o, .int .i64 p] 57) = W1 at *
  generalize w.heap.size = bg at *
  clear hW1
  obtain ⟨k0, k1, k2⟩ := idx3 a b c W1
  obtain ⟨m0, m1⟩ := idx2 o p W1
  have r0 : W1.cell? ⟨bg, 0, none⟩ = some (.int .i64 a) := R0.out
  have r1 : W1.cell? ⟨bg, 1, none⟩ = some (.int .i64 b) := R1.out
  have r2 : W1.cell? ⟨bg, 2, none⟩ = some (.int .i64 c) := R2.out
  go_upto_block 0 with fail
  clear r0 r1 r2
  go_wp2_with fail
  go_loop [14] (fun s14 => ∃ k : Nat, k ≤ 3 ∧ s14 = .int .i64 k ∧ (1 ≤ k → dimB a = true) ∧ (2 ≤ k → dimB b = true) ∧ (3 ≤ k → dimB c = true)) (fun s14 => 3 - (intOf s14).toNat)
  case atStart => exact ⟨0, by omega, rfl, fun h => by omega, fun h => by omega, fun h => by omega⟩
  case round =>
    obtain ⟨k, hk, rfl, h0, h1, h2⟩ := hrel
    have H0 := Lib.hid h0
    have H1 := Lib.hid h1
    have H2 := Lib.hid h2
    clear h0 h1 h2
    have hkc : k = 0 ∨ k = 1 ∨ k = 2 ∨ k = 3 := by omega
    rcases hkc with rfl | rfl | rfl | rfl
    · skip
      by_cases hd : dimB a = true
      · have HD := Lib.hid hd
        have hdc := dimen_any a W1
        rw [hd] at hdc
        have HDC := Lib.hid hdc
        clear hdc hd
        go_wp2_with fail
        refine Calls.mono HDC.out ?_
        rintro e w' ⟨rfl, rfl⟩
        go_wp2
        go_round
        case rel => first | exact ⟨1, by omega, rfl, fun _ => HD.out, fun h => by omega, fun h => by omega⟩ | exact ⟨2, by omega, rfl, fun _ => H0.out (by omega), fun _ => HD.out, fun h => by omega⟩ | exact ⟨3, by omega, rfl, fun _ => H0.out (by omega), fun _ => H1.out (by omega), fun _ => HD.out⟩
        case measure => simp [intOf]
      · have hd2 : dimB a = false := by simpa using hd
        have hdc := dimen_any a W1
        rw [hd2] at hdc
        have HDC := Lib.hid hdc
        have HE := Lib.hid (show glueE ⟨a, b, c, o, p⟩ = 30 by simp [glueE, glueB, hd2])
        clear hdc hd hd2
        go_wp2_with fail
        refine Calls.mono HDC.out ?_
        rintro e w' ⟨rfl, rfl⟩
        go_wp2
        go_ret
        exact ⟨by rw [HE.out]; rfl, HX.out⟩
    · skip
      by_cases hd : dimB b = true
      · have HD := Lib.hid hd
        have hdc := dimen_any b W1
        rw [hd] at hdc
        have HDC := Lib.hid hdc
        clear hdc hd
        go_wp2_with fail
        refine Calls.mono HDC.out ?_
        rintro e w' ⟨rfl, rfl⟩
        go_wp2
        go_round
        case rel => first | exact ⟨1, by omega, rfl, fun _ => HD.out, fun h => by omega, fun h => by omega⟩ | exact ⟨2, by omega, rfl, fun _ => H0.out (by omega), fun _ => HD.out, fun h => by omega⟩ | exact ⟨3, by omega, rfl, fun _ => H0.out (by omega), fun _ => H1.out (by omega), fun _ => HD.out⟩
        case measure => simp [intOf]
      · have hd2 : dimB b = false := by simpa using hd
        have hdc := dimen_any b W1
        rw [hd2] at hdc
        have HDC := Lib.hid hdc
        have HE := Lib.hid (show glueE ⟨a, b, c, o, p⟩ = 30 by simp [glueE, glueB, hd2])
        clear hdc hd hd2
        go_wp2_with fail
        refine Calls.mono HDC.out ?_
        rintro e w' ⟨rfl, rfl⟩
        go_wp2
        go_ret
        exact ⟨by rw [HE.out]; rfl, HX.out⟩
    · skip
      by_cases hd : dimB c = true
      · have HD := Lib.hid hd
        have hdc := dimen_any c W1
        rw [hd] at hdc
        have HDC := Lib.hid hdc
        clear hdc hd
        go_wp2_with fail
        refine Calls.mono HDC.out ?_
        rintro e w' ⟨rfl, rfl⟩
        go_wp2
        go_round
        case rel => first | exact ⟨1, by omega, rfl, fun _ => HD.out, fun h => by omega, fun h => by omega⟩ | exact ⟨2, by omega, rfl, fun _ => H0.out (by omega), fun _ => HD.out, fun h => by omega⟩ | exact ⟨3, by omega, rfl, fun _ => H0.out (by omega), fun _ => H1.out (by omega), fun _ => HD.out⟩
        case measure => simp [intOf]
      · have hd2 : dimB c = false := by simpa using hd
        have hdc := dimen_any c W1
        rw [hd2] at hdc
        have HDC := Lib.hid hdc
        have HE := Lib.hid (show glueE ⟨a, b, c, o, p⟩ = 30 by simp [glueE, glueB, hd2])
        clear hdc hd hd2
        go_wp2_with fail
        refine Calls.mono HDC.out ?_
        rintro e w' ⟨rfl, rfl⟩
        go_wp2
        go_ret
        exact ⟨by rw [HE.out]; rfl, HX.out⟩
    · have D0 := Lib.hid (H0.out (by omega))
      have D1 := Lib.hid (H1.out (by omega))
      have D2 := Lib.hid (H2.out (by omega))
      clear H0 H1 H2
      go_upto_block 2 with fail
      go_wp2_with fail
      go_loop [26] (fun s26 => ∃ k : Nat, k ≤ 2 ∧ s26 = .int .i64 k ∧ (1 ≤ k → ordB o = true) ∧ (2 ≤ k → ordB p = true)) (fun s26 => 2 - (intOf s26).toNat)
      case atStart => exact ⟨0, by omega, rfl, fun h => by omega, fun h => by omega⟩
      case round =>
        obtain ⟨k, hk, rfl, h0, h1⟩ := hrel
        have H0 := Lib.hid h0
        have H1 := Lib.hid h1
        clear h0 h1
        have hkc : k = 0 ∨ k = 1 ∨ k = 2 := by omega
        rcases hkc with rfl | rfl | rfl
        · skip
          by_cases ho1 : o < 0
          · have HE := Lib.hid (show glueE ⟨a, b, c, o, p⟩ = 30 by rw [glueE, if_neg]; simp [glueB, ordB]; omega)
            go_wp2
            go_ret
            exact ⟨by rw [HE.out]; rfl, HX.out⟩
          · by_cases ho2 : 3 < o
            · have HE := Lib.hid (show glueE ⟨a, b, c, o, p⟩ = 30 by rw [glueE, if_neg]; simp [glueB, ordB]; omega)
              go_wp2
              go_ret
              exact ⟨by rw [HE.out]; rfl, HX.out⟩
            · have HO := Lib.hid (show ordB o = true by simp [ordB]; omega)
              go_wp2
              go_round
              case rel => first | exact ⟨1, by omega, rfl, fun _ => HO.out, fun h => by omega⟩ | exact ⟨2, by omega, rfl, fun _ => H0.out (by omega), fun _ => HO.out⟩
              case measure => simp [intOf]
        · skip
          by_cases ho1 : p < 0
          · have HE := Lib.hid (show glueE ⟨a, b, c, o, p⟩ = 30 by rw [glueE, if_neg]; simp [glueB, ordB]; omega)
            go_wp2
            go_ret
            exact ⟨by rw [HE.out]; rfl, HX.out⟩
          · by_cases ho2 : 3 < p
            · have HE := Lib.hid (show glueE ⟨a, b, c, o, p⟩ = 30 by rw [glueE, if_neg]; simp [glueB, ordB]; omega)
              go_wp2
              go_ret
              exact ⟨by rw [HE.out]; rfl, HX.out⟩
            · have HO := Lib.hid (show ordB p = true by simp [ordB]; omega)
              go_wp2
              go_round
              case rel => first | exact ⟨1, by omega, rfl, fun _ => HO.out, fun h => by omega⟩ | exact ⟨2, by omega, rfl, fun _ => H0.out (by omega), fun _ => HO.out⟩
              case measure => simp [intOf]
        · have HE := Lib.hid (show glueE ⟨a, b, c, o, p⟩ = 0 by rw [glueE, if_pos]; simp only [glueB, D0.out, D1.out, D2.out, H0.out (by omega), H1.out (by omega)]; rfl)
          go_wp2
          go_ret
          exact ⟨by rw [HE.out]; rfl, HX.out⟩

end Go.Proofs.Yticljfpippbkkaa

/-
  Values of registers: are they right? Conditions: those that each theorem names.
-/
namespace Go.Proofs.Yticljfpippbkkaa
open Go.RowKit Go.Sp
variable {W w w' : World} {F A : HProp}

def gl0 : Gl := ⟨0, 0, 0, 0, 0⟩
def glue0 (g : Gl) : Bool := g.nat == 0 && (g.stretch == 0 && (g.shrink == 0 && (g.so == 0 && g.ko == 0)))

theorem run_eq_glue (w : World) (g : Gl) : (Op.equalIn 10000 57 g.val gl0.val).run Try.prog w = .ok (glue0 g) w := by
  obtain ⟨a, b, c, d, e⟩ := g
  unfold glue0 gl0
  go_simp
  by_cases h1 : a = 0 <;> by_cases h2 : b = 0 <;> by_cases h3 : c = 0 <;> by_cases h4 : d = 0 <;> by_cases h5 : e = 0 <;> simp [h1, h2, h3, h4, h5]
theorem run_eql_glue (w : World) (g : Gl) : (binOp .eql 57 g.val gl0.val).run Try.prog w = .ok (.bool (glue0 g)) w := by
  simp only [binOp]
  simp [Op.equal, Op.maxDepth, run_eq_glue w g]

/-- a value in memory, its tokens a list -/
structure ValAt (w : World) (b : Nat) (v : RegS) (s : Value) : Prop where
  c0 : w.cell? ⟨b, 0, none⟩ = some (.int .i64 v.n)
  c1 : w.cell? ⟨b, 1, none⟩ = some (.int .i64 v.g.nat)
  c2 : w.cell? ⟨b, 2, none⟩ = some (.int .i64 v.g.stretch)
  c3 : w.cell? ⟨b, 3, none⟩ = some (.int .i64 v.g.shrink)
  c4 : w.cell? ⟨b, 4, none⟩ = some (.int .i64 v.g.so)
  c5 : w.cell? ⟨b, 5, none⟩ = some (.int .i64 v.g.ko)
  c6 : w.cell? ⟨b, 6, none⟩ = some s
  rd : RdT w s v.toks

def bareN (v : RegS) : Bool := glue0 v.g && ((v.toks.length : Int) == 0)
def bareG (v : RegS) : Bool := v.n == 0 && ((v.toks.length : Int) == 0)
def bareT (v : RegS) : Bool := v.n == 0 && glue0 v.g


set_option maxRecDepth 100000 in
set_option maxHeartbeats 4000000 in
theorem bareN_any {b : Nat} {v : RegS} {s : Value} (h : ValAt w b v s) : Calls Try.prog 86 #[.bool true, .bool false, .bool false, .pointer (some ⟨b, 0, none⟩)] w fun e w' => e = .returned (.bool (bareN v)) ∧ w = w' := by
  obtain ⟨n, ⟨g1, g2, g3, g4, g5⟩, L⟩ := v
  obtain ⟨c0, c1, c2, c3, c4, c5, c6, rd⟩ := h
  obtain ⟨a, c, rfl⟩ := rd.val
  obtain ⟨r, hr⟩ : ∃ r, bareN ⟨n, ⟨g1, g2, g3, g4, g5⟩, L⟩ = r := ⟨_, rfl⟩
  rw [hr]
  have HR := Lib.hid hr
  simp only at c0 c1 c2 c3 c4 c5 c6
  obtain ⟨k, hk⟩ : ∃ k, L.length = k := ⟨_, rfl⟩
  have HK := Lib.hid hk
  rw [hk] at c6
  clear rd hr hk
  go_enter Try.func86, Try.ntmps86
  go_wp2
  all_goals
    go_ret
    refine ⟨?_, rfl⟩
    rw [← HR.out]
    have hk := HK.out
    first | (simp_all [bareN, glue0]; done) | (go_ways; fail)
set_option maxRecDepth 100000 in
set_option maxHeartbeats 4000000 in
theorem bareG_any {b : Nat} {v : RegS} {s : Value} (h : ValAt w b v s) : Calls Try.prog 86 #[.bool false, .bool true, .bool false, .pointer (some ⟨b, 0, none⟩)] w fun e w' => e = .returned (.bool (bareG v)) ∧ w = w' := by
  obtain ⟨n, ⟨g1, g2, g3, g4, g5⟩, L⟩ := v
  obtain ⟨c0, c1, c2, c3, c4, c5, c6, rd⟩ := h
  obtain ⟨a, c, rfl⟩ := rd.val
  obtain ⟨r, hr⟩ : ∃ r, bareG ⟨n, ⟨g1, g2, g3, g4, g5⟩, L⟩ = r := ⟨_, rfl⟩
  rw [hr]
  have HR := Lib.hid hr
  simp only at c0 c1 c2 c3 c4 c5 c6
  obtain ⟨k, hk⟩ : ∃ k, L.length = k := ⟨_, rfl⟩
  have HK := Lib.hid hk
  rw [hk] at c6
  clear rd hr hk
  go_enter Try.func86, Try.ntmps86
  go_wp2
  all_goals
    go_ret
    refine ⟨?_, rfl⟩
    rw [← HR.out]
    have hk := HK.out
    first | (simp_all [bareG]; done) | (go_ways; fail)
set_option maxRecDepth 100000 in
set_option maxHeartbeats 4000000 in
theorem bareT_any {b : Nat} {v : RegS} {s : Value} (h : ValAt w b v s) : Calls Try.prog 86 #[.bool false, .bool false, .bool true, .pointer (some ⟨b, 0, none⟩)] w fun e w' => e = .returned (.bool (bareT v)) ∧ w = w' := by
  obtain ⟨n, ⟨g1, g2, g3, g4, g5⟩, L⟩ := v
  obtain ⟨c0, c1, c2, c3, c4, c5, c6, rd⟩ := h
  obtain ⟨a, c, rfl⟩ := rd.val
  obtain ⟨r, hr⟩ : ∃ r, bareT ⟨n, ⟨g1, g2, g3, g4, g5⟩, L⟩ = r := ⟨_, rfl⟩
  rw [hr]
  have HR := Lib.hid hr
  simp only at c0 c1 c2 c3 c4 c5 c6
  obtain ⟨k, hk⟩ : ∃ k, L.length = k := ⟨_, rfl⟩
  have HK := Lib.hid hk
  rw [hk] at c6
  clear rd hr hk
  go_enter Try.func86, Try.ntmps86
  go_wp2
  all_goals
    go_ret
    refine ⟨?_, rfl⟩
    rw [← HR.out]
    have hk := HK.out
    first | (simp_all [bareT, glue0]; done) | (go_ways; fail)

end Go.Proofs.Yticljfpippbkkaa
