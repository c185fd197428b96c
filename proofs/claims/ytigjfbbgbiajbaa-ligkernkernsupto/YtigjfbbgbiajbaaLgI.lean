/-
  A machine that goes over a row of marks: back, pass, next. Conditions: those that each theorem names.
-/
import Derived.Test.YtigjfbbgbiajbaaLgH
import Derived.Test.YtigjfbbgbiajbaaAnyE
namespace Go.Proofs.Ytigjfbbgbiajbaa
open Go.RowKit Go.Sp
variable {w W : World} {x : FV} {F : Fnt} {A : HProp}

structure Mk where
  (c n : Int) (made : Bool) (kern : Int) (space : Bool)
  deriving DecidableEq
def Mk.cells (m : Mk) : List Value := [.int .i64 m.c, .int .i64 m.n, .bool m.made, .int .i64 m.kern, .bool m.space]
abbrev Mk.val (m : Mk) : Value := .agg #[.int .i64 m.c, .int .i64 m.n, .bool m.made, .int .i64 m.kern, .bool m.space]
abbrev Mk.box (m : Mk) : Obj := .cells #[.int .i64 m.c, .int .i64 m.n, .bool m.made, .int .i64 m.kern, .bool m.space] 58
def mk0 : Mk := ⟨0, 0, false, 0, false⟩
theorem mk_len (x : Mk) : x.cells.length = 5 := rfl
theorem mk_one : ∀ (x : Mk), ∀ u ∈ x.cells, u.oneCell' = true := by
  intro x u hu
  simp only [Mk.cells, List.mem_cons, List.not_mem_nil, or_false] at hu
  rcases hu with rfl | rfl | rfl | rfl | rfl <;> rfl
/-- marks that the call made -/
def rowK (v : Value) (L : List Mk) : HProp := row v L.length 58 5 (L.flatMap Mk.cells)
theorem info_mk : (Try.prog.info? 58).map (fun i => (i.zero, i.size, i.bytes)) = some (some (.agg #[.int .i64 0, .int .i64 0, .bool false, .int .i64 0, .bool false]), 5, 40) := by kernel_rfl
theorem rowK_snoc {u : Value} {L : List Mk} {y : Mk} {n : Nat} (h : Sat W (row u n 58 5 (L.flatMap Mk.cells ++ y.cells) * A) w) (hn : n = L.length + 1) : Sat W (rowK u (L ++ [y]) * A) w := by
  unfold rowK
  rw [List.flatMap_append, List.length_append, List.length_singleton, ← hn, show List.flatMap Mk.cells [y] = y.cells by simp]
  exact h
theorem rowK_rd {v : Value} {L : List Mk} (h : Sat W (rowK v L * A) w) : RdL Mk.cells 5 w v L := by
  unfold rowK at h
  refine ⟨h.rd, ?_⟩
  obtain ⟨-, h2⟩ := h.row_cases
  rcases h2 with ⟨rfl, h0, -⟩ | ⟨g, cap, cur, rfl, h3, -⟩
  · exact ⟨none, 0, by rw [h0], by rw [h0]; exact Nat.le_refl _⟩
  · exact ⟨_, cap, rfl, h3⟩
theorem MkAt.mk' {w : World} {b o : Nat} {m : Mk} (h : ∀ j u, m.cells[j]? = some u → w.cell? ⟨b, o + j, none⟩ = some u) :
    w.cell? ⟨b, o, none⟩ = some (.int .i64 m.c) ∧ w.cell? ⟨b, o + 1, none⟩ = some (.int .i64 m.n) ∧ w.cell? ⟨b, o + 2, none⟩ = some (.bool m.made) ∧ w.cell? ⟨b, o + 3, none⟩ = some (.int .i64 m.kern) ∧ w.cell? ⟨b, o + 4, none⟩ = some (.bool m.space) :=
  ⟨h 0 _ rfl, h 1 _ rfl, h 2 _ rfl, h 3 _ rfl, h 4 _ rfl⟩

abbrev Fnt.mbox (F : Fnt) (x : FV) (dv tv : Value) : Obj := .cells #[dv, tv, .int .u32 F.check, .int .i64 F.design, .int .i64 F.first, x.cv, x.sv, x.kv, x.pv, x.rv, .int .i64 (edgeM F)] 65
theorem mset1 (c0 c1 c2 c3 c4 c5 c6 c7 c8 c9 c10 v : Value) : (#[c0, c1, c2, c3, c4, c5, c6, c7, c8, c9, c10] : Array Value).setIfInBounds 1 v = #[c0, v, c2, c3, c4, c5, c6, c7, c8, c9, c10] := rfl
theorem mset0 (c0 c1 c2 c3 c4 c5 c6 c7 c8 c9 c10 v : Value) : (#[c0, c1, c2, c3, c4, c5, c6, c7, c8, c9, c10] : Array Value).setIfInBounds 0 v = #[v, c1, c2, c3, c4, c5, c6, c7, c8, c9, c10] := rfl
/-- a machine: what it passed (D), and what comes (T, the next one last) -/
def MAt (W : World) (A : HProp) (b : Nat) (x : FV) (F : Fnt) (D T : List Mk) (w : World) : Prop :=
  ∃ dv tv, Sat W (pts b (F.mbox x dv tv) * (rowK dv D * (rowK tv T * A))) w
/-- the same, the slice of what was passed given -/
def MAtV (W : World) (A : HProp) (b : Nat) (x : FV) (F : Fnt) (dv : Value) (D T : List Mk) (w : World) : Prop :=
  ∃ tv, Sat W (pts b (F.mbox x dv tv) * (rowK dv D * (rowK tv T * A))) w
theorem MAtV.m {b : Nat} {dv : Value} {D T : List Mk} (h : MAtV W A b x F dv D T w) : MAt W A b x F D T w := ⟨dv, h⟩
theorem MAt.v {b : Nat} {D T : List Mk} (h : MAt W A b x F D T w) : ∃ dv, MAtV W A b x F dv D T w := h
theorem MAtV.alloc {b : Nat} {dv : Value} {D T : List Mk} (h : MAtV W A b x F dv D T w) (o : Obj) : MAtV W (pts w.heap.size o * A) b x F dv D T (w.alloc o) := by
  obtain ⟨tv, h⟩ := h
  exact ⟨tv, (h.alloc o).of_eq (by ac_rfl)⟩
theorem MAtV.of_eq {b : Nat} {dv : Value} {D T : List Mk} {A' : HProp} (h : MAtV W A b x F dv D T w) (e : A = A') : MAtV W A' b x F dv D T w := e ▸ h
theorem MAtV.frame {b : Nat} {dv : Value} {D T : List Mk} (h : MAtV W A b x F dv D T w) : ∃ Y, Sat W (A * Y) w ∧ ∀ A' w', Sat W (A' * Y) w' → MAtV W A' b x F dv D T w' := by
  obtain ⟨tv, h⟩ := h
  exact ⟨pts b (F.mbox x dv tv) * (rowK dv D * rowK tv T), h.of_eq (by ac_rfl), fun A' w' h' => ⟨tv, h'.of_eq (by ac_rfl)⟩⟩
theorem MAtV.ext {b : Nat} {dv : Value} {D T : List Mk} {w' : World} (h : MAtV W A b x F dv D T w) (k : Ext w w') : MAtV W A b x F dv D T w' := by
  obtain ⟨tv, h⟩ := h
  exact ⟨tv, h.ext k⟩
set_option maxRecDepth 100000 in
set_option maxHeartbeats 4000000 in
theorem back_any {b : Nat} {D T : List Mk} (m : Mk) (hT : T.length ≤ 1000000) (h : MAt W A b x F D T w) :
    Calls Try.prog 30 #[.pointer (some ⟨b, 0, none⟩), m.val] w fun e w' => e = .returned (.tuple #[]) ∧ MAt W A b x F D (T ++ [m]) w' := by
  obtain ⟨dv, tv, h2⟩ := h
  have h3 := h2.alloc m.box
  obtain ⟨W1, hW1⟩ : ∃ W1, w.alloc m.box = W1 := ⟨_, rfl⟩
  obtain ⟨b3, hb3⟩ : ∃ b3, w.heap.size = b3 := ⟨_, rfl⟩
  rw [hb3, hW1] at h3
  obtain ⟨a, c, hv, -⟩ := (rowK_rd (h2.of_eq (show _ = rowK tv T * (pts b (F.mbox x dv tv) * (rowK dv D * A)) by ac_rfl))).val
  subst hv
  have HW1 := Lib.hid hW1
  have HB3 := Lib.hid hb3
  have H3 := Lib.hid h3.drew
  have HT := Lib.hid hT
  obtain ⟨i0, hi, hz0, hz1, hz2⟩ := info_parts3 info_mk
  have HI := Lib.hid hi
  have HZ0 := Lib.hid hz0
  have HZ1 := Lib.hid hz1
  have HZ2 := Lib.hid hz2
  obtain ⟨C, hC⟩ : ∃ C : World → Prop, C = fun w' => ∃ X, Sat W (pts b3 m.box * (pts b (F.mbox x dv (.slice a T.length c)) * X)) w' := ⟨_, rfl⟩
  have HC := Lib.hid (show ∀ w', C w' → w'.cell? ⟨b, 1, none⟩ = some (.slice a T.length c) ∧ w'.cell? ⟨b3, 0, none⟩ = some (.int .i64 m.c) ∧ w'.cell? ⟨b3, 1, none⟩ = some (.int .i64 m.n) ∧ w'.cell? ⟨b3, 2, none⟩ = some (.bool m.made) ∧ w'.cell? ⟨b3, 3, none⟩ = some (.int .i64 m.kern) ∧ w'.cell? ⟨b3, 4, none⟩ = some (.bool m.space) ∧ b < w'.heap.size from fun w' h => by
    rw [hC] at h
    obtain ⟨X, h⟩ := h
    exact ⟨h.r.cell rfl, h.cell rfl, h.cell rfl, h.cell rfl, h.cell rfl, h.cell rfl, h.r.lt⟩)
  have HC2 := Lib.hid (show ∀ X w', Sat W (pts b3 m.box * (pts b (F.mbox x dv (.slice a T.length c)) * X)) w' → C w' from fun X w' h => by rw [hC]; exact ⟨X, h⟩)
  clear h2 h3 hC hi hz0 hz1 hz2 hW1 hT hb3
  obtain ⟨m1, m2, m3, m4, m5⟩ := m
  go_enter Try.func30, Try.ntmps30
  go_upto_region 1 with fail
  rw [HB3.out, show w.alloc (.cells #[.int .i64 m1, .int .i64 m2, .bool m3, .int .i64 m4, .bool m5] 58) = W1 from HW1.out]
  clear HW1 HB3
  refine wp_region_E C (by kernel_rfl) ?_
  obtain ⟨W9, hW9⟩ : ∃ W9, W1.drew = W9 := ⟨_, rfl⟩
  have h9 := H3.out
  rw [hW9] at h9
  rw [hW9]
  have H9 := Lib.hid h9
  clear h9 H3 hW9
  refine wpE_take (i := 0) (q := 8) (v := ?_) rfl (by kernel_rfl) (by kernel_rfl) (by kernel_rfl) (by kernel_rfl) (by kernel_rfl) (fun _ _ _ h => h) (by rfl) ?_ ?_
  rotate_left 1
  · intro w hw; (obtain ⟨p0, q0, q1, q2, q3, q4, pl⟩ := HC.out _ hw; go_simp; try with_reducible rfl)
  refine wpE_take (i := 1) (q := 2) (v := ?_) rfl (by kernel_rfl) (by kernel_rfl) (by kernel_rfl) (by kernel_rfl) (by kernel_rfl) (fun _ _ _ h => h) (by rfl) ?_ ?_
  rotate_left 1
  · intro w hw; (obtain ⟨p0, q0, q1, q2, q3, q4, pl⟩ := HC.out _ hw; go_simp; try with_reducible rfl)
  refine wpE_take (i := 2) (q := 3) (v := ?_) rfl (by kernel_rfl) (by kernel_rfl) (by kernel_rfl) (by kernel_rfl) (by kernel_rfl) (fun _ _ _ h => h) (by rfl) ?_ ?_
  rotate_left 1
  · intro w hw; (obtain ⟨p0, q0, q1, q2, q3, q4, pl⟩ := HC.out _ hw; go_simp; try with_reducible rfl)
  refine wpE_take (i := 3) (q := 4) (v := ?_) rfl (by kernel_rfl) (by kernel_rfl) (by kernel_rfl) (by kernel_rfl) (by kernel_rfl) (fun _ _ _ h => h) (by rfl) ?_ ?_
  rotate_left 1
  · intro w hw; (obtain ⟨p0, q0, q1, q2, q3, q4, pl⟩ := HC.out _ hw; go_simp; try with_reducible rfl)
  refine wpE_take (i := 4) (q := 7) (v := ?_) rfl (by kernel_rfl) (by kernel_rfl) (by kernel_rfl) (by kernel_rfl) (by kernel_rfl) (fun _ _ _ h => h) (by rfl) ?_ ?_
  rotate_left 1
  · intro w hw; (obtain ⟨p0, q0, q1, q2, q3, q4, pl⟩ := HC.out _ hw; go_simp; try with_reducible rfl)
  refine wpE_take (i := 5) (q := 6) (v := ?_) rfl (by kernel_rfl) (by kernel_rfl) (by kernel_rfl) (by kernel_rfl) (by kernel_rfl) (fun _ _ _ h => h) (by rfl) ?_ ?_
  rotate_left 1
  · intro w hw; (obtain ⟨p0, q0, q1, q2, q3, q4, pl⟩ := HC.out _ hw; go_simp; try with_reducible rfl)
  refine wpE_one (i := 6) rfl (by kernel_rfl) (HC2.out _ _ H9.out) (fun K hK => ?_)
  go_simp
  refine hK _ _ ?_
  clear hK K
  have h11 := H9.out.alloc (Mk.box ⟨m1, m2, m3, m4, m5⟩)
  obtain ⟨b74, hb74⟩ : ∃ b74, W9.heap.size = b74 := ⟨_, rfl⟩
  obtain ⟨W11, hW11⟩ : ∃ W11, W9.alloc (Mk.box ⟨m1, m2, m3, m4, m5⟩) = W11 := ⟨_, rfl⟩
  rw [hb74, hW11] at h11
  rw [hb74, show W9.alloc (.cells #[.int .i64 m1, .int .i64 m2, .bool m3, .int .i64 m4, .bool m5] 58) = W11 from hW11]
  have hcw3 := HC2.out _ _ (h11.of_eq (show _ = pts b3 (Mk.box ⟨m1, m2, m3, m4, m5⟩) * (pts b (F.mbox x dv (.slice a T.length c)) * (pts b74 (Mk.box ⟨m1, m2, m3, m4, m5⟩) * (rowK dv D * (rowK (.slice a T.length c) T * A)))) by ac_rfl))
  have hnew : Rd W11 (.slice (some ⟨b74, 0, none⟩) 1 1) 1 5 (Mk.cells ⟨m1, m2, m3, m4, m5⟩) :=
    (Sat.row_mk (e := 58) (size := 5) (xs := Mk.cells ⟨m1, m2, m3, m4, m5⟩) h11 (Nat.le_refl 1) (by simp [maxLen]) rfl rfl rfl).rd
  have hrw := h11.r.of_eq (show _ = rowK (.slice a T.length c) T * (pts b3 (Mk.box ⟨m1, m2, m3, m4, m5⟩) * (pts b (F.mbox x dv (.slice a T.length c)) * (rowK dv D * A))) by ac_rfl)
  have HRW := Lib.hid (show Sat W (row (.slice a T.length c) (T).length 58 5 ((T).flatMap Mk.cells) * (pts b3 (Mk.box ⟨m1, m2, m3, m4, m5⟩) * (pts b (F.mbox x dv (.slice a T.length c)) * (rowK dv D * A)))) W11 from hrw)
  clear h11 hb74 H9 hrw
  refine wpE_one (i := 7) rfl (by kernel_rfl) (hcw3) (fun K hK => ?_)
  refine step_append_rd rfl _ _ 56 rfl i0 _ 40 Try.underlying56 HI.out HZ0.out HZ1.out HZ2.out rfl (by omega) rfl HRW.out (.slice (some ⟨b74, 0, none⟩) 1 1) 1 (Mk.cells ⟨m1, m2, m3, m4, m5⟩) rfl hnew (mk_one _) (by have := HT.out; simp [maxLen]; omega) (by have := HT.out; omega) ?_
  intro v1 w12 h12 _
  have h13 := rowK_snoc (L := T) (y := ⟨m1, m2, m3, m4, m5⟩) h12 rfl
  obtain ⟨a1, c1, hv1, -⟩ := (rowK_rd h13).val
  rw [List.length_append, List.length_singleton] at hv1
  subst hv1
  have h13' := h13.of_eq (show _ = pts b3 (Mk.box ⟨m1, m2, m3, m4, m5⟩) * (pts b (F.mbox x dv (.slice a T.length c)) * (rowK (.slice a1 (T.length + 1) c1) (T ++ [⟨m1, m2, m3, m4, m5⟩]) * (rowK dv D * A))) by ac_rfl)
  have HCW := Lib.hid (HC2.out _ _ h13')
  have ob := h13'.r.lt
  have oc := h13'.r.cell (i := 1) rfl
  have of := h13'.r.free (i := 1)
  have h14 := h13'.r.set (i := 1) (v := .slice a1 (T.length + 1) c1)
  rw [mset1] at h14
  have H14 := Lib.hid h14
  clear h12 h13 h13' h14 hcw3 HRW
  go_simp
  refine hK _ _ ?_
  clear hK K
  refine wpE_take (i := 8) (q := 9) (v := ?_) rfl (by kernel_rfl) (by kernel_rfl) (by kernel_rfl) (by kernel_rfl) (by kernel_rfl) (fun _ _ _ h => h) (by rfl) ?_ ?_
  rotate_left 1
  · intro w hw; (obtain ⟨p0, q0, q1, q2, q3, q4, pl⟩ := HC.out _ hw; go_simp; try with_reducible rfl)
  refine wpE_take (i := 9) (q := 10) (v := ?_) rfl (by kernel_rfl) (by kernel_rfl) (by kernel_rfl) (by kernel_rfl) (by kernel_rfl) (fun _ _ _ h => h) (by rfl) ?_ ?_
  rotate_left 1
  · intro w hw; (obtain ⟨p0, q0, q1, q2, q3, q4, pl⟩ := HC.out _ hw; go_simp; try with_reducible rfl)
  refine wpE_one (i := 10) rfl (by kernel_rfl) (HCW.out) (fun K hK => ?_)
  go_simp
  refine hK _ _ ?_
  clear hK K ob of oc
  refine wpE_done (by kernel_rfl) (by kernel_rfl) ?_
  go_wp2
  go_end0
  exact ⟨rfl, dv, .slice a1 (T.length + 1) c1, H14.out.of_eq (by ac_rfl)⟩
set_option maxRecDepth 100000 in
set_option maxHeartbeats 4000000 in
theorem pass_any {b : Nat} {D T : List Mk} (m : Mk) (hT : D.length ≤ 1000000) (h : MAt W A b x F D T w) :
    Calls Try.prog 31 #[.pointer (some ⟨b, 0, none⟩), m.val] w fun e w' => e = .returned (.tuple #[]) ∧ MAt W A b x F (D ++ [m]) T w' := by
  obtain ⟨dv, tv, h2⟩ := h
  have h3 := h2.alloc m.box
  obtain ⟨W1, hW1⟩ : ∃ W1, w.alloc m.box = W1 := ⟨_, rfl⟩
  obtain ⟨b3, hb3⟩ : ∃ b3, w.heap.size = b3 := ⟨_, rfl⟩
  rw [hb3, hW1] at h3
  obtain ⟨a, c, hv, -⟩ := (rowK_rd h2.r).val
  subst hv
  have HW1 := Lib.hid hW1
  have HB3 := Lib.hid hb3
  have H3 := Lib.hid h3.drew
  have HT := Lib.hid hT
  obtain ⟨i0, hi, hz0, hz1, hz2⟩ := info_parts3 info_mk
  have HI := Lib.hid hi
  have HZ0 := Lib.hid hz0
  have HZ1 := Lib.hid hz1
  have HZ2 := Lib.hid hz2
  obtain ⟨C, hC⟩ : ∃ C : World → Prop, C = fun w' => ∃ X, Sat W (pts b3 m.box * (pts b (F.mbox x (.slice a D.length c) tv) * X)) w' := ⟨_, rfl⟩
  have HC := Lib.hid (show ∀ w', C w' → w'.cell? ⟨b, 0, none⟩ = some (.slice a D.length c) ∧ w'.cell? ⟨b3, 0, none⟩ = some (.int .i64 m.c) ∧ w'.cell? ⟨b3, 1, none⟩ = some (.int .i64 m.n) ∧ w'.cell? ⟨b3, 2, none⟩ = some (.bool m.made) ∧ w'.cell? ⟨b3, 3, none⟩ = some (.int .i64 m.kern) ∧ w'.cell? ⟨b3, 4, none⟩ = some (.bool m.space) ∧ b < w'.heap.size from fun w' h => by
    rw [hC] at h
    obtain ⟨X, h⟩ := h
    exact ⟨h.r.cell rfl, h.cell rfl, h.cell rfl, h.cell rfl, h.cell rfl, h.cell rfl, h.r.lt⟩)
  have HC2 := Lib.hid (show ∀ X w', Sat W (pts b3 m.box * (pts b (F.mbox x (.slice a D.length c) tv) * X)) w' → C w' from fun X w' h => by rw [hC]; exact ⟨X, h⟩)
  clear h2 h3 hC hi hz0 hz1 hz2 hW1 hT hb3
  obtain ⟨m1, m2, m3, m4, m5⟩ := m
  go_enter Try.func31, Try.ntmps31
  go_upto_region 1 with fail
  rw [HB3.out, show w.alloc (.cells #[.int .i64 m1, .int .i64 m2, .bool m3, .int .i64 m4, .bool m5] 58) = W1 from HW1.out]
  clear HW1 HB3
  refine wp_region_E C (by kernel_rfl) ?_
  obtain ⟨W9, hW9⟩ : ∃ W9, W1.drew = W9 := ⟨_, rfl⟩
  have h9 := H3.out
  rw [hW9] at h9
  rw [hW9]
  have H9 := Lib.hid h9
  clear h9 H3 hW9
  refine wpE_take (i := 0) (q := 8) (v := ?_) rfl (by kernel_rfl) (by kernel_rfl) (by kernel_rfl) (by kernel_rfl) (by kernel_rfl) (fun _ _ _ h => h) (by rfl) ?_ ?_
  rotate_left 1
  · intro w hw; (obtain ⟨p0, q0, q1, q2, q3, q4, pl⟩ := HC.out _ hw; go_simp; try with_reducible rfl)
  refine wpE_take (i := 1) (q := 2) (v := ?_) rfl (by kernel_rfl) (by kernel_rfl) (by kernel_rfl) (by kernel_rfl) (by kernel_rfl) (fun _ _ _ h => h) (by rfl) ?_ ?_
  rotate_left 1
  · intro w hw; (obtain ⟨p0, q0, q1, q2, q3, q4, pl⟩ := HC.out _ hw; go_simp; try with_reducible rfl)
  refine wpE_take (i := 2) (q := 3) (v := ?_) rfl (by kernel_rfl) (by kernel_rfl) (by kernel_rfl) (by kernel_rfl) (by kernel_rfl) (fun _ _ _ h => h) (by rfl) ?_ ?_
  rotate_left 1
  · intro w hw; (obtain ⟨p0, q0, q1, q2, q3, q4, pl⟩ := HC.out _ hw; go_simp; try with_reducible rfl)
  refine wpE_take (i := 3) (q := 4) (v := ?_) rfl (by kernel_rfl) (by kernel_rfl) (by kernel_rfl) (by kernel_rfl) (by kernel_rfl) (fun _ _ _ h => h) (by rfl) ?_ ?_
  rotate_left 1
  · intro w hw; (obtain ⟨p0, q0, q1, q2, q3, q4, pl⟩ := HC.out _ hw; go_simp; try with_reducible rfl)
  refine wpE_take (i := 4) (q := 7) (v := ?_) rfl (by kernel_rfl) (by kernel_rfl) (by kernel_rfl) (by kernel_rfl) (by kernel_rfl) (fun _ _ _ h => h) (by rfl) ?_ ?_
  rotate_left 1
  · intro w hw; (obtain ⟨p0, q0, q1, q2, q3, q4, pl⟩ := HC.out _ hw; go_simp; try with_reducible rfl)
  refine wpE_take (i := 5) (q := 6) (v := ?_) rfl (by kernel_rfl) (by kernel_rfl) (by kernel_rfl) (by kernel_rfl) (by kernel_rfl) (fun _ _ _ h => h) (by rfl) ?_ ?_
  rotate_left 1
  · intro w hw; (obtain ⟨p0, q0, q1, q2, q3, q4, pl⟩ := HC.out _ hw; go_simp; try with_reducible rfl)
  refine wpE_one (i := 6) rfl (by kernel_rfl) (HC2.out _ _ H9.out) (fun K hK => ?_)
  go_simp
  refine hK _ _ ?_
  clear hK K
  have h11 := H9.out.alloc (Mk.box ⟨m1, m2, m3, m4, m5⟩)
  obtain ⟨b74, hb74⟩ : ∃ b74, W9.heap.size = b74 := ⟨_, rfl⟩
  obtain ⟨W11, hW11⟩ : ∃ W11, W9.alloc (Mk.box ⟨m1, m2, m3, m4, m5⟩) = W11 := ⟨_, rfl⟩
  rw [hb74, hW11] at h11
  rw [hb74, show W9.alloc (.cells #[.int .i64 m1, .int .i64 m2, .bool m3, .int .i64 m4, .bool m5] 58) = W11 from hW11]
  have hcw3 := HC2.out _ _ (h11.of_eq (show _ = pts b3 (Mk.box ⟨m1, m2, m3, m4, m5⟩) * (pts b (F.mbox x (.slice a D.length c) tv) * (pts b74 (Mk.box ⟨m1, m2, m3, m4, m5⟩) * (rowK (.slice a D.length c) D * (rowK tv T * A)))) by ac_rfl))
  have hnew : Rd W11 (.slice (some ⟨b74, 0, none⟩) 1 1) 1 5 (Mk.cells ⟨m1, m2, m3, m4, m5⟩) :=
    (Sat.row_mk (e := 58) (size := 5) (xs := Mk.cells ⟨m1, m2, m3, m4, m5⟩) h11 (Nat.le_refl 1) (by simp [maxLen]) rfl rfl rfl).rd
  have hrw := h11.r.of_eq (show _ = rowK (.slice a D.length c) D * (pts b3 (Mk.box ⟨m1, m2, m3, m4, m5⟩) * (pts b (F.mbox x (.slice a D.length c) tv) * (rowK tv T * A))) by ac_rfl)
  have HRW := Lib.hid (show Sat W (row (.slice a D.length c) (D).length 58 5 ((D).flatMap Mk.cells) * (pts b3 (Mk.box ⟨m1, m2, m3, m4, m5⟩) * (pts b (F.mbox x (.slice a D.length c) tv) * (rowK tv T * A)))) W11 from hrw)
  clear h11 hb74 H9 hrw
  refine wpE_one (i := 7) rfl (by kernel_rfl) (hcw3) (fun K hK => ?_)
  refine step_append_rd rfl _ _ 56 rfl i0 _ 40 Try.underlying56 HI.out HZ0.out HZ1.out HZ2.out rfl (by omega) rfl HRW.out (.slice (some ⟨b74, 0, none⟩) 1 1) 1 (Mk.cells ⟨m1, m2, m3, m4, m5⟩) rfl hnew (mk_one _) (by have := HT.out; simp [maxLen]; omega) (by have := HT.out; omega) ?_
  intro v1 w12 h12 _
  have h13 := rowK_snoc (L := D) (y := ⟨m1, m2, m3, m4, m5⟩) h12 rfl
  obtain ⟨a1, c1, hv1, -⟩ := (rowK_rd h13).val
  rw [List.length_append, List.length_singleton] at hv1
  subst hv1
  have h13' := h13.of_eq (show _ = pts b3 (Mk.box ⟨m1, m2, m3, m4, m5⟩) * (pts b (F.mbox x (.slice a D.length c) tv) * (rowK (.slice a1 (D.length + 1) c1) (D ++ [⟨m1, m2, m3, m4, m5⟩]) * (rowK tv T * A))) by ac_rfl)
  have HCW := Lib.hid (HC2.out _ _ h13')
  have ob := h13'.r.lt
  have oc := h13'.r.cell (i := 0) rfl
  have of := h13'.r.free (i := 0)
  have h14 := h13'.r.set (i := 0) (v := .slice a1 (D.length + 1) c1)
  rw [mset0] at h14
  have H14 := Lib.hid h14
  clear h12 h13 h13' h14 hcw3 HRW
  go_simp
  refine hK _ _ ?_
  clear hK K
  refine wpE_take (i := 8) (q := 9) (v := ?_) rfl (by kernel_rfl) (by kernel_rfl) (by kernel_rfl) (by kernel_rfl) (by kernel_rfl) (fun _ _ _ h => h) (by rfl) ?_ ?_
  rotate_left 1
  · intro w hw; (obtain ⟨p0, q0, q1, q2, q3, q4, pl⟩ := HC.out _ hw; go_simp; try with_reducible rfl)
  refine wpE_take (i := 9) (q := 10) (v := ?_) rfl (by kernel_rfl) (by kernel_rfl) (by kernel_rfl) (by kernel_rfl) (by kernel_rfl) (fun _ _ _ h => h) (by rfl) ?_ ?_
  rotate_left 1
  · intro w hw; (obtain ⟨p0, q0, q1, q2, q3, q4, pl⟩ := HC.out _ hw; go_simp; try with_reducible rfl)
  refine wpE_one (i := 10) rfl (by kernel_rfl) (HCW.out) (fun K hK => ?_)
  go_simp
  refine hK _ _ ?_
  clear hK K ob of oc
  refine wpE_done (by kernel_rfl) (by kernel_rfl) ?_
  go_wp2
  go_end0
  exact ⟨rfl, .slice a1 (D.length + 1) c1, tv, H14.out.of_eq (by ac_rfl)⟩
end Go.Proofs.Ytigjfbbgbiajbaa
