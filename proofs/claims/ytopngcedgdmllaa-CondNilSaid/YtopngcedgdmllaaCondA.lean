/-
  Package cond: what its calls do to a stack, at the states that 'live' comes to. Conditions: those that each theorem names.
-/
import Derived.Test.YtopngcedgdmllaaRows
import Derived.Test.YtopngcedgdmllaaSep
namespace Go.Proofs.Ytopngcedgdmllaa
open Go.RowKit Go.Sp

structure St where
  a : Int
  c : Bool
  w : Int
  p : Int
  l : Bool

def St.cells (s : St) : List Value := [.int .i64 s.a, .bool s.c, .int .i64 s.w, .int .i64 s.p, .bool s.l]
def St0 : St := ⟨0, false, 0, 0, false⟩

theorem cells_length (L : List St) : (L.flatMap St.cells).length = L.length * 5 := by
  induction L with
  | nil => rfl
  | cons x L ih => simp [St.cells] at ih ⊢; omega

theorem cells_last (L : List St) (t : St) (j : Nat) (v : Value) (h : t.cells[j]? = some v) : ((L ++ [t]).flatMap St.cells)[L.length * 5 + j]? = some v := by
  rw [List.flatMap_append, List.getElem?_append_right (by rw [cells_length]; omega), cells_length]
  simp only [List.flatMap_cons, List.flatMap_nil, List.append_nil, Nat.add_sub_cancel_left]
  exact h

/-- a stack without conditions -/
def Stk0 (b : Nat) (v : Value) (c : Int) : HProp :=
  pts b (.cells #[v, .int .i64 c, .bool true] 51 (0, 0)) * row v 0 61 5 []

/-- a stack with conditions, the innermost one t -/
def StkA (b g k : Nat) (L : List St) (t : St) (c : Int) : HProp :=
  pts b (.cells #[.slice (some ⟨g, 0, none⟩) (L.length + 1) k, .int .i64 c, .bool true] 51 (0, 0)) *
    row (.slice (some ⟨g, 0, none⟩) (L.length + 1) k) (L.length + 1) 61 5 ((L ++ [t]).flatMap St.cells)

variable {W w : World} {b g k : Nat} {L : List St} {c : Int} {F : HProp} {t : St}

/-- the cells of a stack that is not empty -/
structure Top (w : World) (b g m k : Nat) (c : Int) (t : St) : Prop where
  c0 : w.cell? ⟨b, 0, none⟩ = some (.slice (some ⟨g, 0, none⟩) (m + 1) k)
  c1 : w.cell? ⟨b, 1, none⟩ = some (.int .i64 c)
  c2 : w.cell? ⟨b, 2, none⟩ = some (.bool true)
  t0 : w.cell? ⟨g, m * 5, none⟩ = some (.int .i64 t.a)
  t1 : w.cell? ⟨g, m * 5 + 1, none⟩ = some (.bool t.c)
  t2 : w.cell? ⟨g, m * 5 + 2, none⟩ = some (.int .i64 t.w)
  t3 : w.cell? ⟨g, m * 5 + 3, none⟩ = some (.int .i64 t.p)
  t4 : w.cell? ⟨g, m * 5 + 4, none⟩ = some (.bool t.l)
  f0 : w.frozen? ⟨g, m * 5, none⟩ = false
  f1 : w.frozen? ⟨g, m * 5 + 1, none⟩ = false
  f2 : w.frozen? ⟨g, m * 5 + 2, none⟩ = false
  f3 : w.frozen? ⟨g, m * 5 + 3, none⟩ = false
  f4 : w.frozen? ⟨g, m * 5 + 4, none⟩ = false
  e0 : w.frozen? ⟨b, 0, none⟩ = false
  e1 : w.frozen? ⟨b, 1, none⟩ = false
  le : m < 9223372036854775807
  bs : b < w.heap.size
  gs : g < w.heap.size

theorem StkA.top (h : Sat W (StkA b g k L t c * F) w) : Top w b g L.length k c t := by
  have h := h.asc
  have hr := h.r
  have hlen := hr.row_len.2
  simp only [maxLen] at hlen
  have hcell : ∀ j u, t.cells[j]? = some u → w.cell? ⟨g, L.length * 5 + j, none⟩ = some u := fun j u hu => hr.row_cell (cells_last L t j u hu)
  exact ⟨h.cell rfl, h.cell rfl, h.cell rfl, hcell 0 _ rfl, hcell 1 _ rfl, hcell 2 _ rfl, hcell 3 _ rfl, hcell 4 _ rfl,
    hr.row_free, hr.row_free, hr.row_free, hr.row_free, hr.row_free, h.free, h.free, by omega, h.lt, World.block_lt_of_cell? w _ (hcell 0 _ rfl)⟩

theorem StkA.set (j : Nat) (v : Value) (t' : St) (h : Sat W (StkA b g k L t c * F) w) (ht : t'.cells = t.cells.set j v) :
    Sat W (StkA b g k L t' c * F) (w.setCell ⟨g, L.length * 5 + j, none⟩ v) := by
  have h1 := h.asc.rot
  have h2 := (Sat.row_set (i := L.length * 5 + j) (u := v) h1).rot.asc'
  refine h2.of_eq ?_
  unfold StkA
  congr 2
  rw [List.flatMap_append, List.flatMap_append, List.set_append_right _ _ (by rw [cells_length]; omega), cells_length]
  simp [ht]

theorem StkA.count (v : Int) (h : Sat W (StkA b g k L t c * F) w) : Sat W (StkA b g k L t v * F) (w.setCell ⟨b, 1, none⟩ (.int .i64 v)) :=
  Sat.asc' (Sat.set (i := 1) (v := .int .i64 v) h.asc)

/-- all five -/
theorem StkA.put (x : St) (h : Sat W (StkA b g k L t c * F) w) :
    Sat W (StkA b g k L x c * F) (((((w.setCell ⟨g, L.length * 5, none⟩ (.int .i64 x.a)).setCell ⟨g, L.length * 5 + 1, none⟩ (.bool x.c)).setCell ⟨g, L.length * 5 + 2, none⟩ (.int .i64 x.w)).setCell ⟨g, L.length * 5 + 3, none⟩ (.int .i64 x.p)).setCell ⟨g, L.length * 5 + 4, none⟩ (.bool x.l)) := by
  obtain ⟨a, cc, ww, p, l⟩ := t
  have h1 := StkA.set 0 (.int .i64 x.a) ⟨x.a, cc, ww, p, l⟩ h rfl
  have h2 := StkA.set 1 (.bool x.c) ⟨x.a, x.c, ww, p, l⟩ h1 rfl
  have h3 := StkA.set 2 (.int .i64 x.w) ⟨x.a, x.c, x.w, p, l⟩ h2 rfl
  have h4 := StkA.set 3 (.int .i64 x.p) ⟨x.a, x.c, x.w, x.p, l⟩ h3 rfl
  exact StkA.set 4 (.bool x.l) x h4 rfl

theorem none_nil (w : World) : Calls Try.prog 32 #[.pointer none] w fun e w' => e = .returned (.bool true) ∧ w = w' := by
  go_enter Try.func32, Try.ntmps32
  go_wp2
  go_ret
  exact ⟨rfl, rfl⟩

theorem none_any (b : Nat) (m : Bool) (w : World) (h : w.cell? ⟨b, 2, none⟩ = some (.bool m)) :
   Calls Try.prog 32 #[.pointer (some ⟨b, 0, none⟩)] w fun e w' => e = .returned (.bool !m) ∧ w = w' := by
  go_enter Try.func32, Try.ntmps32
  go_wp2
  go_ret
  exact ⟨rfl, rfl⟩

theorem top_nil (b : Nat) (w : World) (a c) (h : w.cell? ⟨b, 0, none⟩ = some (.slice a 0 c)) :
   Calls Try.prog 35 #[.pointer (some ⟨b, 0, none⟩)] w fun e w' => e = .returned (.pointer none) ∧ w = w' := by
  go_enter Try.func35, Try.ntmps35
  go_wp2
  go_ret
  exact ⟨rfl, rfl⟩

theorem top_some (b : Nat) (w : World) (g m c : Nat) (hm : m < 9223372036854775807) (h : w.cell? ⟨b, 0, none⟩ = some (.slice (some ⟨g, 0, none⟩) (m + 1) c)) :
   Calls Try.prog 35 #[.pointer (some ⟨b, 0, none⟩)] w fun e w' => e = .returned (.pointer (some ⟨g, m * 5, none⟩)) ∧ ∃ k, w.drewN k = w' := by
  have hz : ((m : Int) + 1 == 0) = false := by simp; omega
  go_enter Try.func35, Try.ntmps35
  go_wp2
  go_quiet (fail)
  go_wp2
  go_ret
  exact ⟨rfl, _, rfl⟩

/-- Reading: without conditions -/
theorem reading_nil {v : Value} (h : Sat W (Stk0 b v c * F) w) : Calls Try.prog 24 #[.pointer (some ⟨b, 0, none⟩)] w fun e w' => e = .returned (.bool true) ∧ w = w' := by
  have h := h.asc
  obtain ⟨a, k, rfl, _⟩ := h.r.row_val
  have c0 := h.cell (i := 0) rfl
  have c2 := h.cell (i := 2) rfl
  go_enter Try.func24, Try.ntmps24
  go_wp2_with (first | (go_at_call 32; refine (none_any _ _ _ c2).mono ?_; rintro e w' ⟨rfl, rfl⟩) | (go_at_call 35; refine (top_nil _ _ _ _ c0).mono ?_; rintro e w' ⟨rfl, rfl⟩))
  go_ret
  exact ⟨rfl, rfl⟩

theorem reading_some (h : Sat W (StkA b g k L t c * F) w) : Calls Try.prog 24 #[.pointer (some ⟨b, 0, none⟩)] w fun e w' => e = .returned (.bool (t.a == 0 || t.a == 1)) ∧ ∃ k, w.drewN k = w' := by
  obtain ⟨c0, c1, c2, t0, t1, t2, t3, t4, f0, f1, f2, f3, f4, e0, e1, hm, hb, hg⟩ := StkA.top h
  go_enter Try.func24, Try.ntmps24
  go_wp2_with (first | (go_at_call 32; refine (none_any _ _ _ c2).mono ?_; rintro e w' ⟨rfl, rfl⟩) | (go_at_call 35; refine (top_some _ _ _ _ _ hm c0).mono ?_; rintro e w' ⟨rfl, kq, rfl⟩))
  all_goals
    go_ret
    exact ⟨by simp [*], _, rfl⟩

/-- Waiting, of one that was begun alone -/
theorem waiting0 (h : Sat W (StkA b g k L St0 c * F) w) : Calls Try.prog 25 #[.pointer (some ⟨b, 0, none⟩)] w fun e w' => e = .returned (.bool true) ∧ ∃ k, w.drewN k = w' := by
  obtain ⟨c0, c1, c2, t0, t1, t2, t3, t4, f0, f1, f2, f3, f4, e0, e1, hm, hb, hg⟩ := StkA.top h
  simp only [St0] at t0 t1 t2 t3 t4
  go_enter Try.func25, Try.ntmps25
  go_wp2_with (first | (go_at_call 32; refine (none_any _ _ _ c2).mono ?_; rintro e w' ⟨rfl, rfl⟩) | (go_at_call 35; refine (top_some _ _ _ _ _ hm (by simpa using c0)).mono ?_; rintro e w' ⟨rfl, kq, rfl⟩))
  go_ret
  exact ⟨rfl, _, rfl⟩

theorem become0 (x : St) (h : Sat W (StkA b g k L St0 c * F) w) : Calls Try.prog 33 #[.pointer (some ⟨b, 0, none⟩), .agg x.cells.toArray] w fun e w' => e = .returned (.int .i64 0) ∧ Sat W (StkA b g k L x c * F) w' := by
  obtain ⟨c0, c1, c2, t0, t1, t2, t3, t4, f0, f1, f2, f3, f4, e0, e1, hm, hb, hg⟩ := StkA.top h
  simp only [St0] at t0 t1 t2 t3 t4
  unfold St.cells
  go_enter Try.func33, Try.ntmps33
  go_wp2_with (first | (go_at_call 25; refine (waiting0 h.allocD).mono ?_; rintro e w' ⟨rfl, kq, rfl⟩))
  go_region_with (go_at_call 35; refine (top_some _ _ g _ k hm (by go_simp)).mono ?_; rintro e w' ⟨rfl, kq, rfl⟩)
  all_goals
    go_wp2
    go_ret
    exact ⟨rfl, StkA.put x h.allocD.drewN⟩

theorem case_pass (n : Int) (hn : (n == 0) = false) (h : Sat W (StkA b g k L St0 c * F) w) : Calls Try.prog 21 #[.pointer (some ⟨b, 0, none⟩), .int .i64 n] w fun e w' => e = .returned (.int .i64 0) ∧ Sat W (StkA b g k L ⟨2, true, n, 0, false⟩ c * F) w' := by
  go_enter Try.func21, Try.ntmps21
  go_wp2_with (first | (go_at_call 33; refine (become0 ⟨2, true, n, 0, false⟩ h).mono ?_; rintro e w' ⟨rfl, h1⟩))
  go_ret
  exact ⟨rfl, h1⟩

theorem new_any (h : Sat W F w) : Calls Try.prog 26 #[] w fun e w' => e = .returned (.pointer (some ⟨w.heap.size, 0, none⟩)) ∧ Sat W (Stk0 w.heap.size (.slice none 0 0) 0 * F) w' := by
  go_enter Try.func26, Try.ntmps26
  go_wp2
  go_ret
  exact ⟨rfl, (Sat.alloc h.row_nil _).asc'⟩

theorem info_state : (Try.prog.info? 61).map (fun i => (i.zero, i.size, i.bytes)) = some (some (.agg #[.int .i64 0, .bool false, .int .i64 0, .int .i64 0, .bool false]), 5, 40) := by kernel_rfl

theorem begin_nil {v : Value} (h : Sat W (Stk0 b v c * F) w) : Calls Try.prog 19 #[.pointer (some ⟨b, 0, none⟩)] w fun e w' => e = .returned (.int .i64 0) ∧ ∃ g k, Sat W (StkA b g k [] St0 c * F) w' := by
  have H := h
  replace h := h.asc
  obtain ⟨a, k, rfl, _⟩ := h.r.row_val
  have c0 := h.cell (i := 0) rfl
  have c2 := h.cell (i := 2) rfl
  have e0 := h.free (i := 0)
  have hb := h.lt
  obtain ⟨i0, hi, hz0, hz1, hz2⟩ := info_parts info_state
  go_enter Try.func19, Try.ntmps19
  go_wp2_with (first | (go_at_call 32; refine (none_any _ _ _ c2).mono ?_; rintro e w' ⟨rfl, rfl⟩) | (go_at_call 24; refine (reading_nil H).mono ?_; rintro e w' ⟨rfl, rfl⟩) |
    (at_builtin; refine wpList_append_sep rfl _ _ 49 rfl i0 _ 40 Try.underlying49 hi hz0 hz1 hz2 rfl rfl h.rot.allocD ⟨w.heap.size, 0, none⟩ 1 1 St0.cells rfl rfl ?c1 ?c2 ?c3 ?c4 ?_))
  case c1 => exact new_cells _ _ _
  case c2 => simp [St0, St.cells, Value.oneCell']
  case c3 => simp [maxLen]
  case c4 => omega
  intro v' w1 h1
  obtain ⟨a', k', rfl, hv⟩ := h1.row_val
  obtain ⟨g, rfl, _⟩ := hv 0 _ rfl
  have d0 := h1.rot.cell (i := 0) rfl
  have d1 := h1.rot.free (i := 0)
  go_wp2
  go_ret
  exact ⟨rfl, g, k', Sat.asc' (h1.rot.set (i := 0))⟩

end Go.Proofs.Ytopngcedgdmllaa
