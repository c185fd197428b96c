
/-
  Sums, products and quotients of glue: some glue, some error. Conditions: those that each theorem names.
-/
import Derived.Test.YtebggkgciocciaaTabW
namespace Go.Proofs.Ytebggkgciocciaa
open Go.RowKit Go.Sp
variable {W w w' : World} {F A : HProp}

def TwoR (e : Ending) : Prop := ∃ x y : Int, e = .returned (.tuple #[.int .i64 x, .int .i64 y])
def TimesR (e : Ending) : Prop := ∃ (x : Int) (y : Bool), e = .returned (.tuple #[.int .i64 x, .bool y])
def GlueR (e : Ending) : Prop := ∃ (g : Gl) (er : Int), e = .returned (.tuple #[g.val, .int .i64 er])
theorem TwoR.mk (x y : Int) : TwoR (.returned (.tuple #[.int .i64 x, .int .i64 y])) := ⟨x, y, rfl⟩
theorem TimesR.mk (x : Int) (y : Bool) : TimesR (.returned (.tuple #[.int .i64 x, .bool y])) := ⟨x, y, rfl⟩
theorem GlueR.mk (a b c o p er : Int) : GlueR (.returned (.tuple #[.agg #[.int .i64 a, .int .i64 b, .int .i64 c, .int .i64 o, .int .i64 p], .int .i64 er])) := ⟨⟨a, b, c, o, p⟩, er, rfl⟩

theorem joined_any (a o b p : Int) (w : World) : Calls Try.prog 50 #[.int .i64 a, .int .i64 o, .int .i64 b, .int .i64 p] w fun e w' => TwoR e ∧ w = w' := by
  go_enter Try.func50, Try.ntmps50
  by_cases h1 : a = 0
  · subst h1
    go_wp2
    (try simp only [Exit.inBlock, Exit.then])
    refine bodyPost_ret (v := .tuple #[.int .i64 b, .int .i64 p]) ?rh rfl ⟨⟨_, _, rfl⟩, rfl⟩
    case rh => unfold results; go_simp
  · have q1 : (a == 0) = false := by rw [beq_eq_false_iff_ne]; exact h1
    by_cases h2 : b = 0
    · subst h2
      go_wp2
      (try simp only [Exit.inBlock, Exit.then])
      refine bodyPost_ret (v := .tuple #[.int .i64 a, .int .i64 o]) ?rh rfl ⟨⟨_, _, rfl⟩, rfl⟩
      case rh => unfold results; go_simp
    · have q2 : (b == 0) = false := by rw [beq_eq_false_iff_ne]; exact h2
      by_cases h3 : p < o
      · skip
        go_wp2
        (try simp only [Exit.inBlock, Exit.then])
        refine bodyPost_ret (v := .tuple #[.int .i64 a, .int .i64 o]) ?rh rfl ⟨⟨_, _, rfl⟩, rfl⟩
        case rh => unfold results; go_simp
      · by_cases h4 : o < p
        · skip
          go_wp2
          (try simp only [Exit.inBlock, Exit.then])
          refine bodyPost_ret (v := .tuple #[.int .i64 b, .int .i64 p]) ?rh rfl ⟨⟨_, _, rfl⟩, rfl⟩
          case rh => unfold results; go_simp
        · skip
          go_wp2
          (try simp only [Exit.inBlock, Exit.then])
          refine bodyPost_ret (v := .tuple #[.int .i64 (wrap64 (a + b)), .int .i64 o]) ?rh rfl ⟨⟨_, _, rfl⟩, rfl⟩
          case rh => unfold results; go_simp

theorem times_any (a b : Int) (w : World) : Calls Try.prog 52 #[.int .i64 a, .int .i64 b] w fun e w' => TimesR e ∧ w = w' := by
  go_enter Try.func52, Try.ntmps52
  by_cases h1 : a = 0
  · subst h1
    go_wp2
    (try simp only [Exit.inBlock, Exit.then])
    refine bodyPost_ret (v := .tuple #[.int .i64 0, .bool true]) ?rh rfl ⟨⟨_, _, rfl⟩, rfl⟩
    case rh => unfold results; go_simp
  · have q1 : (a == 0) = false := by rw [beq_eq_false_iff_ne]; exact h1
    by_cases h2 : b = 0
    · subst h2
      go_wp2
      (try simp only [Exit.inBlock, Exit.then])
      refine bodyPost_ret (v := .tuple #[.int .i64 0, .bool true]) ?rh rfl ⟨⟨_, _, rfl⟩, rfl⟩
      case rh => unfold results; go_simp
    · have q2 : (b == 0) = false := by rw [beq_eq_false_iff_ne]; exact h2
      by_cases h3 : 1073741823 < b
      · skip
        go_wp2
        (try simp only [Exit.inBlock, Exit.then])
        refine bodyPost_ret (v := .tuple #[.int .i64 0, .bool false]) ?rh rfl ⟨⟨_, _, rfl⟩, rfl⟩
        case rh => unfold results; go_simp
      · by_cases h4 : b < -1073741823
        · skip
          go_wp2
          (try simp only [Exit.inBlock, Exit.then])
          refine bodyPost_ret (v := .tuple #[.int .i64 0, .bool false]) ?rh rfl ⟨⟨_, _, rfl⟩, rfl⟩
          case rh => unfold results; go_simp
        · skip
          go_wp2
          (try simp only [Exit.inBlock, Exit.then])
          refine bodyPost_ret (v := .tuple #[.int .i64 (wrap64 (a * b)), .bool true]) ?rh rfl ⟨⟨_, _, rfl⟩, rfl⟩
          case rh => unfold results; go_simp

set_option maxRecDepth 100000 in
set_option maxHeartbeats 4000000 in
theorem tidy_any (g : Gl) (w : World) : Calls Try.prog 51 #[g.val] w fun e w' => GlueR e ∧ Ext w w' := by
  obtain ⟨a, b, c, o, p⟩ := g
  go_enter Try.func51, Try.ntmps51
  by_cases hb : b = 0
  · subst hb
    by_cases hc : c = 0
    · subst hc
      have hs := ((Sat.start w).alloc (.cells #[.int .i64 a, .int .i64 0, .int .i64 0, .int .i64 0, .int .i64 0] 38)).alloc (.cells #[.int .i64 0, .int .i64 0, .int .i64 0, .int .i64 0, .int .i64 0] 38)
      rw [show (w.alloc (.cells #[.int .i64 a, .int .i64 0, .int .i64 0, .int .i64 0, .int .i64 0] 38)).heap.size = w.heap.size + 1 by simp] at hs
      have HS := Lib.hid hs
      obtain ⟨er, her⟩ : ∃ er, glueE ⟨a, 0, 0, 0, 0⟩ = er := ⟨_, rfl⟩
      have HG := Lib.hid (glue_any ⟨a, 0, 0, 0, 0⟩ ((w.alloc (.cells #[.int .i64 a, .int .i64 0, .int .i64 0, .int .i64 0, .int .i64 0] 38)).alloc (.cells #[.int .i64 0, .int .i64 0, .int .i64 0, .int .i64 0, .int .i64 0] 38)))
      rw [her] at HG
      clear hs her
      go_wp2_with fail
      refine Calls.mono HG.out ?_
      rintro e w1 ⟨rfl, hx⟩
      have h2 := HS.out.ext hx
      have HX := Lib.hid h2.r.r.toExt
      generalize hbz : w.heap.size = bz at *
      have d0 := h2.r.cell (i := 0) rfl
      have d1 := h2.r.cell (i := 1) rfl
      have d2 := h2.r.cell (i := 2) rfl
      have d3 := h2.r.cell (i := 3) rfl
      have d4 := h2.r.cell (i := 4) rfl
      have y0 := h2.cell (i := 0) rfl
      have y1 := h2.cell (i := 1) rfl
      have y2 := h2.cell (i := 2) rfl
      have y3 := h2.cell (i := 3) rfl
      have y4 := h2.cell (i := 4) rfl
      have f0 := h2.free (i := 0)
      have f1 := h2.free (i := 1)
      have f2 := h2.free (i := 2)
      have f3 := h2.free (i := 3)
      have f4 := h2.free (i := 4)
      have l1 := h2.lt
      have l2 := h2.r.lt
      have H2 := Lib.hid h2
      clear hx h2 hbz
      by_cases he : er = 0
      · subst he
        have HZ := Lib.hid (((((H2.out.set (i := 0) (v := .int .i64 a)).set (i := 1) (v := .int .i64 0)).set (i := 2) (v := .int .i64 0)).set (i := 3) (v := .int .i64 0)).set (i := 4) (v := .int .i64 0))
        go_wp2
        (try simp only [Exit.inBlock, Exit.then])
        refine bodyPost_ret (v := .tuple #[.agg #[.int .i64 a, .int .i64 0, .int .i64 0, .int .i64 0, .int .i64 0], .int .i64 0]) ?rh rfl ⟨GlueR.mk _ _ _ _ _ _, HZ.out.r.r.toExt⟩
        case rh => unfold results; go_simp
      · have q1 : (er == 0) = false := by rw [beq_eq_false_iff_ne]; exact he
        have HZ := Lib.hid (((((H2.out.set (i := 0) (v := .int .i64 0)).set (i := 1) (v := .int .i64 0)).set (i := 2) (v := .int .i64 0)).set (i := 3) (v := .int .i64 0)).set (i := 4) (v := .int .i64 0))
        clear he
        go_wp2
        (try simp only [Exit.inBlock, Exit.then])
        refine bodyPost_ret (v := .tuple #[.agg #[.int .i64 0, .int .i64 0, .int .i64 0, .int .i64 0, .int .i64 0], .int .i64 20]) ?rh rfl ⟨GlueR.mk _ _ _ _ _ _, HZ.out.r.r.toExt⟩
        case rh => unfold results; go_simp
    · have qc : (c == 0) = false := by rw [beq_eq_false_iff_ne]; exact hc
      have hs := ((Sat.start w).alloc (.cells #[.int .i64 a, .int .i64 0, .int .i64 c, .int .i64 0, .int .i64 p] 38)).alloc (.cells #[.int .i64 0, .int .i64 0, .int .i64 0, .int .i64 0, .int .i64 0] 38)
      rw [show (w.alloc (.cells #[.int .i64 a, .int .i64 0, .int .i64 c, .int .i64 0, .int .i64 p] 38)).heap.size = w.heap.size + 1 by simp] at hs
      have HS := Lib.hid hs
      obtain ⟨er, her⟩ : ∃ er, glueE ⟨a, 0, c, 0, p⟩ = er := ⟨_, rfl⟩
      have HG := Lib.hid (glue_any ⟨a, 0, c, 0, p⟩ ((w.alloc (.cells #[.int .i64 a, .int .i64 0, .int .i64 c, .int .i64 0, .int .i64 p] 38)).alloc (.cells #[.int .i64 0, .int .i64 0, .int .i64 0, .int .i64 0, .int .i64 0] 38)))
      rw [her] at HG
      clear hs her
      go_wp2_with fail
      refine Calls.mono HG.out ?_
      rintro e w1 ⟨rfl, hx⟩
      have h2 := HS.out.ext hx
      have HX := Lib.hid h2.r.r.toExt
      generalize hbz : w.heap.size = bz at *
      have d0 := h2.r.cell (i := 0) rfl
      have d1 := h2.r.cell (i := 1) rfl
      have d2 := h2.r.cell (i := 2) rfl
      have d3 := h2.r.cell (i := 3) rfl
      have d4 := h2.r.cell (i := 4) rfl
      have y0 := h2.cell (i := 0) rfl
      have y1 := h2.cell (i := 1) rfl
      have y2 := h2.cell (i := 2) rfl
      have y3 := h2.cell (i := 3) rfl
      have y4 := h2.cell (i := 4) rfl
      have f0 := h2.free (i := 0)
      have f1 := h2.free (i := 1)
      have f2 := h2.free (i := 2)
      have f3 := h2.free (i := 3)
      have f4 := h2.free (i := 4)
      have l1 := h2.lt
      have l2 := h2.r.lt
      have H2 := Lib.hid h2
      clear hx h2 hbz
      by_cases he : er = 0
      · subst he
        have HZ := Lib.hid (((((H2.out.set (i := 0) (v := .int .i64 a)).set (i := 1) (v := .int .i64 0)).set (i := 2) (v := .int .i64 c)).set (i := 3) (v := .int .i64 0)).set (i := 4) (v := .int .i64 p))
        go_wp2
        (try simp only [Exit.inBlock, Exit.then])
        refine bodyPost_ret (v := .tuple #[.agg #[.int .i64 a, .int .i64 0, .int .i64 c, .int .i64 0, .int .i64 p], .int .i64 0]) ?rh rfl ⟨GlueR.mk _ _ _ _ _ _, HZ.out.r.r.toExt⟩
        case rh => unfold results; go_simp
      · have q1 : (er == 0) = false := by rw [beq_eq_false_iff_ne]; exact he
        have HZ := Lib.hid (((((H2.out.set (i := 0) (v := .int .i64 0)).set (i := 1) (v := .int .i64 0)).set (i := 2) (v := .int .i64 0)).set (i := 3) (v := .int .i64 0)).set (i := 4) (v := .int .i64 0))
        clear he
        go_wp2
        (try simp only [Exit.inBlock, Exit.then])
        refine bodyPost_ret (v := .tuple #[.agg #[.int .i64 0, .int .i64 0, .int .i64 0, .int .i64 0, .int .i64 0], .int .i64 20]) ?rh rfl ⟨GlueR.mk _ _ _ _ _ _, HZ.out.r.r.toExt⟩
        case rh => unfold results; go_simp
  · have qb : (b == 0) = false := by rw [beq_eq_false_iff_ne]; exact hb
    by_cases hc : c = 0
    · subst hc
      have hs := ((Sat.start w).alloc (.cells #[.int .i64 a, .int .i64 b, .int .i64 0, .int .i64 o, .int .i64 0] 38)).alloc (.cells #[.int .i64 0, .int .i64 0, .int .i64 0, .int .i64 0, .int .i64 0] 38)
      rw [show (w.alloc (.cells #[.int .i64 a, .int .i64 b, .int .i64 0, .int .i64 o, .int .i64 0] 38)).heap.size = w.heap.size + 1 by simp] at hs
      have HS := Lib.hid hs
      obtain ⟨er, her⟩ : ∃ er, glueE ⟨a, b, 0, o, 0⟩ = er := ⟨_, rfl⟩
      have HG := Lib.hid (glue_any ⟨a, b, 0, o, 0⟩ ((w.alloc (.cells #[.int .i64 a, .int .i64 b, .int .i64 0, .int .i64 o, .int .i64 0] 38)).alloc (.cells #[.int .i64 0, .int .i64 0, .int .i64 0, .int .i64 0, .int .i64 0] 38)))
      rw [her] at HG
      clear hs her
      go_wp2_with fail
      refine Calls.mono HG.out ?_
      rintro e w1 ⟨rfl, hx⟩
      have h2 := HS.out.ext hx
      have HX := Lib.hid h2.r.r.toExt
      generalize hbz : w.heap.size = bz at *
      have d0 := h2.r.cell (i := 0) rfl
      have d1 := h2.r.cell (i := 1) rfl
      have d2 := h2.r.cell (i := 2) rfl
      have d3 := h2.r.cell (i := 3) rfl
      have d4 := h2.r.cell (i := 4) rfl
      have y0 := h2.cell (i := 0) rfl
      have y1 := h2.cell (i := 1) rfl
      have y2 := h2.cell (i := 2) rfl
      have y3 := h2.cell (i := 3) rfl
      have y4 := h2.cell (i := 4) rfl
      have f0 := h2.free (i := 0)
      have f1 := h2.free (i := 1)
      have f2 := h2.free (i := 2)
      have f3 := h2.free (i := 3)
      have f4 := h2.free (i := 4)
      have l1 := h2.lt
      have l2 := h2.r.lt
      have H2 := Lib.hid h2
      clear hx h2 hbz
      by_cases he : er = 0
      · subst he
        have HZ := Lib.hid (((((H2.out.set (i := 0) (v := .int .i64 a)).set (i := 1) (v := .int .i64 b)).set (i := 2) (v := .int .i64 0)).set (i := 3) (v := .int .i64 o)).set (i := 4) (v := .int .i64 0))
        go_wp2
        (try simp only [Exit.inBlock, Exit.then])
        refine bodyPost_ret (v := .tuple #[.agg #[.int .i64 a, .int .i64 b, .int .i64 0, .int .i64 o, .int .i64 0], .int .i64 0]) ?rh rfl ⟨GlueR.mk _ _ _ _ _ _, HZ.out.r.r.toExt⟩
        case rh => unfold results; go_simp
      · have q1 : (er == 0) = false := by rw [beq_eq_false_iff_ne]; exact he
        have HZ := Lib.hid (((((H2.out.set (i := 0) (v := .int .i64 0)).set (i := 1) (v := .int .i64 0)).set (i := 2) (v := .int .i64 0)).set (i := 3) (v := .int .i64 0)).set (i := 4) (v := .int .i64 0))
        clear he
        go_wp2
        (try simp only [Exit.inBlock, Exit.then])
        refine bodyPost_ret (v := .tuple #[.agg #[.int .i64 0, .int .i64 0, .int .i64 0, .int .i64 0, .int .i64 0], .int .i64 20]) ?rh rfl ⟨GlueR.mk _ _ _ _ _ _, HZ.out.r.r.toExt⟩
        case rh => unfold results; go_simp
    · have qc : (c == 0) = false := by rw [beq_eq_false_iff_ne]; exact hc
      have hs := ((Sat.start w).alloc (.cells #[.int .i64 a, .int .i64 b, .int .i64 c, .int .i64 o, .int .i64 p] 38)).alloc (.cells #[.int .i64 0, .int .i64 0, .int .i64 0, .int .i64 0, .int .i64 0] 38)
      rw [show (w.alloc (.cells #[.int .i64 a, .int .i64 b, .int .i64 c, .int .i64 o, .int .i64 p] 38)).heap.size = w.heap.size + 1 by simp] at hs
      have HS := Lib.hid hs
      obtain ⟨er, her⟩ : ∃ er, glueE ⟨a, b, c, o, p⟩ = er := ⟨_, rfl⟩
      have HG := Lib.hid (glue_any ⟨a, b, c, o, p⟩ ((w.alloc (.cells #[.int .i64 a, .int .i64 b, .int .i64 c, .int .i64 o, .int .i64 p] 38)).alloc (.cells #[.int .i64 0, .int .i64 0, .int .i64 0, .int .i64 0, .int .i64 0] 38)))
      rw [her] at HG
      clear hs her
      go_wp2_with fail
      refine Calls.mono HG.out ?_
      rintro e w1 ⟨rfl, hx⟩
      have h2 := HS.out.ext hx
      have HX := Lib.hid h2.r.r.toExt
      generalize hbz : w.heap.size = bz at *
      have d0 := h2.r.cell (i := 0) rfl
      have d1 := h2.r.cell (i := 1) rfl
      have d2 := h2.r.cell (i := 2) rfl
      have d3 := h2.r.cell (i := 3) rfl
      have d4 := h2.r.cell (i := 4) rfl
      have y0 := h2.cell (i := 0) rfl
      have y1 := h2.cell (i := 1) rfl
      have y2 := h2.cell (i := 2) rfl
      have y3 := h2.cell (i := 3) rfl
      have y4 := h2.cell (i := 4) rfl
      have f0 := h2.free (i := 0)
      have f1 := h2.free (i := 1)
      have f2 := h2.free (i := 2)
      have f3 := h2.free (i := 3)
      have f4 := h2.free (i := 4)
      have l1 := h2.lt
      have l2 := h2.r.lt
      have H2 := Lib.hid h2
      clear hx h2 hbz
      by_cases he : er = 0
      · subst he
        have HZ := Lib.hid (((((H2.out.set (i := 0) (v := .int .i64 a)).set (i := 1) (v := .int .i64 b)).set (i := 2) (v := .int .i64 c)).set (i := 3) (v := .int .i64 o)).set (i := 4) (v := .int .i64 p))
        go_wp2
        (try simp only [Exit.inBlock, Exit.then])
        refine bodyPost_ret (v := .tuple #[.agg #[.int .i64 a, .int .i64 b, .int .i64 c, .int .i64 o, .int .i64 p], .int .i64 0]) ?rh rfl ⟨GlueR.mk _ _ _ _ _ _, HZ.out.r.r.toExt⟩
        case rh => unfold results; go_simp
      · have q1 : (er == 0) = false := by rw [beq_eq_false_iff_ne]; exact he
        have HZ := Lib.hid (((((H2.out.set (i := 0) (v := .int .i64 0)).set (i := 1) (v := .int .i64 0)).set (i := 2) (v := .int .i64 0)).set (i := 3) (v := .int .i64 0)).set (i := 4) (v := .int .i64 0))
        clear he
        go_wp2
        (try simp only [Exit.inBlock, Exit.then])
        refine bodyPost_ret (v := .tuple #[.agg #[.int .i64 0, .int .i64 0, .int .i64 0, .int .i64 0, .int .i64 0], .int .i64 20]) ?rh rfl ⟨GlueR.mk _ _ _ _ _ _, HZ.out.r.r.toExt⟩
        case rh => unfold results; go_simp

end Go.Proofs.Ytebggkgciocciaa
