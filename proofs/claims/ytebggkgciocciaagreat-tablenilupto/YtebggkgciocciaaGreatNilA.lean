
/-
  No table, and one that nobody made: all is refused. Conditions: those that each theorem names.
-/
import Derived.Test.YtebggkgciocciaaGreatNilZ
namespace Go.Proofs.YtebggkgciocciaaGreat
open Go.RowKit Go.Sp
variable {W w w' : World} {F A : HProp} {p : Value}

/-- no table, or one that nobody made -/
def NoT (w : World) (p : Value) : Prop := p = .pointer none ∨ ∃ b, p = .pointer (some ⟨b, 0, none⟩) ∧ w.cell? ⟨b, 0, none⟩ = some (.map none)
theorem NoT.ext (h : NoT w p) (k : Ext w w') : NoT w' p := by
  rcases h with h | ⟨b, h1, h2⟩
  · exact .inl h
  · exact .inr ⟨b, h1, k.cell h2⟩

theorem good_no (h : NoT w p) : Calls Tryz.prog 42 #[p] w fun e w' => e = .returned (.bool false) ∧ w = w' := by
  rcases h with rfl | ⟨b, rfl, c0⟩
  · go_enter Tryz.func42, Tryz.ntmps42
    go_wp2
    go_ret
    exact ⟨rfl, rfl⟩
  · have qT : (binOp .neq 24 (.map none) (.map none)).run Tryz.prog w = .ok (.bool false) w := run_neq_map_nil w _ _ _ none Tryz.underlying24
    go_enter Tryz.func42, Tryz.ntmps42
    go_wp2
    go_ret
    exact ⟨rfl, rfl⟩


theorem begin_no (k : Int) (h : NoT w p) : Calls Tryz.prog 9 #[p, .int .i64 k] w fun e w' => e = .returned (.int .i64 1) ∧ Ext w w' := by
  have HG := Lib.hid (good_no h)
  clear h
  go_enter Tryz.func9, Tryz.ntmps9
  go_wp2_with fail
  refine Calls.mono HG.out ?_
  rintro e w' ⟨rfl, rfl⟩
  go_wp2
  go_ret
  exact ⟨rfl, Ext.refl _⟩
theorem end_no (h : NoT w p) : Calls Tryz.prog 11 #[p] w fun e w' => e = .returned (.tuple #[.int .i64 0, .int .i64 1]) ∧ Ext w w' := by
  have HG := Lib.hid (good_no h)
  clear h
  go_enter Tryz.func11, Tryz.ntmps11
  go_wp2_with fail
  refine Calls.mono HG.out ?_
  rintro e w' ⟨rfl, rfl⟩
  go_wp2
  (try simp only [Exit.inBlock, Exit.then])
  exact bodyPost_ret (v := .tuple #[.int .i64 0, .int .i64 1]) (by unfold results; go_simp) rfl ⟨rfl, Ext.refl _⟩
theorem depth_no (h : NoT w p) : Calls Tryz.prog 29 #[p] w fun e w' => e = .returned (.int .i64 0) ∧ Ext w w' := by
  have HG := Lib.hid (good_no h)
  clear h
  go_enter Tryz.func29, Tryz.ntmps29
  go_wp2_with fail
  refine Calls.mono HG.out ?_
  rintro e w' ⟨rfl, rfl⟩
  go_wp2
  go_ret
  exact ⟨rfl, Ext.refl _⟩
theorem names_no (h : NoT w p) : Calls Tryz.prog 34 #[p] w fun e w' => e = .returned (.slice none 0 0) ∧ Ext w w' := by
  have HG := Lib.hid (good_no h)
  clear h
  go_enter Tryz.func34, Tryz.ntmps34
  go_wp2_with fail
  refine Calls.mono HG.out ?_
  rintro e w' ⟨rfl, rfl⟩
  go_wp2
  go_ret
  exact ⟨rfl, Ext.refl _⟩
theorem laterNo (h : NoT w p) : Calls Tryz.prog 39 #[p] w fun e w' => e = .returned (.slice none 0 0) ∧ Ext w w' := by
  have HG := Lib.hid (good_no h)
  clear h
  go_enter Tryz.func39, Tryz.ntmps39
  go_wp2_with fail
  refine Calls.mono HG.out ?_
  rintro e w' ⟨rfl, rfl⟩
  go_wp2
  go_ret
  exact ⟨rfl, Ext.refl _⟩
theorem wrong_no (c i : Int) (h : NoT w p) : Calls Tryz.prog 49 #[p, .int .i64 c, .int .i64 i] w fun e w' => e = .returned (.int .i64 1) ∧ w = w' := by
  have HG := Lib.hid (good_no h)
  clear h
  go_enter Tryz.func49, Tryz.ntmps49
  go_wp2_with fail
  refine Calls.mono HG.out ?_
  rintro e w' ⟨rfl, rfl⟩
  go_wp2
  go_ret
  exact ⟨rfl, rfl⟩
theorem after_no (t : Tok) (h : NoT w p) : Calls Tryz.prog 24 #[p, Tok.val t] w fun e w' => e = .returned (.int .i64 1) ∧ Ext w w' := by
  have hx : Ext w (w.alloc (.cells t.cells.toArray 40)) := (Ext.refl w).alloc
  have HX := Lib.hid hx
  have HG := Lib.hid (good_no (h.ext hx))
  obtain ⟨a, b, c⟩ := t
  simp only [Tok.cells, Tok.val] at *
  clear h hx
  go_enter Tryz.func24, Tryz.ntmps24
  go_wp2_with fail
  refine Calls.mono HG.out ?_
  rintro e w' ⟨rfl, rfl⟩
  go_wp2_with fail
  refine Calls.mono HG.out ?_
  rintro e w' ⟨rfl, rfl⟩
  go_wp2
  go_ret
  exact ⟨rfl, HX.out⟩
theorem define_no (k : ByteArray) (m : Mean) (g : Bool) (h : NoT w p) : Calls Tryz.prog 13 #[p, .string k, m.val, .bool g] w fun e w' => e = .returned (.int .i64 1) ∧ Ext w w' := by
  obtain ⟨m1, m2, m3, m4, m5⟩ := m
  have hx : Ext w (w.alloc (.cells #[.int .i64 m1, .int .i64 m2, .int .i64 m3, .int .i64 m4, .string m5] 56)) := (Ext.refl w).alloc
  have HX := Lib.hid hx
  have HG := Lib.hid (good_no (h.ext hx))
  clear h hx
  go_enter Tryz.func13, Tryz.ntmps13
  go_wp2_with fail
  refine Calls.mono HG.out ?_
  rintro e w' ⟨rfl, rfl⟩
  go_wp2
  go_ret
  exact ⟨rfl, HX.out⟩
theorem look_no (k : ByteArray) (h : NoT w p) : Calls Tryz.prog 27 #[p, .string k] w fun e w' => e = .returned mean0.val ∧ Ext w w' := by
  have hx : Ext w (w.alloc (.cells #[.int .i64 0, .int .i64 0, .int .i64 0, .int .i64 0, .string ⟨#[]⟩] 56)) := (Ext.refl w).alloc
  have HX := Lib.hid hx
  have HG := Lib.hid (good_no (h.ext hx))
  clear h hx
  go_enter Tryz.func27, Tryz.ntmps27
  go_wp2_with fail
  refine Calls.mono HG.out ?_
  rintro e w' ⟨rfl, rfl⟩
  go_wp2
  (try simp only [Exit.inBlock, Exit.then])
  exact bodyPost_ret (v := .agg #[.int .i64 0, .int .i64 0, .int .i64 0, .int .i64 0, .string ⟨#[]⟩]) (by unfold results; go_simp) rfl ⟨rfl, HX.out⟩
theorem set_no (c i : Int) (v : RegS) (s : Value) (g : Bool) (hs : RdT w s v.toks) (h : NoT w p) : Calls Tryz.prog 16 #[p, .int .i64 c, .int .i64 i, valA v s, .bool g] w fun e w' => e = .returned (.int .i64 1) ∧ Ext w w' := by
  obtain ⟨sa, sc, rfl⟩ := hs.val
  obtain ⟨n, ⟨g1, g2, g3, g4, g5⟩, L⟩ := v
  simp only [valA]
  have hx : Ext w (w.alloc (.cells #[.int .i64 n, .int .i64 g1, .int .i64 g2, .int .i64 g3, .int .i64 g4, .int .i64 g5, .slice sa L.length sc] 29)) := (Ext.refl w).alloc
  have HX := Lib.hid hx
  have HG := Lib.hid (wrong_no c i (h.ext hx))
  generalize L.length = k at *
  clear h hx hs
  go_enter Tryz.func16, Tryz.ntmps16
  go_wp2_with fail
  refine Calls.mono HG.out ?_
  rintro e w' ⟨rfl, rfl⟩
  go_wp2
  go_ret
  exact ⟨rfl, HX.out⟩
theorem advance_no (c i : Int) (v : RegS) (s : Value) (g : Bool) (hs : RdT w s v.toks) (h : NoT w p) : Calls Tryz.prog 18 #[p, .int .i64 c, .int .i64 i, valA v s, .bool g] w fun e w' => e = .returned (.int .i64 1) ∧ Ext w w' := by
  obtain ⟨sa, sc, rfl⟩ := hs.val
  obtain ⟨n, ⟨g1, g2, g3, g4, g5⟩, L⟩ := v
  simp only [valA]
  have hx : Ext w ((w.alloc (.cells #[.int .i64 c] 3)).alloc (.cells #[.int .i64 n, .int .i64 g1, .int .i64 g2, .int .i64 g3, .int .i64 g4, .int .i64 g5, .slice sa L.length sc] 29)) := (Ext.refl w).alloc.alloc
  have HX := Lib.hid hx
  have HG := Lib.hid (wrong_no c i (h.ext hx))
  generalize L.length = k at *
  clear h hx hs
  go_enter Tryz.func18, Tryz.ntmps18
  go_wp2_with fail
  refine Calls.mono HG.out ?_
  rintro e w' ⟨rfl, rfl⟩
  go_wp2
  go_ret
  exact ⟨rfl, HX.out⟩
theorem scale_no (c i n : Int) (h : NoT w p) : Calls Tryz.prog 60 #[p, .int .i64 c, .int .i64 i, .int .i64 n] w fun e w' => e = .returned (.int .i64 1) ∧ w = w' := by
  have HG := Lib.hid (wrong_no c i h)
  clear h
  go_enter Tryz.func60, Tryz.ntmps60
  go_wp2_with fail
  refine Calls.mono HG.out ?_
  rintro e w' ⟨rfl, rfl⟩
  go_wp2
  go_ret
  exact ⟨rfl, rfl⟩
theorem multiply_no (c i n : Int) (g : Bool) (h : NoT w p) : Calls Tryz.prog 20 #[p, .int .i64 c, .int .i64 i, .int .i64 n, .bool g] w fun e w' => e = .returned (.int .i64 1) ∧ Ext w w' := by
  have hx : Ext w ((w.alloc (.cells #[.int .i64 c] 3)).alloc (.cells #[.int .i64 n] 3)) := (Ext.refl w).alloc.alloc
  have HX := Lib.hid hx
  have HG := Lib.hid (scale_no c i n (h.ext hx))
  clear h hx
  go_enter Tryz.func20, Tryz.ntmps20
  go_wp2_with fail
  refine Calls.mono HG.out ?_
  rintro e w' ⟨rfl, rfl⟩
  go_wp2
  go_ret
  exact ⟨rfl, HX.out⟩
theorem divide_no (c i n : Int) (g : Bool) (h : NoT w p) : Calls Tryz.prog 22 #[p, .int .i64 c, .int .i64 i, .int .i64 n, .bool g] w fun e w' => e = .returned (.int .i64 1) ∧ Ext w w' := by
  have hx : Ext w ((w.alloc (.cells #[.int .i64 c] 3)).alloc (.cells #[.int .i64 n] 3)) := (Ext.refl w).alloc.alloc
  have HX := Lib.hid hx
  have HG := Lib.hid (scale_no c i n (h.ext hx))
  clear h hx
  go_enter Tryz.func22, Tryz.ntmps22
  go_wp2_with fail
  refine Calls.mono HG.out ?_
  rintro e w' ⟨rfl, rfl⟩
  go_wp2
  go_ret
  exact ⟨rfl, HX.out⟩
abbrev zvA : Value := .agg #[.int .i64 0, .int .i64 0, .int .i64 0, .int .i64 0, .int .i64 0, .int .i64 0, .slice none 0 0]
theorem getNo (c i : Int) (h : NoT w p) : Calls Tryz.prog 36 #[p, .int .i64 c, .int .i64 i] w fun e w' => e = .returned (.tuple #[zvA, .int .i64 1]) ∧ Ext w w' := by
  have hx : Ext w (w.alloc (.cells #[.int .i64 0, .int .i64 0, .int .i64 0, .int .i64 0, .int .i64 0, .int .i64 0, .slice none 0 0] 29)) := (Ext.refl w).alloc
  have HX := Lib.hid hx
  have HG := Lib.hid (wrong_no c i (h.ext hx))
  clear h hx
  go_enter Tryz.func36, Tryz.ntmps36
  go_wp2_with fail
  refine Calls.mono HG.out ?_
  rintro e w' ⟨rfl, rfl⟩
  go_wp2
  (try simp only [Exit.inBlock, Exit.then])
  exact bodyPost_ret (v := .tuple #[zvA, .int .i64 1]) (by unfold results; go_simp) rfl ⟨rfl, HX.out⟩

end Go.Proofs.YtebggkgciocciaaGreat
