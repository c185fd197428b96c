
/-
  No table: the document's answer, too, refuses all; codes of no table. Conditions: those that each theorem names.
-/
import Derived.Test.YtebggkgciocciaaGreatNilA
import Derived.Test.YtebggkgciocciaaGreatFresh
namespace Go.Proofs.YtebggkgciocciaaGreat
open Go.RowKit Go.Sp
variable {W w w' : World} {F A : HProp} {p : Value}

theorem rbegin (k : Int) (w : World) : Calls Tryz.prog 10 #[.pointer none, .int .i64 k] w fun e w' => e = .returned (.int .i64 1) ∧ Ext w w' := by
  go_enter Tryz.func10, Tryz.ntmps10
  go_wp2
  go_ret
  exact ⟨rfl, Ext.refl _⟩
theorem rend (w : World) : Calls Tryz.prog 12 #[.pointer none] w fun e w' => e = .returned (.tuple #[.int .i64 0, .int .i64 1]) ∧ Ext w w' := by
  go_enter Tryz.func12, Tryz.ntmps12
  go_wp2
  (try simp only [Exit.inBlock, Exit.then])
  exact bodyPost_ret (v := .tuple #[.int .i64 0, .int .i64 1]) (by unfold results; go_simp) rfl ⟨rfl, Ext.refl _⟩
theorem rdepth (w : World) : Calls Tryz.prog 30 #[.pointer none] w fun e w' => e = .returned (.int .i64 0) ∧ Ext w w' := by
  go_enter Tryz.func30, Tryz.ntmps30
  go_wp2
  go_ret
  exact ⟨rfl, Ext.refl _⟩
theorem rnames (w : World) : Calls Tryz.prog 35 #[.pointer none] w fun e w' => e = .returned (.slice none 0 0) ∧ Ext w w' := by
  go_enter Tryz.func35, Tryz.ntmps35
  go_wp2
  go_ret
  exact ⟨rfl, Ext.refl _⟩
theorem rlater (w : World) : Calls Tryz.prog 40 #[.pointer none] w fun e w' => e = .returned (.slice none 0 0) ∧ Ext w w' := by
  go_enter Tryz.func40, Tryz.ntmps40
  go_wp2
  go_ret
  exact ⟨rfl, Ext.refl _⟩
theorem rdefine (k : ByteArray) (m : Mean) (g : Bool) (w : World) : Calls Tryz.prog 15 #[.pointer none, .string k, m.val, .bool g] w fun e w' => e = .returned (.int .i64 1) ∧ Ext w w' := by
  obtain ⟨m1, m2, m3, m4, m5⟩ := m
  go_enter Tryz.func15, Tryz.ntmps15
  go_wp2
  go_ret
  exact ⟨rfl, (Ext.refl _).alloc⟩
theorem rlook (k : ByteArray) (w : World) : Calls Tryz.prog 28 #[.pointer none, .string k] w fun e w' => e = .returned mean0.val ∧ Ext w w' := by
  go_enter Tryz.func28, Tryz.ntmps28
  go_wp2
  (try simp only [Exit.inBlock, Exit.then])
  exact bodyPost_ret (v := .agg #[.int .i64 0, .int .i64 0, .int .i64 0, .int .i64 0, .string ⟨#[]⟩]) (by unfold results; go_simp) rfl ⟨rfl, (Ext.refl _).alloc⟩
theorem rwrong (c i : Int) (w : World) : Calls Tryz.prog 52 #[.pointer none, .int .i64 c, .int .i64 i] w fun e w' => e = .returned (.int .i64 1) ∧ w = w' := by
  go_enter Tryz.func52, Tryz.ntmps52
  go_wp2
  go_ret
  exact ⟨rfl, rfl⟩
theorem rset (c i : Int) (v : RegS) (s : Value) (g : Bool) (hs : RdT w s v.toks) : Calls Tryz.prog 17 #[.pointer none, .int .i64 c, .int .i64 i, valA v s, .bool g] w fun e w' => e = .returned (.int .i64 1) ∧ Ext w w' := by
  obtain ⟨sa, sc, rfl⟩ := hs.val
  obtain ⟨n, ⟨g1, g2, g3, g4, g5⟩, L⟩ := v
  simp only [valA]
  generalize L.length = k at *
  clear hs
  go_enter Tryz.func17, Tryz.ntmps17
  go_wp2_with fail
  refine Calls.mono (rwrong c i _) ?_
  rintro e w' ⟨rfl, rfl⟩
  go_wp2
  go_ret
  exact ⟨rfl, (Ext.refl _).alloc⟩
theorem radvance (c i : Int) (v : RegS) (s : Value) (g : Bool) (hs : RdT w s v.toks) : Calls Tryz.prog 19 #[.pointer none, .int .i64 c, .int .i64 i, valA v s, .bool g] w fun e w' => e = .returned (.int .i64 1) ∧ Ext w w' := by
  obtain ⟨sa, sc, rfl⟩ := hs.val
  obtain ⟨n, ⟨g1, g2, g3, g4, g5⟩, L⟩ := v
  simp only [valA]
  generalize L.length = k at *
  clear hs
  go_enter Tryz.func19, Tryz.ntmps19
  go_wp2_with fail
  refine Calls.mono (rwrong c i _) ?_
  rintro e w' ⟨rfl, rfl⟩
  go_wp2
  go_ret
  exact ⟨rfl, (Ext.refl _).alloc⟩
theorem rfactor (c i n : Int) (g o : Bool) (w : World) : Calls Tryz.prog 63 #[.pointer none, .int .i64 c, .int .i64 i, .int .i64 n, .bool g, .bool o] w fun e w' => e = .returned (.int .i64 1) ∧ Ext w w' := by
  go_enter Tryz.func63, Tryz.ntmps63
  go_wp2_with fail
  refine Calls.mono (rwrong c i _) ?_
  rintro e w' ⟨rfl, rfl⟩
  go_wp2
  go_ret
  exact ⟨rfl, Ext.refl _⟩
theorem rmultiply (c i n : Int) (g : Bool) (w : World) : Calls Tryz.prog 21 #[.pointer none, .int .i64 c, .int .i64 i, .int .i64 n, .bool g] w fun e w' => e = .returned (.int .i64 1) ∧ Ext w w' := by
  go_enter Tryz.func21, Tryz.ntmps21
  go_wp2_with fail
  refine Calls.mono (rfactor c i n g false _) ?_
  rintro e w' ⟨rfl, hx⟩
  have HX := Lib.hid hx
  go_wp2
  go_ret
  exact ⟨rfl, HX.out⟩
theorem rdivide (c i n : Int) (g : Bool) (w : World) : Calls Tryz.prog 23 #[.pointer none, .int .i64 c, .int .i64 i, .int .i64 n, .bool g] w fun e w' => e = .returned (.int .i64 1) ∧ Ext w w' := by
  go_enter Tryz.func23, Tryz.ntmps23
  go_wp2_with fail
  refine Calls.mono (rfactor c i n g true _) ?_
  rintro e w' ⟨rfl, hx⟩
  have HX := Lib.hid hx
  go_wp2
  go_ret
  exact ⟨rfl, HX.out⟩
theorem rget (c i : Int) (w : World) : Calls Tryz.prog 37 #[.pointer none, .int .i64 c, .int .i64 i] w fun e w' => e = .returned (.tuple #[zvA, .int .i64 1]) ∧ Ext w w' := by
  go_enter Tryz.func37, Tryz.ntmps37
  go_wp2_with fail
  refine Calls.mono (rwrong c i _) ?_
  rintro e w' ⟨rfl, rfl⟩
  go_wp2
  (try simp only [Exit.inBlock, Exit.then])
  exact bodyPost_ret (v := .tuple #[zvA, .int .i64 1]) (by unfold results; go_simp) rfl ⟨rfl, (Ext.refl _).alloc⟩
theorem rafter (t : Tok) (w : World) : Calls Tryz.prog 25 #[.pointer none, Tok.val t] w fun e w' => e = .returned (.int .i64 1) ∧ Ext w w' := by
  obtain ⟨a, b, c⟩ := t
  simp only [Tok.val]
  go_enter Tryz.func25, Tryz.ntmps25
  go_wp2
  go_ret
  exact ⟨rfl, (Ext.refl _).alloc⟩

set_option maxRecDepth 1000000 in
set_option maxHeartbeats 8000000 in
theorem rcodes (w : World) : Calls Tryz.prog 32 #[.pointer none] w fun e w' => e = .returned (codesV (List.replicate 256 0)) ∧ Ext w w' := by
  obtain ⟨fl, hfl⟩ : ∃ fl, List.replicate 256 (0 : Int) = fl := ⟨_, rfl⟩
  have HN := Lib.hid (show fl.length = 256 by rw [← hfl]; simp)
  have HZ := Lib.hid (zero_two (Sat.start w))
  rw [hfl] at HZ
  rw [hfl]
  clear hfl
  go_enter Tryz.func32, Tryz.ntmps32
  go_wp2_with fail
  go_loopg [4] 0 (fun gg s4 wx => gg = 0 ∧ s4 = .int .i64 0 ∧ Sat w (pts (w.heap.size + 1) (codesO fl 69) * (pts w.heap.size (codesO fl 69) * own w)) wx)
  case atStart => exact ⟨rfl, rfl, HZ.out⟩
  case round =>
    obtain ⟨rfl, rfl, hx⟩ := hrel
    have HX := Lib.hid hx
    clear hx HZ
    have HO := Lib.hid (one_codes fl)
    have hb1 := HX.out.blk
    have hb0 := HX.out.rot.blk
    go_wp2_with fail
    refine wp_load_row 69 (.tmp 3) (by rfl) (w.heap.size + 1) (by rfl) _ _ _ _ hb1 Tryz.underlying69 (by rfl) ?_ ?_
    · rw [size_codes]; simp [HN.out]
    go_step
    refine wpList_store_row (by rfl) 69 (.tmp 2) (.tmp 24) (by rfl) w.heap.size (fl.map (Value.int .i64)).toArray (by rfl) (by rfl) _ _ hb0 ?_ ?_ ?_ ?_
    · rw [size_codes]; simp [HN.out]
    · simp [HN.out]
    · exact HO.out
    have HE := Lib.hid (Sat.setRowC (M := fl) HX.out.rot)
    clear hb0 hb1
    go_wp2
    (try simp only [Exit.inBlock, Exit.then])
    refine bodyPost_ret (v := codesV fl) (results_cell_row (fn := Tryz.f32) rfl _ _ w.heap.size 69 (fl.map (Value.int .i64)).toArray (0, 0) _ rfl HE.out.blk Tryz.underlying69 (by rfl) (by rw [size_codes]; simp [HN.out])) rfl ⟨rfl, HE.out.r.r.toExt⟩
set_option maxRecDepth 1000000 in
set_option maxHeartbeats 8000000 in
theorem codes_no (h : NoT w p) : Calls Tryz.prog 31 #[p] w fun e w' => e = .returned (codesV (List.replicate 256 0)) ∧ Ext w w' := by
  obtain ⟨fl, hfl⟩ : ∃ fl, List.replicate 256 (0 : Int) = fl := ⟨_, rfl⟩
  have HN := Lib.hid (show fl.length = 256 by rw [← hfl]; simp)
  have HZ := Lib.hid (zero_two (Sat.start w))
  rw [hfl] at HZ
  rw [hfl]
  clear hfl
  have HG := Lib.hid (good_no (h.ext HZ.out.r.r.toExt))
  clear h
  go_enter Tryz.func31, Tryz.ntmps31
  go_wp2_with fail
  refine Calls.mono HG.out ?_
  rintro e w' ⟨rfl, rfl⟩
  have HO := Lib.hid (one_codes fl)
  have hb1 := HZ.out.blk
  have hb0 := HZ.out.rot.blk
  go_wp2_with fail
  refine wp_load_row 69 (.tmp 3) (by rfl) (w.heap.size + 1) (by rfl) _ _ _ _ hb1 Tryz.underlying69 (by rfl) ?_ ?_
  · rw [size_codes]; simp [HN.out]
  go_step
  refine wpList_store_row (by rfl) 69 (.tmp 2) (.tmp 22) (by rfl) w.heap.size (fl.map (Value.int .i64)).toArray (by rfl) (by rfl) _ _ hb0 ?_ ?_ ?_ ?_
  · rw [size_codes]; simp [HN.out]
  · simp [HN.out]
  · exact HO.out
  have HE := Lib.hid (Sat.setRowC (M := fl) HZ.out.rot)
  clear hb0 hb1
  go_wp2
  (try simp only [Exit.inBlock, Exit.then])
  refine bodyPost_ret (v := codesV fl) (results_cell_row (fn := Tryz.f31) rfl _ _ w.heap.size 69 (fl.map (Value.int .i64)).toArray (0, 0) _ rfl HE.out.blk Tryz.underlying69 (by rfl) (by rw [size_codes]; simp [HN.out])) rfl ⟨rfl, HE.out.r.r.toExt⟩

end Go.Proofs.YtebggkgciocciaaGreat
