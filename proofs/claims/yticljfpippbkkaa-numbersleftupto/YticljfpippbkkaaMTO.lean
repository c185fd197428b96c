import Derived.Test.YticljfpippbkkaaMTM
/-
  A table: a register gets a value in a group. Conditions: those that each theorem names.
-/
namespace Go.Proofs.Yticljfpippbkkaa
open Go.RowKit Go.Sp
variable {W w w' : World} {F A : HProp}

noncomputable def GrpS.keepR (g : GrpS) (k : Int × Int) (r : RegS) : GrpS := match g.regs k with | some _ => g | none => { g with regs := mput g.regs k r }

/-- what is known of a table whose last group lies open -/
structure OpenF (S : TabS) (S0 : List GrpS) (g : GrpS) (m : Nat → Option Obj) (lt : Value) (R : Nat → RegV) (V0 : List GrpV) (v : GrpV) (f : Int × Int → Option RegV) : Prop where
  regs : ∀ j, j < 1536 → Rep m (R j) (S.regs j) ∧ (S.regs j).toks.length ≤ 20000
  later : RdM m lt S.later
  laterL : S.later.length ≤ 20000
  len : V0.length = S0.length
  le : S0.length + 1 ≤ 200
  kind : v.kind = g.kind
  after : g.after.length ≤ 20000
  rep : ∀ k, RepO m (f k) (g.regs k)

/-- a table whose last group lies open -/
abbrev openH (F : HProp) (b N : Nat) (S : TabS) (S0 : List GrpS) (g : GrpS) (m : Nat → Option Obj) (nm : Nat) (lt : Value) (R : Nat → RegV) (V0 : List GrpV) (v : GrpV) (f : Int × Int → Option RegV) (gb cap n nn rn : Nat) : HProp :=
  row (.slice (some ⟨gb, 0, none⟩) (n + 1) cap) (n + 1) 143 4 (flatG (V0 ++ [v])) * (mapH kE2 RegV.val v.rb rn f * (pts b (.cells (tabCells nm R (.slice (some ⟨gb, 0, none⟩) (n + 1) cap) lt) 64) *
    (mapH Value.string Mean.val v.nb nn g.names * (rowT v.av g.after * (roH m * (mapH Value.string Mean.val nm N S.names * (grpsH m V0 S0 * F)))))))

theorem TabAt.open1 {b N : Nat} {S : TabS} {S0 : List GrpS} {g : GrpS} (hS : S.groups = S0 ++ [g]) (h : TabAt W F b N S w) :
    ∃ m nm lt R V0 v f gb cap nn rn, OpenF S S0 g m lt R V0 v f ∧ Sat W (openH F b N S S0 g m nm lt R V0 v f gb cap S0.length nn rn) w := by
  obtain ⟨m, nm, gs, lt, R, V, ⟨h1, h2, h2b, h3, h4⟩, hs⟩ := h
  obtain ⟨V0, v, rfl⟩ := snoc_of V (by rintro rfl; rw [hS] at h3; simp at h3)
  have hV0 : V0.length = S0.length := by rw [hS] at h3; simpa using h3
  rw [hS, grpsH_snoc m v g V0 S0 hV0] at hs
  obtain ⟨⟨hk, hal⟩, nn, rn, f, hf, hs2⟩ := Sat.grp_open (A := pts b (.cells (tabCells nm R gs lt) 64) * (roH m * (mapH Value.string Mean.val nm N S.names * (row gs (V0 ++ [v]).length 143 4 (flatG (V0 ++ [v])) * (grpsH m V0 S0 * F))))) (hs.of_eq (by ac_rfl))
  rw [show (V0 ++ [v]).length = S0.length + 1 by simp [hV0]] at hs2
  have hs3 := hs2.of_eq (show _ = row gs (S0.length + 1) 143 4 (flatG (V0 ++ [v])) * (mapH kE2 RegV.val v.rb rn f * (pts b (.cells (tabCells nm R gs lt) 64) * (mapH Value.string Mean.val v.nb nn g.names * (rowT v.av g.after * (roH m * (mapH Value.string Mean.val nm N S.names * (grpsH m V0 S0 * F))))))) by ac_rfl)
  obtain ⟨_, hcs⟩ := hs3.row_cases
  rcases hcs with ⟨_, h0, _⟩ | ⟨gb, cap, _, rfl, _⟩
  · omega
  exact ⟨m, nm, lt, R, V0, v, f, gb, cap, nn, rn, ⟨h1, h2, h2b, hV0, by rw [hS] at h4; simpa using h4, hk, hal, hf⟩, hs3⟩

theorem TabAt.close1 {b N : Nat} {S : TabS} {S0 : List GrpS} {g : GrpS} {m : Nat → Option Obj} {nm : Nat} {lt : Value} {R : Nat → RegV} {V0 : List GrpV} {v : GrpV} {f : Int × Int → Option RegV} {gb cap nn rn : Nat}
    (o : OpenF S S0 g m lt R V0 v f) (h : Sat W (openH F b N S S0 g m nm lt R V0 v f gb cap S0.length nn rn) w) : TabAt W F b N { S with groups := S0 ++ [g] } w := by
  refine ⟨m, nm, .slice (some ⟨gb, 0, none⟩) (S0.length + 1) cap, lt, R, V0 ++ [v], ⟨o.regs, o.later, o.laterL, by simp [o.len], by simpa using o.le⟩, ?_⟩
  have h2 := Sat.grp_mk (m := m) (v := v) (s := g) (h.of_eq (show _ = mapH Value.string Mean.val v.nb nn g.names * (mapH kE2 RegV.val v.rb rn f * (rowT v.av g.after * (row (.slice (some ⟨gb, 0, none⟩) (S0.length + 1) cap) (S0.length + 1) 143 4 (flatG (V0 ++ [v])) * (pts b (.cells (tabCells nm R (.slice (some ⟨gb, 0, none⟩) (S0.length + 1) cap) lt) 64) *
    (roH m * (mapH Value.string Mean.val nm N S.names * (grpsH m V0 S0 * F))))))) by unfold openH; ac_rfl)) ⟨o.kind, o.after⟩ o.rep
  refine h2.of_eq ?_
  simp only [grpsH_snoc m v g V0 S0 o.len, List.length_append, List.length_singleton, o.len]
  ac_rfl

/-- the same, as the walk behind it wants it -/
theorem OpenF.closeP {b N : Nat} {S S2 : TabS} {S0 : List GrpS} {g : GrpS} {m : Nat → Option Obj} {nm : Nat} {lt : Value} {R : Nat → RegV} {V0 : List GrpV} {v : GrpV} {f : Int × Int → Option RegV} {gb cap n nn rn : Nat}
    (o : OpenF S S0 g m lt R V0 v f) (hn : S0.length = n) (hS2 : S2 = { S with groups := S0 ++ [g] }) (h : Sat W (openH F b N S S0 g m nm lt R V0 v f gb cap n nn rn) w) :
    ∃ (V : List GrpV) (ga : Option Addr) (gc : Nat), ((∀ j, j < 1536 → Rep m (R j) (S2.regs j) ∧ (S2.regs j).toks.length ≤ 20000) ∧ RdM m lt S2.later ∧ S2.later.length ≤ 20000 ∧ V.length = S2.groups.length ∧ S2.groups.length ≤ 200) ∧
      Sat W (F * (pts b (.cells (tabCells nm R (.slice ga V.length gc) lt) 64) * (roH m * (mapH Value.string Mean.val nm N S2.names * (row (.slice ga V.length gc) V.length 143 4 (flatG V) * grpsH m V S2.groups))))) w := by
  subst hn
  subst hS2
  refine ⟨V0 ++ [v], some ⟨gb, 0, none⟩, cap, ⟨o.regs, o.later, o.laterL, by simp [o.len], by simpa using o.le⟩, ?_⟩
  have h2 := Sat.grp_mk (m := m) (v := v) (s := g) (h.of_eq (show _ = mapH Value.string Mean.val v.nb nn g.names * (mapH kE2 RegV.val v.rb rn f * (rowT v.av g.after * (row (.slice (some ⟨gb, 0, none⟩) (S0.length + 1) cap) (S0.length + 1) 143 4 (flatG (V0 ++ [v])) * (pts b (.cells (tabCells nm R (.slice (some ⟨gb, 0, none⟩) (S0.length + 1) cap) lt) 64) *
    (roH m * (mapH Value.string Mean.val nm N S.names * (grpsH m V0 S0 * F))))))) by unfold openH; ac_rfl)) ⟨o.kind, o.after⟩ o.rep
  refine h2.of_eq ?_
  simp only [grpsH_snoc m v g V0 S0 o.len, List.length_append, List.length_singleton, o.len]
  ac_rfl

theorem RepO.put {m : Nat → Option Obj} {f : Int × Int → Option RegV} {g : Int × Int → Option RegS} (h : ∀ k, RepO m (f k) (g k)) {k : Int × Int} {v : RegV} {s : RegS} (hv : Rep m v s ∧ s.toks.length ≤ 20000) : ∀ j, RepO m (mput f k v j) (mput g k s j) := by
  intro j
  by_cases hj : j = k
  · subst hj; rw [mput_same, mput_same]; exact hv
  · rw [mput_other f v hj, mput_other g s hj]; exact h j



set_option maxRecDepth 100000 in
set_option maxHeartbeats 8000000 in
theorem put_loc {b N : Nat} {S : TabS} {c i : Nat} {v : RegS} {s : Value} (S0 : List GrpS) (g : GrpS) (hS : S.groups = S0 ++ [g]) (hc : c ≤ 5) (hi : i < 256) (hl : v.toks.length ≤ 20000) (hv : ∀ w', Sat W F w' → RdT w' s v.toks) (h : TabAt W F b N S w) :
    Calls Try.prog 64 #[.pointer (some ⟨b, 0, none⟩), .int .i64 c, .int .i64 i, valA v s, .bool false] w fun e w' => e = .returned (.tuple #[]) ∧ TabAt W F b N { S with regs := setS S.regs (c * 256 + i) v, groups := S0 ++ [g.keepR (c, i) (S.regs (c * 256 + i))] } w' := by
  obtain ⟨sa, sc, rfl⟩ := (hv w h.sat).val
  obtain ⟨m, nm, lt, R, V0, gv, f, gb, cap, nn, rn, hO, hs⟩ := h.open1 hS
  have hbx := (hs.alloc (valO v (.slice sa v.toks.length sc))).alloc (.cells #[.int .i64 c, .int .i64 i] 170)
  rw [show (w.alloc (valO v (.slice sa v.toks.length sc))).heap.size = w.heap.size + 1 by simp] at hbx
  obtain ⟨bx, hbx0⟩ : ∃ bx, w.heap.size = bx := ⟨_, rfl⟩
  rw [hbx0] at hbx
  obtain ⟨n, hn⟩ : ∃ n, S0.length = n := ⟨_, rfl⟩
  rw [hn] at hbx
  have hget := flatG_get (V0 ++ [gv]) n 2 (.map (some gv.rb)) (by simp [hO.len, hn]) (by rw [List.getElem_append_right (by rw [hO.len]; omega)]; simp [hO.len, hn, GrpV.cells])
  have HGET := Lib.hid hget
  have HO := Lib.hid hO
  have HN := Lib.hid hn
  have HL := Lib.hid hl
  have HVV := Lib.hid hv
  have HS := Lib.hid hS
  have hn2 : n + 1 ≤ 200 := by rw [← hn]; exact hO.le
  obtain ⟨zn, ⟨g1, g2, g3, g4, g5⟩, L⟩ := v
  simp only [valA]
  simp only at hl
  obtain ⟨k, hk⟩ : ∃ k, L.length = k := ⟨_, rfl⟩
  simp only [hk] at hbx HVV
  simp only [hk]
  have HKK := Lib.hid hk
  obtain ⟨zV, hzV0, hzV1⟩ : ∃ z : Value, z = .agg #[.int .i64 0, .int .i64 0, .int .i64 0, .int .i64 0, .int .i64 0, .int .i64 0, .slice none 0 0] ∧ ∀ w, (zeroValue 59).run Try.prog w = .ok z w := ⟨_, rfl, fun w => by go_simp⟩
  have hzV := Lib.hid hzV1
  have hzE := Lib.hid hzV0
  clear hzV0 hzV1
  obtain ⟨GC, hGC⟩ : ∃ GC : World → Prop, GC = fun w' => ∃ X, Sat W (pts (bx + 1) (.cells #[.int .i64 c, .int .i64 i] 170) * (row (.slice (some ⟨gb, 0, none⟩) (n + 1) cap) (n + 1) 143 4 (flatG (V0 ++ [gv])) * (mapH kE2 RegV.val gv.rb rn f * (pts b (.cells (tabCells nm R (.slice (some ⟨gb, 0, none⟩) (n + 1) cap) lt) 64) * X)))) w' := ⟨_, rfl⟩
  have c0 := hbx.r.r.r.r.cell (i := 10753) (tab_groups nm R _ lt)
  have lb := hbx.r.r.r.r.lt
  have lv := hbx.r.lt
  have lx := hbx.lt
  have cl0 := hbx.cell (i := 0) rfl
  have cl1 := hbx.cell (i := 1) rfl
  have HB := Lib.hid (hbx.of_eq (show _ = pts (bx + 1) (.cells #[.int .i64 c, .int .i64 i] 170) * (row (.slice (some ⟨gb, 0, none⟩) (n + 1) cap) (n + 1) 143 4 (flatG (V0 ++ [gv])) * (mapH kE2 RegV.val gv.rb rn f * (pts b (.cells (tabCells nm R (.slice (some ⟨gb, 0, none⟩) (n + 1) cap) lt) 64) * (pts bx (valO ⟨zn, ⟨g1, g2, g3, g4, g5⟩, L⟩ (.slice sa k sc)) *
    (mapH Value.string Mean.val gv.nb nn g.names * (rowT gv.av g.after * (roH m * (mapH Value.string Mean.val nm N S.names * (grpsH m V0 S0 * F))))))))) by unfold openH; ac_rfl))
  have i1 : (c : Int) < 6 := by omega
  have i2 : (i : Int) < 256 := by omega
  have q2 : ((n : Int) + 1 > 0) := by omega
  have wn : IntKind.i64.wrap (n : Int) = (n : Int) := IntWalk.i64_in _ (by omega)
  have wn0 : (0 : Int) ≤ (n : Int) := by omega
  have wn1 : (n : Int) < (n : Int) + 1 := by omega
  clear hO hs hbx hv hl hk hS hget hn h
  go_enter Try.func64, Try.ntmps64
  go_upto_region 2 with fail
  generalize (w.alloc (.cells #[.int .i64 zn, .int .i64 g1, .int .i64 g2, .int .i64 g3, .int .i64 g4, .int .i64 g5, .slice sa k sc] 59)).alloc (.cells #[.int .i64 c, .int .i64 i] 170) = W1 at *
  clear hbx0
  go_upto_region 10 with fail
  have HGC := Lib.hid (show ∀ w', GC w' → w'.cell? ⟨b, 10753, none⟩ = some (.slice (some ⟨gb, 0, none⟩) (n + 1) cap) ∧ w'.cell? ⟨gb, n * 4 + 2, none⟩ = some (.map (some gv.rb)) ∧ w'.cell? ⟨bx + 1, 0, none⟩ = some (.int .i64 c) ∧ w'.cell? ⟨bx + 1, 1, none⟩ = some (.int .i64 i) ∧
      (Instr.lookup 141 (.map (some gv.rb)) (.agg #[.int .i64 c, .int .i64 i]) true).run Try.prog w' = .ok (.tuple #[((f (c, i)).map RegV.val).getD zV, .bool (f (c, i)).isSome]) w' from fun w' hw => by
    rw [hGC] at hw
    obtain ⟨X, hw⟩ := hw
    exact ⟨hw.r.r.r.cell (tab_groups nm R _ lt), hw.r.row_cell HGET.out, hw.cell rfl, hw.cell rfl, Sat.map_look key2 Try.underlying141 hzV.out hw.r.r ((c : Int), (i : Int)) true⟩)
  have HGC2 := Lib.hid (show ∀ X w', Sat W (pts (bx + 1) (.cells #[.int .i64 c, .int .i64 i] 170) * (row (.slice (some ⟨gb, 0, none⟩) (n + 1) cap) (n + 1) 143 4 (flatG (V0 ++ [gv])) * (mapH kE2 RegV.val gv.rb rn f * (pts b (.cells (tabCells nm R (.slice (some ⟨gb, 0, none⟩) (n + 1) cap) lt) 64) * X)))) w' → GC w' from fun X w' hw => by rw [hGC]; exact ⟨X, hw⟩)
  rcases hf : f ((c : Int), (i : Int)) with _ | ⟨rz, ⟨y1, y2, y3, y4, y5⟩, rs⟩
  · rw [hf] at HGC
    have hz := hzE.out
    subst hz
    simp only [Option.map_none, Option.getD_none, Option.isSome_none] at HGC
    refine wp_region_E GC (by kernel_rfl) ?_
    refine wpE_take (i := 0) (q := 16) (v := ?_) rfl (by kernel_rfl) (by kernel_rfl) (by kernel_rfl) (by kernel_rfl) (by kernel_rfl) (fun _ _ _ h => h) (by rfl) ?_ ?_
    rotate_left 1
    · intro w hw; go_simp; try with_reducible rfl
    refine wpE_take (i := 1) (q := 16) (v := ?_) rfl (by kernel_rfl) (by kernel_rfl) (by kernel_rfl) (by kernel_rfl) (by kernel_rfl) (fun _ _ _ h => h) (by rfl) ?_ ?_
    rotate_left 1
    · intro w hw; go_simp; try with_reducible rfl
    refine wpE_take (i := 2) (q := 16) (v := ?_) rfl (by kernel_rfl) (by kernel_rfl) (by kernel_rfl) (by kernel_rfl) (by kernel_rfl) (fun _ _ _ h => h) (by rfl) ?_ ?_
    rotate_left 1
    · intro w hw; go_simp; try with_reducible rfl
    refine wpE_take (i := 3) (q := 16) (v := ?_) rfl (by kernel_rfl) (by kernel_rfl) (by kernel_rfl) (by kernel_rfl) (by kernel_rfl) (fun _ _ _ h => h) (by rfl) ?_ ?_
    rotate_left 1
    · intro w hw; (obtain ⟨d1, d2, d3, d4, d5⟩ := HGC.out _ hw; go_simp; try with_reducible rfl)
    refine wpE_take (i := 4) (q := 16) (v := ?_) rfl (by kernel_rfl) (by kernel_rfl) (by kernel_rfl) (by kernel_rfl) (by kernel_rfl) (fun _ _ _ h => h) (by rfl) ?_ ?_
    rotate_left 1
    · intro w hw; go_simp; try with_reducible rfl
    refine wpE_take (i := 5) (q := 16) (v := ?_) rfl (by kernel_rfl) (by kernel_rfl) (by kernel_rfl) (by kernel_rfl) (by kernel_rfl) (fun _ _ _ h => h) (by rfl) ?_ ?_
    rotate_left 1
    · intro w hw; go_simp; try with_reducible rfl
    refine wpE_take (i := 6) (q := 16) (v := ?_) rfl (by kernel_rfl) (by kernel_rfl) (by kernel_rfl) (by kernel_rfl) (by kernel_rfl) (fun _ _ _ h => h) (by rfl) ?_ ?_
    rotate_left 1
    · intro w hw; go_simp; try with_reducible rfl
    refine wpE_take (i := 7) (q := 16) (v := ?_) rfl (by kernel_rfl) (by kernel_rfl) (by kernel_rfl) (by kernel_rfl) (by kernel_rfl) (fun _ _ _ h => h) (by rfl) ?_ ?_
    rotate_left 1
    · intro w hw; go_simp; try with_reducible rfl
    refine wpE_take (i := 8) (q := 16) (v := ?_) rfl (by kernel_rfl) (by kernel_rfl) (by kernel_rfl) (by kernel_rfl) (by kernel_rfl) (fun _ _ _ h => h) (by rfl) ?_ ?_
    rotate_left 1
    · intro w hw; (obtain ⟨d1, d2, d3, d4, d5⟩ := HGC.out _ hw; go_simp; try with_reducible rfl)
    refine wpE_take (i := 9) (q := 16) (v := ?_) rfl (by kernel_rfl) (by kernel_rfl) (by kernel_rfl) (by kernel_rfl) (by kernel_rfl) (fun _ _ _ h => h) (by rfl) ?_ ?_
    rotate_left 1
    · intro w hw; (obtain ⟨d1, d2, d3, d4, d5⟩ := HGC.out _ hw; go_simp; try with_reducible rfl)
    refine wpE_take (i := 10) (q := 16) (v := ?_) rfl (by kernel_rfl) (by kernel_rfl) (by kernel_rfl) (by kernel_rfl) (by kernel_rfl) (fun _ _ _ h => h) (by rfl) ?_ ?_
    rotate_left 1
    · intro w hw; (obtain ⟨d1, d2, d3, d4, d5⟩ := HGC.out _ hw; go_simp; try with_reducible rfl)
    refine wpE_take (i := 11) (q := 16) (v := ?_) rfl (by kernel_rfl) (by kernel_rfl) (by kernel_rfl) (by kernel_rfl) (by kernel_rfl) (fun _ _ _ h => h) (by rfl) ?_ ?_
    rotate_left 1
    · intro w hw; go_simp; try with_reducible rfl
    refine wpE_take (i := 12) (q := 16) (v := ?_) rfl (by kernel_rfl) (by kernel_rfl) (by kernel_rfl) (by kernel_rfl) (by kernel_rfl) (fun _ _ _ h => h) (by rfl) ?_ ?_
    rotate_left 1
    · intro w hw; go_simp; try with_reducible rfl
    refine wpE_take (i := 13) (q := 16) (v := ?_) rfl (by kernel_rfl) (by kernel_rfl) (by kernel_rfl) (by kernel_rfl) (by kernel_rfl) (fun _ _ _ h => h) (by rfl) ?_ ?_
    rotate_left 1
    · intro w hw; go_simp; try with_reducible rfl
    refine wpE_one (i := 14) rfl (by kernel_rfl) (HGC2.out _ _ HB.out.drew) (fun K hK => ?_)
    go_simp
    refine hK _ _ ?_
    clear hK K
    have h2 : Sat W (pts W1.heap.size (.cells #[.int .i64 0, .int .i64 0, .int .i64 0, .int .i64 0, .int .i64 0, .int .i64 0, .slice none 0 0] 59) * _) _ := HB.out.drew.alloc (.cells #[.int .i64 0, .int .i64 0, .int .i64 0, .int .i64 0, .int .i64 0, .int .i64 0, .slice none 0 0] 59)
    have H2 := Lib.hid h2
    obtain ⟨bz, hbz⟩ : ∃ bz, W1.heap.size = bz := ⟨_, rfl⟩
    rw [hbz] at h2
    have lz := h2.lt
    have z0 := h2.free (i := 0)
    have z1 := h2.free (i := 1)
    have z2 := h2.free (i := 2)
    have z3 := h2.free (i := 3)
    have z4 := h2.free (i := 4)
    have z5 := h2.free (i := 5)
    have z6 := h2.free (i := 6)
    rw [hbz]
    refine wpE_one (i := 15) rfl (by kernel_rfl) (HGC2.out _ _ H2.out.r) (fun K hK => ?_)
    go_simp
    have h3 := (HB.out.alloc (.cells #[.int .i64 0, .int .i64 0, .int .i64 0, .int .i64 0, .int .i64 0, .int .i64 0, .slice none 0 0] 59)).drew
    have H3 := Lib.hid h3
    have HG3 := Lib.hid (HGC2.out _ _ h3.r)
    clear z0 z1 z2 z3 z4 z5 z6 lz h2 H2 h3
    refine hK _ _ ?_
    clear hK K
    refine wpE_one (i := 16) rfl (by kernel_rfl) (HG3.out) (fun K hK => ?_)
    go_simp
    refine hK _ _ ?_
    clear hK K
    refine wpE_done (by kernel_rfl) (by kernel_rfl) ?_
    have H4 := Lib.hid (H3.out.of_eq (show _ = pts (bx + 1) (.cells #[.int .i64 c, .int .i64 i] 170) * (row (.slice (some ⟨gb, 0, none⟩) (n + 1) cap) (n + 1) 143 4 (flatG (V0 ++ [gv])) * (mapH kE2 RegV.val gv.rb rn f * (pts b (.cells (tabCells nm R (.slice (some ⟨gb, 0, none⟩) (n + 1) cap) lt) 64) * (pts bx (valO ⟨zn, ⟨g1, g2, g3, g4, g5⟩, L⟩ (.slice sa k sc)) *
        (mapH Value.string Mean.val gv.nb nn g.names * (rowT gv.av g.after * (roH m * (mapH Value.string Mean.val nm N S.names * (grpsH m V0 S0 * (pts W1.heap.size (.cells #[.int .i64 0, .int .i64 0, .int .i64 0, .int .i64 0, .int .i64 0, .int .i64 0, .slice none 0 0] 59) * F)))))))))) by ac_rfl))
    rw [hbz] at H4
    clear H3 HG3
    generalize (W1.alloc (.cells #[.int .i64 0, .int .i64 0, .int .i64 0, .int .i64 0, .int .i64 0, .int .i64 0, .slice none 0 0] 59)).drew = W2 at *
    go_upto_region 12 with fail
    clear lb lv lx cl0 cl1 c0
    obtain ⟨rj, hrj⟩ : ∃ rj, R (c * 256 + i) = rj := ⟨_, rfl⟩
    have HRJ := Lib.hid hrj
    have HG5 := Lib.hid (show ∀ w', GC w' → _ from fun w' hw => by
      rw [hGC] at hw
      obtain ⟨X, hw⟩ := hw
      have := reg_at hw.r.r.r hc hi
      rw [HRJ.out] at this
      exact this)
    clear hrj
    obtain ⟨rjn, ⟨q1', q2', q3', q4', q5'⟩, rjs⟩ := rj
    obtain ⟨w3, hup, hs3⟩ := Sat.map_upd key2 Try.underlying141 (H4.out.drew.of_eq (show _ = mapH kE2 RegV.val gv.rb rn f * (pts (bx + 1) (.cells #[.int .i64 c, .int .i64 i] 170) * (row (.slice (some ⟨gb, 0, none⟩) (n + 1) cap) (n + 1) 143 4 (flatG (V0 ++ [gv])) * (pts b (.cells (tabCells nm R (.slice (some ⟨gb, 0, none⟩) (n + 1) cap) lt) 64) * (pts bx (valO ⟨zn, ⟨g1, g2, g3, g4, g5⟩, L⟩ (.slice sa k sc)) *
    (mapH Value.string Mean.val gv.nb nn g.names * (rowT gv.av g.after * (roH m * (mapH Value.string Mean.val nm N S.names * (grpsH m V0 S0 * (pts bz (.cells #[.int .i64 0, .int .i64 0, .int .i64 0, .int .i64 0, .int .i64 0, .int .i64 0, .slice none 0 0] 59) * F)))))))))) by ac_rfl)) ((c : Int), (i : Int)) ⟨rjn, ⟨q1', q2', q3', q4', q5'⟩, rjs⟩
    have HS3 := Lib.hid hs3
    simp only [kE2] at hup
    clear hs3
    refine wp_region_E GC (by kernel_rfl) ?_
    refine wpE_take (i := 0) (q := 18) (v := ?_) rfl (by kernel_rfl) (by kernel_rfl) (by kernel_rfl) (by kernel_rfl) (by kernel_rfl) (fun _ _ _ h => h) (by rfl) ?_ ?_
    rotate_left 1
    · intro w hw; go_simp; try with_reducible rfl
    refine wpE_take (i := 1) (q := 18) (v := ?_) rfl (by kernel_rfl) (by kernel_rfl) (by kernel_rfl) (by kernel_rfl) (by kernel_rfl) (fun _ _ _ h => h) (by rfl) ?_ ?_
    rotate_left 1
    · intro w hw; go_simp; try with_reducible rfl
    refine wpE_take (i := 2) (q := 18) (v := ?_) rfl (by kernel_rfl) (by kernel_rfl) (by kernel_rfl) (by kernel_rfl) (by kernel_rfl) (fun _ _ _ h => h) (by rfl) ?_ ?_
    rotate_left 1
    · intro w hw; go_simp; try with_reducible rfl
    refine wpE_take (i := 3) (q := 18) (v := ?_) rfl (by kernel_rfl) (by kernel_rfl) (by kernel_rfl) (by kernel_rfl) (by kernel_rfl) (fun _ _ _ h => h) (by rfl) ?_ ?_
    rotate_left 1
    · intro w hw; (obtain ⟨d1, d2, d3, d4, d5⟩ := HGC.out _ hw; go_simp; try with_reducible rfl)
    refine wpE_take (i := 4) (q := 18) (v := ?_) rfl (by kernel_rfl) (by kernel_rfl) (by kernel_rfl) (by kernel_rfl) (by kernel_rfl) (fun _ _ _ h => h) (by rfl) ?_ ?_
    rotate_left 1
    · intro w hw; go_simp; try with_reducible rfl
    refine wpE_take (i := 5) (q := 18) (v := ?_) rfl (by kernel_rfl) (by kernel_rfl) (by kernel_rfl) (by kernel_rfl) (by kernel_rfl) (fun _ _ _ h => h) (by rfl) ?_ ?_
    rotate_left 1
    · intro w hw; go_simp; try with_reducible rfl
    refine wpE_take (i := 6) (q := 18) (v := ?_) rfl (by kernel_rfl) (by kernel_rfl) (by kernel_rfl) (by kernel_rfl) (by kernel_rfl) (fun _ _ _ h => h) (by rfl) ?_ ?_
    rotate_left 1
    · intro w hw; go_simp; try with_reducible rfl
    refine wpE_take (i := 7) (q := 18) (v := ?_) rfl (by kernel_rfl) (by kernel_rfl) (by kernel_rfl) (by kernel_rfl) (by kernel_rfl) (fun _ _ _ h => h) (by rfl) ?_ ?_
    rotate_left 1
    · intro w hw; go_simp; try with_reducible rfl
    refine wpE_take (i := 8) (q := 18) (v := ?_) rfl (by kernel_rfl) (by kernel_rfl) (by kernel_rfl) (by kernel_rfl) (by kernel_rfl) (fun _ _ _ h => h) (by rfl) ?_ ?_
    rotate_left 1
    · intro w hw; (obtain ⟨d1, d2, d3, d4, d5⟩ := HGC.out _ hw; go_simp; try with_reducible rfl)
    refine wpE_take (i := 9) (q := 18) (v := ?_) rfl (by kernel_rfl) (by kernel_rfl) (by kernel_rfl) (by kernel_rfl) (by kernel_rfl) (fun _ _ _ h => h) (by rfl) ?_ ?_
    rotate_left 1
    · intro w hw; (obtain ⟨d1, d2, d3, d4, d5⟩ := HGC.out _ hw; go_simp; try with_reducible rfl)
    refine wpE_take (i := 10) (q := 18) (v := ?_) rfl (by kernel_rfl) (by kernel_rfl) (by kernel_rfl) (by kernel_rfl) (by kernel_rfl) (fun _ _ _ h => h) (by rfl) ?_ ?_
    rotate_left 1
    · intro w hw; go_simp; try with_reducible rfl
    refine wpE_take (i := 11) (q := 18) (v := ?_) rfl (by kernel_rfl) (by kernel_rfl) (by kernel_rfl) (by kernel_rfl) (by kernel_rfl) (fun _ _ _ h => h) (by rfl) ?_ ?_
    rotate_left 1
    · intro w hw; go_simp; try with_reducible rfl
    refine wpE_take (i := 12) (q := 18) (v := ?_) rfl (by kernel_rfl) (by kernel_rfl) (by kernel_rfl) (by kernel_rfl) (by kernel_rfl) (fun _ _ _ h => h) (by rfl) ?_ ?_
    rotate_left 1
    · intro w hw; go_simp; try with_reducible rfl
    refine wpE_take (i := 13) (q := 18) (v := ?_) rfl (by kernel_rfl) (by kernel_rfl) (by kernel_rfl) (by kernel_rfl) (by kernel_rfl) (fun _ _ _ h => h) (by rfl) ?_ ?_
    rotate_left 1
    · intro w hw; go_simp; try with_reducible rfl
    refine wpE_take (i := 14) (q := 18) (v := ?_) rfl (by kernel_rfl) (by kernel_rfl) (by kernel_rfl) (by kernel_rfl) (by kernel_rfl) (fun _ _ _ h => h) (by rfl) ?_ ?_
    rotate_left 1
    · intro w hw; go_simp; try with_reducible rfl
    refine wpE_take (i := 15) (q := 18) (v := ?_) rfl (by kernel_rfl) (by kernel_rfl) (by kernel_rfl) (by kernel_rfl) (by kernel_rfl) (fun _ _ _ h => h) (by rfl) ?_ ?_
    rotate_left 1
    · intro w hw; go_simp; try with_reducible rfl
    refine wpE_take (i := 16) (q := 18) (v := ?_) rfl (by kernel_rfl) (by kernel_rfl) (by kernel_rfl) (by kernel_rfl) (by kernel_rfl) (fun _ _ _ h => h) (by rfl) ?_ ?_
    rotate_left 1
    · intro w hw; go_simp; try with_reducible rfl
    refine wpE_take (i := 17) (q := 18) (v := ?_) rfl (by kernel_rfl) (by kernel_rfl) (by kernel_rfl) (by kernel_rfl) (by kernel_rfl) (fun _ _ _ h => h) (by rfl) ?_ ?_
    rotate_left 1
    · intro w hw; (obtain ⟨e0, e1, e2, e3, e4, e5, e6⟩ := HG5.out _ hw; go_simp; try with_reducible rfl)
    refine wpE_one (i := 18) rfl (by kernel_rfl) (HGC2.out _ _ H4.out.drew) (fun K hK => ?_)
    go_simp
    refine hK _ _ ?_
    clear hK K
    refine wpE_done (by kernel_rfl) (by kernel_rfl) ?_
    clear hup HGC HGC2 HG5 wn wn0 wn1 q2
    have H5 := Lib.hid (HS3.out.of_eq (show _ = pts (bx + 1) (.cells #[.int .i64 c, .int .i64 i] 170) * (row (.slice (some ⟨gb, 0, none⟩) (n + 1) cap) (n + 1) 143 4 (flatG (V0 ++ [gv])) * (mapH kE2 RegV.val gv.rb (rn + 1) (mput f ((c : Int), (i : Int)) ⟨rjn, ⟨q1', q2', q3', q4', q5'⟩, rjs⟩) * (pts b (.cells (tabCells nm R (.slice (some ⟨gb, 0, none⟩) (n + 1) cap) lt) 64) * (pts bx (valO ⟨zn, ⟨g1, g2, g3, g4, g5⟩, L⟩ (.slice sa k sc)) *
    (mapH Value.string Mean.val gv.nb nn g.names * (rowT gv.av g.after * (roH m * (mapH Value.string Mean.val nm N S.names * (grpsH m V0 S0 * (pts bz (.cells #[.int .i64 0, .int .i64 0, .int .i64 0, .int .i64 0, .int .i64 0, .int .i64 0, .slice none 0 0] 59) * F)))))))))) by ac_rfl))
    have hgn : g.regs ((c : Int), (i : Int)) = none := by
      have := HO.out.rep ((c : Int), (i : Int))
      rw [hf] at this
      cases hh : g.regs ((c : Int), (i : Int)) with
      | none => rfl
      | some s => rw [hh] at this; exact this.elim
    have hkr : g.keepR ((c : Int), (i : Int)) (S.regs (c * 256 + i)) = { g with regs := mput g.regs ((c : Int), (i : Int)) (S.regs (c * 256 + i)) } := by rw [GrpS.keepR, hgn]
    have HKR := Lib.hid hkr
    have HO2 := Lib.hid (show OpenF S S0 { g with regs := mput g.regs ((c : Int), (i : Int)) (S.regs (c * 256 + i)) } m lt R V0 gv (mput f ((c : Int), (i : Int)) (R (c * 256 + i))) from
      ⟨HO.out.regs, HO.out.later, HO.out.laterL, HO.out.len, HO.out.le, HO.out.kind, HO.out.after, RepO.put HO.out.rep (HO.out.regs _ (by omega))⟩)
    rw [HRJ.out, ← HKR.out] at HO2
    have H6 := Lib.hid (show Sat W (pts (bx + 1) (.cells #[.int .i64 c, .int .i64 i] 170) * (pts bx (valO ⟨zn, ⟨g1, g2, g3, g4, g5⟩, L⟩ (.slice sa k sc)) * (pts bz (.cells #[.int .i64 0, .int .i64 0, .int .i64 0, .int .i64 0, .int .i64 0, .int .i64 0, .slice none 0 0] 59) * openH F b N S S0 (g.keepR ((c : Int), (i : Int)) (S.regs (c * 256 + i))) m nm lt R V0 gv (mput f ((c : Int), (i : Int)) ⟨rjn, ⟨q1', q2', q3', q4', q5'⟩, rjs⟩) gb cap n nn (rn + 1)))) w3 from by
      rw [HKR.out]
      exact H5.out.of_eq (by unfold openH; ac_rfl))
    clear hf hgn hkr hzE hzV H4 HS3 HB
    go_upto_region 13 with fail
    obtain ⟨S2, hS2⟩ : ∃ S2 : TabS, S2 = { S with groups := S0 ++ [g.keepR ((c : Int), (i : Int)) (S.regs (c * 256 + i))] } := ⟨_, rfl⟩
    have HS2 := Lib.hid hS2
    obtain ⟨V, ga, gc, hT, hX⟩ := OpenF.closeP (b := b) (N := N) (F := pts (bx + 1) (.cells #[.int .i64 c, .int .i64 i] 170) * (pts bx (valO ⟨zn, ⟨g1, g2, g3, g4, g5⟩, L⟩ (.slice sa k sc)) * (pts bz (.cells #[.int .i64 0, .int .i64 0, .int .i64 0, .int .i64 0, .int .i64 0, .int .i64 0, .slice none 0 0] 59) * F))) HO2.out HN.out hS2 (H6.out.of_eq (by unfold openH; ac_rfl))
    have HT := Lib.hid hT
    have HB := Lib.hid (hX.of_eq (show _ = pts (bx + 1) (.cells #[.int .i64 c, .int .i64 i] 170) * (pts bx (valO ⟨zn, ⟨g1, g2, g3, g4, g5⟩, L⟩ (.slice sa k sc)) * (pts b (.cells (tabCells nm R (.slice ga V.length gc) lt) 64) * (roH m * (mapH Value.string Mean.val nm N S2.names * (row (.slice ga V.length gc) V.length 143 4 (flatG V) * (grpsH m V S2.groups * (pts bz (.cells #[.int .i64 0, .int .i64 0, .int .i64 0, .int .i64 0, .int .i64 0, .int .i64 0, .slice none 0 0] 59) * F))))))) by ac_rfl))
    have HVV := Lib.hid (show ∀ w', Sat W (pts bz (.cells #[.int .i64 0, .int .i64 0, .int .i64 0, .int .i64 0, .int .i64 0, .int .i64 0, .slice none 0 0] 59) * F) w' → RdT w' (.slice sa k sc) L from fun w' hw => HVV.out w' hw.r)
    have c0 := True.intro
    have v6 := HB.out.r.cell (i := 6) rfl
    have lv := HB.out.r.lt
    have lb := HB.out.r.r.lt
    clear hT hX hS2
    have HCL := Lib.hid (clone_any (.slice sa k sc) L (fun w' h => HVV.out w' h.r.r.r.r.r.r.r) (by have := HL.out; (try simp only at this); omega) HB.out)
    clear c0
    go_wp2_with fail
    refine Calls.mono HCL.out ?_
    rintro e w3 ⟨u, rfl, h3⟩
    obtain ⟨ua, uc, hu, -⟩ := (rowT_rd h3).capd
    rw [HKK.out] at hu
    subst hu
    have h4 := h3.of_eq (show _ = pts bx (valO ⟨zn, ⟨g1, g2, g3, g4, g5⟩, L⟩ (.slice sa k sc)) * (pts b (.cells (tabCells nm R (.slice ga V.length gc) lt) 64) * (rowT (.slice ua k uc) L * (roH m * (mapH Value.string Mean.val nm N S2.names * (row (.slice ga V.length gc) V.length 143 4 (flatG V) * (grpsH m V S2.groups * (pts (bx + 1) (.cells #[.int .i64 c, .int .i64 i] 170) * (pts bz (.cells #[.int .i64 0, .int .i64 0, .int .i64 0, .int .i64 0, .int .i64 0, .int .i64 0, .slice none 0 0] 59) * F)))))))) by ac_rfl)
    have e0 := h4.cell (i := 0) rfl
    have e1 := h4.cell (i := 1) rfl
    have e2 := h4.cell (i := 2) rfl
    have e3 := h4.cell (i := 3) rfl
    have e4 := h4.cell (i := 4) rfl
    have e5 := h4.cell (i := 5) rfl
    have e6 := h4.cell (i := 6) rfl
    have fe := h4.free (i := 6)
    have le := h4.lt
    have h5 := h4.set (i := 6) (v := .slice ua k uc)
    rw [show ((#[.int .i64 zn, .int .i64 g1, .int .i64 g2, .int .i64 g3, .int .i64 g4, .int .i64 g5, .slice sa k sc] : Array Value).setIfInBounds 6 (.slice ua k uc)) = #[.int .i64 zn, .int .i64 g1, .int .i64 g2, .int .i64 g3, .int .i64 g4, .int .i64 g5, .slice ua k uc] by simp] at h5
    have H5 := Lib.hid h5
    clear h3 h4 h5 v6
    go_upto_region 14 with fail
    generalize w3.setCell ⟨bx, 6, none⟩ (.slice ua k uc) = W4 at *
    obtain ⟨r0, r1, r2, r3, r4, r5, r6⟩ := reg_at H5.out.r hc hi
    clear e0 e1 e2 e3 e4 e5 e6 fe le
    have lt4 := H5.out.r.lt
    have f0 := H5.out.r.free (i := 1 + c * 1792 + i * 7)
    have f1 := H5.out.r.free (i := 1 + c * 1792 + i * 7 + 1)
    have f2 := H5.out.r.free (i := 1 + c * 1792 + i * 7 + 2)
    have f3 := H5.out.r.free (i := 1 + c * 1792 + i * 7 + 3)
    have f4 := H5.out.r.free (i := 1 + c * 1792 + i * 7 + 4)
    have f5 := H5.out.r.free (i := 1 + c * 1792 + i * 7 + 5)
    have f6 := H5.out.r.free (i := 1 + c * 1792 + i * 7 + 6)
    refine wp_region_E (fun w' => ∃ X, Sat W (pts bx (valO ⟨zn, ⟨g1, g2, g3, g4, g5⟩, L⟩ (.slice ua k uc)) * X) w') (by kernel_rfl) ?_
    refine wpE_take (i := 0) (q := 8) (v := ?_) rfl (by kernel_rfl) (by kernel_rfl) (by kernel_rfl) (by kernel_rfl) (by kernel_rfl) (fun _ _ _ h => h) (by rfl) ?_ ?_
    rotate_left 1
    · intro w hw; go_simp; try with_reducible rfl
    refine wpE_take (i := 1) (q := 8) (v := ?_) rfl (by kernel_rfl) (by kernel_rfl) (by kernel_rfl) (by kernel_rfl) (by kernel_rfl) (fun _ _ _ h => h) (by rfl) ?_ ?_
    rotate_left 1
    · intro w hw; go_simp; try with_reducible rfl
    refine wpE_take (i := 2) (q := 8) (v := ?_) rfl (by kernel_rfl) (by kernel_rfl) (by kernel_rfl) (by kernel_rfl) (by kernel_rfl) (fun _ _ _ h => h) (by rfl) ?_ ?_
    rotate_left 1
    · intro w hw; go_simp; try with_reducible rfl
    refine wpE_take (i := 3) (q := 8) (v := ?_) rfl (by kernel_rfl) (by kernel_rfl) (by kernel_rfl) (by kernel_rfl) (by kernel_rfl) (fun _ _ _ h => h) (by rfl) ?_ ?_
    rotate_left 1
    · intro w hw; (obtain ⟨X, hw⟩ := hw; have e0 := hw.cell (i := 0) rfl; have e1 := hw.cell (i := 1) rfl; have e2 := hw.cell (i := 2) rfl; have e3 := hw.cell (i := 3) rfl; have e4 := hw.cell (i := 4) rfl; have e5 := hw.cell (i := 5) rfl; have e6 := hw.cell (i := 6) rfl; go_simp; try with_reducible rfl)
    refine wpE_take (i := 4) (q := 5) (v := ?_) rfl (by kernel_rfl) (by kernel_rfl) (by kernel_rfl) (by kernel_rfl) (by kernel_rfl) (fun _ _ _ h => h) (by rfl) ?_ ?_
    rotate_left 1
    · intro w hw; go_simp; try with_reducible rfl
    refine wpE_take (i := 5) (q := 6) (v := ?_) rfl (by kernel_rfl) (by kernel_rfl) (by kernel_rfl) (by kernel_rfl) (by kernel_rfl) (fun _ _ _ h => h) (by rfl) ?_ ?_
    rotate_left 1
    · intro w hw; go_simp; try with_reducible rfl
    refine wpE_take (i := 6) (q := 7) (v := ?_) rfl (by kernel_rfl) (by kernel_rfl) (by kernel_rfl) (by kernel_rfl) (by kernel_rfl) (fun _ _ _ h => h) (by rfl) ?_ ?_
    rotate_left 1
    · intro w hw; go_simp; try with_reducible rfl
    refine wpE_take (i := 7) (q := 8) (v := ?_) rfl (by kernel_rfl) (by kernel_rfl) (by kernel_rfl) (by kernel_rfl) (by kernel_rfl) (fun _ _ _ h => h) (by rfl) ?_ ?_
    rotate_left 1
    · intro w hw; go_simp; try with_reducible rfl
    refine wpE_one (i := 8) rfl (by kernel_rfl) (⟨_, H5.out.drew⟩) (fun K hK => ?_)
    go_simp
    refine hK _ _ ?_
    clear hK K
    refine wpE_done (by kernel_rfl) (by kernel_rfl) ?_
    have h6 := H5.out.of_eq (show _ = pts b (.cells (tabCells nm R (.slice ga V.length gc) lt) 64) * (rowT (.slice ua k uc) L * (roH m * (mapH Value.string Mean.val nm N S2.names * (row (.slice ga V.length gc) V.length 143 4 (flatG V) * (grpsH m V S2.groups * (pts bx (valO ⟨zn, ⟨g1, g2, g3, g4, g5⟩, L⟩ (.slice ua k uc)) * (pts (bx + 1) (.cells #[.int .i64 c, .int .i64 i] 170) * (pts bz (.cells #[.int .i64 0, .int .i64 0, .int .i64 0, .int .i64 0, .int .i64 0, .int .i64 0, .slice none 0 0] 59) * F)))))))) by ac_rfl)
    have HF := Lib.hid (put_end (v := ⟨zn, ⟨g1, g2, g3, g4, g5⟩, L⟩) (u := .slice ua k uc) (F := pts bx (valO ⟨zn, ⟨g1, g2, g3, g4, g5⟩, L⟩ (.slice ua k uc)) * (pts (bx + 1) (.cells #[.int .i64 c, .int .i64 i] 170) * (pts bz (.cells #[.int .i64 0, .int .i64 0, .int .i64 0, .int .i64 0, .int .i64 0, .int .i64 0, .slice none 0 0] 59) * F))) hc hi HL.out HT.out h6)
    exact ⟨rfl, .tuple #[], by unfold results; go_simp, rfl, (by have h9 := HF.out.drewD.less.less.less; rw [HS2.out] at h9; exact h9)⟩
  · obtain ⟨ts, hgs, ⟨-, -, hrm⟩, -⟩ : ∃ ts, g.regs ((c : Int), (i : Int)) = some ts ∧ Rep m ⟨rz, ⟨y1, y2, y3, y4, y5⟩, rs⟩ ts ∧ ts.toks.length ≤ 20000 := by
      have := HO.out.rep ((c : Int), (i : Int))
      rw [hf] at this
      cases hh : g.regs ((c : Int), (i : Int)) with
      | none => rw [hh] at this; exact this.elim
      | some s => rw [hh] at this; exact ⟨s, rfl, this⟩
    obtain ⟨ra, rc, rfl⟩ := (Sat.ro_rd (HB.out.r.r.r.r.r.r.r) hrm).val
    obtain ⟨rl, hrl⟩ : ∃ rl, ts.toks.length = rl := ⟨_, rfl⟩
    rw [hrl] at hf
    rw [hf] at HGC
    have hz := hzE.out
    subst hz
    simp only [Option.map_some, Option.getD_some, Option.isSome_some] at HGC
    clear hrm
    refine wp_region_E GC (by kernel_rfl) ?_
    refine wpE_take (i := 0) (q := 16) (v := ?_) rfl (by kernel_rfl) (by kernel_rfl) (by kernel_rfl) (by kernel_rfl) (by kernel_rfl) (fun _ _ _ h => h) (by rfl) ?_ ?_
    rotate_left 1
    · intro w hw; go_simp; try with_reducible rfl
    refine wpE_take (i := 1) (q := 16) (v := ?_) rfl (by kernel_rfl) (by kernel_rfl) (by kernel_rfl) (by kernel_rfl) (by kernel_rfl) (fun _ _ _ h => h) (by rfl) ?_ ?_
    rotate_left 1
    · intro w hw; go_simp; try with_reducible rfl
    refine wpE_take (i := 2) (q := 16) (v := ?_) rfl (by kernel_rfl) (by kernel_rfl) (by kernel_rfl) (by kernel_rfl) (by kernel_rfl) (fun _ _ _ h => h) (by rfl) ?_ ?_
    rotate_left 1
    · intro w hw; go_simp; try with_reducible rfl
    refine wpE_take (i := 3) (q := 16) (v := ?_) rfl (by kernel_rfl) (by kernel_rfl) (by kernel_rfl) (by kernel_rfl) (by kernel_rfl) (fun _ _ _ h => h) (by rfl) ?_ ?_
    rotate_left 1
    · intro w hw; (obtain ⟨d1, d2, d3, d4, d5⟩ := HGC.out _ hw; go_simp; try with_reducible rfl)
    refine wpE_take (i := 4) (q := 16) (v := ?_) rfl (by kernel_rfl) (by kernel_rfl) (by kernel_rfl) (by kernel_rfl) (by kernel_rfl) (fun _ _ _ h => h) (by rfl) ?_ ?_
    rotate_left 1
    · intro w hw; go_simp; try with_reducible rfl
    refine wpE_take (i := 5) (q := 16) (v := ?_) rfl (by kernel_rfl) (by kernel_rfl) (by kernel_rfl) (by kernel_rfl) (by kernel_rfl) (fun _ _ _ h => h) (by rfl) ?_ ?_
    rotate_left 1
    · intro w hw; go_simp; try with_reducible rfl
    refine wpE_take (i := 6) (q := 16) (v := ?_) rfl (by kernel_rfl) (by kernel_rfl) (by kernel_rfl) (by kernel_rfl) (by kernel_rfl) (fun _ _ _ h => h) (by rfl) ?_ ?_
    rotate_left 1
    · intro w hw; go_simp; try with_reducible rfl
    refine wpE_take (i := 7) (q := 16) (v := ?_) rfl (by kernel_rfl) (by kernel_rfl) (by kernel_rfl) (by kernel_rfl) (by kernel_rfl) (fun _ _ _ h => h) (by rfl) ?_ ?_
    rotate_left 1
    · intro w hw; go_simp; try with_reducible rfl
    refine wpE_take (i := 8) (q := 16) (v := ?_) rfl (by kernel_rfl) (by kernel_rfl) (by kernel_rfl) (by kernel_rfl) (by kernel_rfl) (fun _ _ _ h => h) (by rfl) ?_ ?_
    rotate_left 1
    · intro w hw; (obtain ⟨d1, d2, d3, d4, d5⟩ := HGC.out _ hw; go_simp; try with_reducible rfl)
    refine wpE_take (i := 9) (q := 16) (v := ?_) rfl (by kernel_rfl) (by kernel_rfl) (by kernel_rfl) (by kernel_rfl) (by kernel_rfl) (fun _ _ _ h => h) (by rfl) ?_ ?_
    rotate_left 1
    · intro w hw; (obtain ⟨d1, d2, d3, d4, d5⟩ := HGC.out _ hw; go_simp; try with_reducible rfl)
    refine wpE_take (i := 10) (q := 16) (v := ?_) rfl (by kernel_rfl) (by kernel_rfl) (by kernel_rfl) (by kernel_rfl) (by kernel_rfl) (fun _ _ _ h => h) (by rfl) ?_ ?_
    rotate_left 1
    · intro w hw; (obtain ⟨d1, d2, d3, d4, d5⟩ := HGC.out _ hw; go_simp; try with_reducible rfl)
    refine wpE_take (i := 11) (q := 16) (v := ?_) rfl (by kernel_rfl) (by kernel_rfl) (by kernel_rfl) (by kernel_rfl) (by kernel_rfl) (fun _ _ _ h => h) (by rfl) ?_ ?_
    rotate_left 1
    · intro w hw; go_simp; try with_reducible rfl
    refine wpE_take (i := 12) (q := 16) (v := ?_) rfl (by kernel_rfl) (by kernel_rfl) (by kernel_rfl) (by kernel_rfl) (by kernel_rfl) (fun _ _ _ h => h) (by rfl) ?_ ?_
    rotate_left 1
    · intro w hw; go_simp; try with_reducible rfl
    refine wpE_take (i := 13) (q := 16) (v := ?_) rfl (by kernel_rfl) (by kernel_rfl) (by kernel_rfl) (by kernel_rfl) (by kernel_rfl) (fun _ _ _ h => h) (by rfl) ?_ ?_
    rotate_left 1
    · intro w hw; go_simp; try with_reducible rfl
    refine wpE_one (i := 14) rfl (by kernel_rfl) (HGC2.out _ _ HB.out.drew) (fun K hK => ?_)
    go_simp
    refine hK _ _ ?_
    clear hK K
    have h2 : Sat W (pts W1.heap.size (.cells #[.int .i64 0, .int .i64 0, .int .i64 0, .int .i64 0, .int .i64 0, .int .i64 0, .slice none 0 0] 59) * _) _ := HB.out.drew.alloc (.cells #[.int .i64 0, .int .i64 0, .int .i64 0, .int .i64 0, .int .i64 0, .int .i64 0, .slice none 0 0] 59)
    have H2 := Lib.hid h2
    obtain ⟨bz, hbz⟩ : ∃ bz, W1.heap.size = bz := ⟨_, rfl⟩
    rw [hbz] at h2
    have lz := h2.lt
    have z0 := h2.free (i := 0)
    have z1 := h2.free (i := 1)
    have z2 := h2.free (i := 2)
    have z3 := h2.free (i := 3)
    have z4 := h2.free (i := 4)
    have z5 := h2.free (i := 5)
    have z6 := h2.free (i := 6)
    rw [hbz]
    refine wpE_one (i := 15) rfl (by kernel_rfl) (HGC2.out _ _ H2.out.r) (fun K hK => ?_)
    go_simp
    have h3 := (HB.out.alloc (.cells #[.int .i64 rz, .int .i64 y1, .int .i64 y2, .int .i64 y3, .int .i64 y4, .int .i64 y5, .slice ra rl rc] 59)).drew
    have H3 := Lib.hid h3
    have HG3 := Lib.hid (HGC2.out _ _ h3.r)
    clear z0 z1 z2 z3 z4 z5 z6 lz h2 H2 h3
    refine hK _ _ ?_
    clear hK K
    refine wpE_one (i := 16) rfl (by kernel_rfl) (HG3.out) (fun K hK => ?_)
    go_simp
    refine hK _ _ ?_
    clear hK K
    refine wpE_done (by kernel_rfl) (by kernel_rfl) ?_
    have H4 := Lib.hid (H3.out.of_eq (show _ = pts (bx + 1) (.cells #[.int .i64 c, .int .i64 i] 170) * (row (.slice (some ⟨gb, 0, none⟩) (n + 1) cap) (n + 1) 143 4 (flatG (V0 ++ [gv])) * (mapH kE2 RegV.val gv.rb rn f * (pts b (.cells (tabCells nm R (.slice (some ⟨gb, 0, none⟩) (n + 1) cap) lt) 64) * (pts bx (valO ⟨zn, ⟨g1, g2, g3, g4, g5⟩, L⟩ (.slice sa k sc)) *
        (mapH Value.string Mean.val gv.nb nn g.names * (rowT gv.av g.after * (roH m * (mapH Value.string Mean.val nm N S.names * (grpsH m V0 S0 * (pts W1.heap.size (.cells #[.int .i64 rz, .int .i64 y1, .int .i64 y2, .int .i64 y3, .int .i64 y4, .int .i64 y5, .slice ra rl rc] 59) * F)))))))))) by ac_rfl))
    rw [hbz] at H4
    clear H3 HG3
    generalize (W1.alloc (.cells #[.int .i64 rz, .int .i64 y1, .int .i64 y2, .int .i64 y3, .int .i64 y4, .int .i64 y5, .slice ra rl rc] 59)).drew = W2 at *
    have hkr : g.keepR ((c : Int), (i : Int)) (S.regs (c * 256 + i)) = g := by rw [GrpS.keepR, hgs]
    have HKR := Lib.hid hkr
    have HO2 := Lib.hid (show OpenF S S0 (g.keepR ((c : Int), (i : Int)) (S.regs (c * 256 + i))) m lt R V0 gv f from by rw [HKR.out]; exact HO.out)
    have H6 := Lib.hid (show Sat W (pts (bx + 1) (.cells #[.int .i64 c, .int .i64 i] 170) * (pts bx (valO ⟨zn, ⟨g1, g2, g3, g4, g5⟩, L⟩ (.slice sa k sc)) * (pts bz (.cells #[.int .i64 rz, .int .i64 y1, .int .i64 y2, .int .i64 y3, .int .i64 y4, .int .i64 y5, .slice ra rl rc] 59) * openH F b N S S0 (g.keepR ((c : Int), (i : Int)) (S.regs (c * 256 + i))) m nm lt R V0 gv f gb cap n nn rn))) W2 from by
      rw [HKR.out]
      exact H4.out.of_eq (by unfold openH; ac_rfl))
    clear HGC HGC2 wn wn0 wn1 q2 hf hgs hkr hzE hzV H4 HB lb lv lx cl0 cl1 c0
    go_upto_region 13 with fail
    obtain ⟨S2, hS2⟩ : ∃ S2 : TabS, S2 = { S with groups := S0 ++ [g.keepR ((c : Int), (i : Int)) (S.regs (c * 256 + i))] } := ⟨_, rfl⟩
    have HS2 := Lib.hid hS2
    obtain ⟨V, ga, gc, hT, hX⟩ := OpenF.closeP (b := b) (N := N) (F := pts (bx + 1) (.cells #[.int .i64 c, .int .i64 i] 170) * (pts bx (valO ⟨zn, ⟨g1, g2, g3, g4, g5⟩, L⟩ (.slice sa k sc)) * (pts bz (.cells #[.int .i64 rz, .int .i64 y1, .int .i64 y2, .int .i64 y3, .int .i64 y4, .int .i64 y5, .slice ra rl rc] 59) * F))) HO2.out HN.out hS2 (H6.out.of_eq (by unfold openH; ac_rfl))
    have HT := Lib.hid hT
    have HB := Lib.hid (hX.of_eq (show _ = pts (bx + 1) (.cells #[.int .i64 c, .int .i64 i] 170) * (pts bx (valO ⟨zn, ⟨g1, g2, g3, g4, g5⟩, L⟩ (.slice sa k sc)) * (pts b (.cells (tabCells nm R (.slice ga V.length gc) lt) 64) * (roH m * (mapH Value.string Mean.val nm N S2.names * (row (.slice ga V.length gc) V.length 143 4 (flatG V) * (grpsH m V S2.groups * (pts bz (.cells #[.int .i64 rz, .int .i64 y1, .int .i64 y2, .int .i64 y3, .int .i64 y4, .int .i64 y5, .slice ra rl rc] 59) * F))))))) by ac_rfl))
    have HVV := Lib.hid (show ∀ w', Sat W (pts bz (.cells #[.int .i64 rz, .int .i64 y1, .int .i64 y2, .int .i64 y3, .int .i64 y4, .int .i64 y5, .slice ra rl rc] 59) * F) w' → RdT w' (.slice sa k sc) L from fun w' hw => HVV.out w' hw.r)
    have c0 := True.intro
    have v6 := HB.out.r.cell (i := 6) rfl
    have lv := HB.out.r.lt
    have lb := HB.out.r.r.lt
    clear hT hX hS2
    have HCL := Lib.hid (clone_any (.slice sa k sc) L (fun w' h => HVV.out w' h.r.r.r.r.r.r.r) (by have := HL.out; (try simp only at this); omega) HB.out)
    clear c0
    go_wp2_with fail
    refine Calls.mono HCL.out ?_
    rintro e w3 ⟨u, rfl, h3⟩
    obtain ⟨ua, uc, hu, -⟩ := (rowT_rd h3).capd
    rw [HKK.out] at hu
    subst hu
    have h4 := h3.of_eq (show _ = pts bx (valO ⟨zn, ⟨g1, g2, g3, g4, g5⟩, L⟩ (.slice sa k sc)) * (pts b (.cells (tabCells nm R (.slice ga V.length gc) lt) 64) * (rowT (.slice ua k uc) L * (roH m * (mapH Value.string Mean.val nm N S2.names * (row (.slice ga V.length gc) V.length 143 4 (flatG V) * (grpsH m V S2.groups * (pts (bx + 1) (.cells #[.int .i64 c, .int .i64 i] 170) * (pts bz (.cells #[.int .i64 rz, .int .i64 y1, .int .i64 y2, .int .i64 y3, .int .i64 y4, .int .i64 y5, .slice ra rl rc] 59) * F)))))))) by ac_rfl)
    have e0 := h4.cell (i := 0) rfl
    have e1 := h4.cell (i := 1) rfl
    have e2 := h4.cell (i := 2) rfl
    have e3 := h4.cell (i := 3) rfl
    have e4 := h4.cell (i := 4) rfl
    have e5 := h4.cell (i := 5) rfl
    have e6 := h4.cell (i := 6) rfl
    have fe := h4.free (i := 6)
    have le := h4.lt
    have h5 := h4.set (i := 6) (v := .slice ua k uc)
    rw [show ((#[.int .i64 zn, .int .i64 g1, .int .i64 g2, .int .i64 g3, .int .i64 g4, .int .i64 g5, .slice sa k sc] : Array Value).setIfInBounds 6 (.slice ua k uc)) = #[.int .i64 zn, .int .i64 g1, .int .i64 g2, .int .i64 g3, .int .i64 g4, .int .i64 g5, .slice ua k uc] by simp] at h5
    have H5 := Lib.hid h5
    clear h3 h4 h5 v6
    go_upto_region 14 with fail
    generalize w3.setCell ⟨bx, 6, none⟩ (.slice ua k uc) = W4 at *
    obtain ⟨r0, r1, r2, r3, r4, r5, r6⟩ := reg_at H5.out.r hc hi
    clear e0 e1 e2 e3 e4 e5 e6 fe le
    have lt4 := H5.out.r.lt
    have f0 := H5.out.r.free (i := 1 + c * 1792 + i * 7)
    have f1 := H5.out.r.free (i := 1 + c * 1792 + i * 7 + 1)
    have f2 := H5.out.r.free (i := 1 + c * 1792 + i * 7 + 2)
    have f3 := H5.out.r.free (i := 1 + c * 1792 + i * 7 + 3)
    have f4 := H5.out.r.free (i := 1 + c * 1792 + i * 7 + 4)
    have f5 := H5.out.r.free (i := 1 + c * 1792 + i * 7 + 5)
    have f6 := H5.out.r.free (i := 1 + c * 1792 + i * 7 + 6)
    refine wp_region_E (fun w' => ∃ X, Sat W (pts bx (valO ⟨zn, ⟨g1, g2, g3, g4, g5⟩, L⟩ (.slice ua k uc)) * X) w') (by kernel_rfl) ?_
    refine wpE_take (i := 0) (q := 8) (v := ?_) rfl (by kernel_rfl) (by kernel_rfl) (by kernel_rfl) (by kernel_rfl) (by kernel_rfl) (fun _ _ _ h => h) (by rfl) ?_ ?_
    rotate_left 1
    · intro w hw; go_simp; try with_reducible rfl
    refine wpE_take (i := 1) (q := 8) (v := ?_) rfl (by kernel_rfl) (by kernel_rfl) (by kernel_rfl) (by kernel_rfl) (by kernel_rfl) (fun _ _ _ h => h) (by rfl) ?_ ?_
    rotate_left 1
    · intro w hw; go_simp; try with_reducible rfl
    refine wpE_take (i := 2) (q := 8) (v := ?_) rfl (by kernel_rfl) (by kernel_rfl) (by kernel_rfl) (by kernel_rfl) (by kernel_rfl) (fun _ _ _ h => h) (by rfl) ?_ ?_
    rotate_left 1
    · intro w hw; go_simp; try with_reducible rfl
    refine wpE_take (i := 3) (q := 8) (v := ?_) rfl (by kernel_rfl) (by kernel_rfl) (by kernel_rfl) (by kernel_rfl) (by kernel_rfl) (fun _ _ _ h => h) (by rfl) ?_ ?_
    rotate_left 1
    · intro w hw; (obtain ⟨X, hw⟩ := hw; have e0 := hw.cell (i := 0) rfl; have e1 := hw.cell (i := 1) rfl; have e2 := hw.cell (i := 2) rfl; have e3 := hw.cell (i := 3) rfl; have e4 := hw.cell (i := 4) rfl; have e5 := hw.cell (i := 5) rfl; have e6 := hw.cell (i := 6) rfl; go_simp; try with_reducible rfl)
    refine wpE_take (i := 4) (q := 5) (v := ?_) rfl (by kernel_rfl) (by kernel_rfl) (by kernel_rfl) (by kernel_rfl) (by kernel_rfl) (fun _ _ _ h => h) (by rfl) ?_ ?_
    rotate_left 1
    · intro w hw; go_simp; try with_reducible rfl
    refine wpE_take (i := 5) (q := 6) (v := ?_) rfl (by kernel_rfl) (by kernel_rfl) (by kernel_rfl) (by kernel_rfl) (by kernel_rfl) (fun _ _ _ h => h) (by rfl) ?_ ?_
    rotate_left 1
    · intro w hw; go_simp; try with_reducible rfl
    refine wpE_take (i := 6) (q := 7) (v := ?_) rfl (by kernel_rfl) (by kernel_rfl) (by kernel_rfl) (by kernel_rfl) (by kernel_rfl) (fun _ _ _ h => h) (by rfl) ?_ ?_
    rotate_left 1
    · intro w hw; go_simp; try with_reducible rfl
    refine wpE_take (i := 7) (q := 8) (v := ?_) rfl (by kernel_rfl) (by kernel_rfl) (by kernel_rfl) (by kernel_rfl) (by kernel_rfl) (fun _ _ _ h => h) (by rfl) ?_ ?_
    rotate_left 1
    · intro w hw; go_simp; try with_reducible rfl
    refine wpE_one (i := 8) rfl (by kernel_rfl) (⟨_, H5.out.drew⟩) (fun K hK => ?_)
    go_simp
    refine hK _ _ ?_
    clear hK K
    refine wpE_done (by kernel_rfl) (by kernel_rfl) ?_
    have h6 := H5.out.of_eq (show _ = pts b (.cells (tabCells nm R (.slice ga V.length gc) lt) 64) * (rowT (.slice ua k uc) L * (roH m * (mapH Value.string Mean.val nm N S2.names * (row (.slice ga V.length gc) V.length 143 4 (flatG V) * (grpsH m V S2.groups * (pts bx (valO ⟨zn, ⟨g1, g2, g3, g4, g5⟩, L⟩ (.slice ua k uc)) * (pts (bx + 1) (.cells #[.int .i64 c, .int .i64 i] 170) * (pts bz (.cells #[.int .i64 rz, .int .i64 y1, .int .i64 y2, .int .i64 y3, .int .i64 y4, .int .i64 y5, .slice ra rl rc] 59) * F)))))))) by ac_rfl)
    have HF := Lib.hid (put_end (v := ⟨zn, ⟨g1, g2, g3, g4, g5⟩, L⟩) (u := .slice ua k uc) (F := pts bx (valO ⟨zn, ⟨g1, g2, g3, g4, g5⟩, L⟩ (.slice ua k uc)) * (pts (bx + 1) (.cells #[.int .i64 c, .int .i64 i] 170) * (pts bz (.cells #[.int .i64 rz, .int .i64 y1, .int .i64 y2, .int .i64 y3, .int .i64 y4, .int .i64 y5, .slice ra rl rc] 59) * F))) hc hi HL.out HT.out h6)
    exact ⟨rfl, .tuple #[], by unfold results; go_simp, rfl, (by have h9 := HF.out.drewD.less.less.less; rw [HS2.out] at h9; exact h9)⟩

end Go.Proofs.Yticljfpippbkkaa

/-
  A table: a register gets a value globally. Conditions: those that each theorem names.
-/
namespace Go.Proofs.Yticljfpippbkkaa
open Go.RowKit Go.Sp
variable {W w w' : World} {F A : HProp}

noncomputable def GrpS.delR (k : Int × Int) (g : GrpS) : GrpS := { g with regs := mdel g.regs k }

theorem RepO.del {m : Nat → Option Obj} {f : Int × Int → Option RegV} {g : Int × Int → Option RegS} (h : ∀ k, RepO m (f k) (g k)) (k : Int × Int) : ∀ j, RepO m (mdel f k j) (mdel g k j) := by
  intro j
  by_cases hj : j = k
  · subst hj; rw [mdel_same, mdel_same]; trivial
  · rw [mdel_other f hj, mdel_other g hj]; exact h j

theorem grps_mid_open {m : Nat → Option Obj} {V V1 V2 : List GrpV} {v : GrpV} {G1 G3 : List GrpS} {g : GrpS} {X : HProp} (hV : V = V1 ++ v :: V2) (hl : V1.length = G1.length) (h : Sat W (X * (grpsH m V (G1 ++ g :: G3) * A)) w) :
    Sat W (grp1 m v g * (grpsH m (V1 ++ V2) (G1 ++ G3) * (X * A))) w := by
  rw [hV, grpsH_mid m v g V2 G3 V1 G1 hl] at h
  exact h.of_eq (by ac_rfl)
theorem grps_mid_close {m : Nat → Option Obj} {V V1 V2 : List GrpV} {v : GrpV} {G1 G3 : List GrpS} {g : GrpS} {X : HProp} (hV : V = V1 ++ v :: V2) (hl : V1.length = G1.length) (h : Sat W (grp1 m v g * (grpsH m (V1 ++ V2) (G1 ++ G3) * (X * A))) w) :
    Sat W (X * (grpsH m V (G1 ++ g :: G3) * A)) w := by
  rw [hV, grpsH_mid m v g V2 G3 V1 G1 hl]
  exact h.of_eq (by ac_rfl)

set_option maxRecDepth 100000 in
set_option maxHeartbeats 8000000 in
theorem put_glob {b N : Nat} {S : TabS} {c i : Nat} {v : RegS} {s : Value} (hc : c ≤ 5) (hi : i < 256) (hl : v.toks.length ≤ 20000) (hv : ∀ w', Sat W F w' → RdT w' s v.toks) (h : TabAt W F b N S w) :
    Calls Try.prog 64 #[.pointer (some ⟨b, 0, none⟩), .int .i64 c, .int .i64 i, valA v s, .bool true] w fun e w' => e = .returned (.tuple #[]) ∧ TabAt W F b N { S with regs := setS S.regs (c * 256 + i) v, groups := S.groups.map (·.delR (c, i)) } w' := by
  obtain ⟨sa, sc, rfl⟩ := (hv w h.sat).val
  obtain ⟨m, nm, gs, lt, R, V, hT, hs⟩ := h
  obtain ⟨ga, gc, rfl⟩ := Sat.row_value hs.r.r.r
  have hbx := (hs.alloc (valO v (.slice sa v.toks.length sc))).alloc (.cells #[.int .i64 c, .int .i64 i] 170)
  rw [show (w.alloc (valO v (.slice sa v.toks.length sc))).heap.size = w.heap.size + 1 by simp] at hbx
  obtain ⟨bx, hbx0⟩ : ∃ bx, w.heap.size = bx := ⟨_, rfl⟩
  rw [hbx0] at hbx
  have HT := Lib.hid hT
  have HL := Lib.hid hl
  have HVV := Lib.hid hv
  obtain ⟨zn, ⟨g1, g2, g3, g4, g5⟩, L⟩ := v
  simp only [valA]
  simp only at hl
  obtain ⟨k, hk⟩ : ∃ k, L.length = k := ⟨_, rfl⟩
  simp only [hk] at hbx HVV
  simp only [hk]
  have HKK := Lib.hid hk
  obtain ⟨n, hn⟩ : ∃ n, V.length = n := ⟨_, rfl⟩
  have HN := Lib.hid hn
  have c0 := hbx.r.r.cell (i := 10753) (tab_groups nm R _ lt)
  rw [hn] at c0
  have lb := hbx.r.r.lt
  have lv := hbx.r.lt
  have hn2 : n ≤ 200 := by rw [← hn, hT.2.2.2.1]; exact hT.2.2.2.2
  obtain ⟨BASE, hBASE⟩ : ∃ BASE : HProp, BASE = pts (bx + 1) (.cells #[.int .i64 c, .int .i64 i] 170) * (row (.slice ga V.length gc) V.length 143 4 (flatG V) * (pts b (.cells (tabCells nm R (.slice ga V.length gc) lt) 64) * (pts bx (valO ⟨zn, ⟨g1, g2, g3, g4, g5⟩, L⟩ (.slice sa k sc)) * (roH m * (mapH Value.string Mean.val nm N S.names * F))))) := ⟨_, rfl⟩
  have HB0 := Lib.hid (hbx.of_eq (show _ = emp * (grpsH m V S.groups * BASE) by rw [hBASE, emp_star]; ac_rfl))
  have HBASE := Lib.hid hBASE
  have i1 : (c : Int) < 6 := by omega
  have i2 : (i : Int) < 256 := by omega
  clear hT hs hbx hv hl hk hBASE hn
  go_enter Try.func64, Try.ntmps64
  go_upto_region 2 with fail
  generalize (w.alloc (.cells #[.int .i64 zn, .int .i64 g1, .int .i64 g2, .int .i64 g3, .int .i64 g4, .int .i64 g5, .slice sa k sc] 59)).alloc (.cells #[.int .i64 c, .int .i64 i] 170) = W1 at *
  clear hbx0
  go_wp2_with fail
  go_loopg [25] n (fun gg s25 wx => ∃ (q : Nat) (G1 G2 : List GrpS) (X : HProp), S.groups = G1 ++ G2 ∧ G1.length = q ∧ q ≤ n ∧ gg = n - q ∧ s25 = .int .i64 q ∧ Sat W (X * (grpsH m V (G1.map (·.delR ((c : Int), (i : Int))) ++ G2) * BASE)) wx)
  case atStart => exact ⟨0, [], S.groups, emp, rfl, rfl, by omega, rfl, by go_num, HB0.out⟩
  case round =>
    obtain ⟨q, G1, G2, X, hG, hq, hqn, rfl, rfl, hx⟩ := hrel
    have HX := Lib.hid hx
    have HG := Lib.hid hG
    have HQ := Lib.hid hq
    clear hx hG hq HB0 c0 lb lv
    by_cases hlt : q < n
    · obtain ⟨g, G3, rfl⟩ : ∃ g G3, G2 = g :: G3 := by
        cases G2 with
        | nil =>
          exfalso
          have h1 := HG.out
          have h2 := HT.out.2.2.2.1
          have h3 := HN.out
          have h4 := HQ.out
          rw [h1] at h2
          simp at h2
          omega
        | cons g G3 => exact ⟨g, G3, rfl⟩
      obtain ⟨V1, v, V2, hV, hV1⟩ : ∃ V1 v V2, V = V1 ++ v :: V2 ∧ V1.length = q :=
        ⟨V.take q, V[q]'(by rw [HN.out]; exact hlt), V.drop (q + 1), by rw [List.getElem_cons_drop, List.take_append_drop], by rw [List.length_take, HN.out]; omega⟩
      have hm := grps_mid_open (G1 := G1.map (·.delR ((c : Int), (i : Int)))) hV (by rw [hV1, List.length_map, HQ.out]) HX.out
      obtain ⟨⟨hk, hal⟩, nn, rn, f, hf, hs2⟩ := Sat.grp_open hm
      obtain ⟨aa, ac, hva⟩ := hs2.r.r.rowT_value
      have HKAL := Lib.hid (And.intro hk hal)
      have HF := Lib.hid hf
      have HV := Lib.hid hV
      have HV1 := Lib.hid hV1
      rw [HBASE.out, HN.out] at hs2
      have hs3 := hs2.of_eq (show _ = row (.slice ga n gc) n 143 4 (flatG V) * (pts (bx + 1) (.cells #[.int .i64 c, .int .i64 i] 170) * (mapH kE2 RegV.val v.rb rn f * (mapH Value.string Mean.val v.nb nn g.names * (rowT v.av g.after * (grpsH m (V1 ++ V2) (G1.map (·.delR ((c : Int), (i : Int))) ++ G3) * (X * (pts b (.cells (tabCells nm R (.slice ga n gc) lt) 64) * (pts bx (valO ⟨zn, ⟨g1, g2, g3, g4, g5⟩, L⟩ (.slice sa k sc)) * (roH m * (mapH Value.string Mean.val nm N S.names * F)))))))))) by ac_rfl)
      obtain ⟨_, hcs⟩ := hs3.row_cases
      rcases hcs with ⟨_, h0, _⟩ | ⟨gb, cap', _, hgs, _⟩
      · omega
      simp only [Value.slice.injEq] at hgs
      obtain ⟨rfl, -, rfl⟩ := hgs
      have r0 := hs3.row_cell (flatG_get V q 0 (.int .i64 v.kind) (by rw [HN.out]; exact hlt) (by simp only [hV]; rw [List.getElem_append_right (by omega)]; simp [hV1, GrpV.cells]))
      have r1 := hs3.row_cell (flatG_get V q 1 (.map (some v.nb)) (by rw [HN.out]; exact hlt) (by simp only [hV]; rw [List.getElem_append_right (by omega)]; simp [hV1, GrpV.cells]))
      have r2 := hs3.row_cell (flatG_get V q 2 (.map (some v.rb)) (by rw [HN.out]; exact hlt) (by simp only [hV]; rw [List.getElem_append_right (by omega)]; simp [hV1, GrpV.cells]))
      have r3 := hs3.row_cell (flatG_get V q 3 v.av (by rw [HN.out]; exact hlt) (by simp only [hV]; rw [List.getElem_append_right (by omega)]; simp [hV1, GrpV.cells]))
      rw [hva] at r3
      simp only [Nat.add_zero] at r0
      obtain ⟨al, hal2⟩ : ∃ al, g.after.length = al := ⟨_, rfl⟩
      rw [hal2] at r3
      have hs4 := (hs3.alloc (.cells #[.int .i64 v.kind, .map (some v.nb), .map (some v.rb), .slice aa al ac] 143)).r.r
      have hs5 := (hs3.alloc (.cells #[.int .i64 v.kind, .map (some v.nb), .map (some v.rb), .slice aa al ac] 143)).of_eq (show _ = mapH kE2 RegV.val v.rb rn f * (pts (bx + 1) (.cells #[.int .i64 c, .int .i64 i] 170) * (pts wr.heap.size (.cells #[.int .i64 v.kind, .map (some v.nb), .map (some v.rb), .slice aa al ac] 143) * (row (.slice (some ⟨gb, 0, none⟩) n gc) n 143 4 (flatG V) * (mapH Value.string Mean.val v.nb nn g.names * (rowT v.av g.after * (grpsH m (V1 ++ V2) (G1.map (·.delR ((c : Int), (i : Int))) ++ G3) * (X * (pts b (.cells (tabCells nm R (.slice (some ⟨gb, 0, none⟩) n gc) lt) 64) * (pts bx (valO ⟨zn, ⟨g1, g2, g3, g4, g5⟩, L⟩ (.slice sa k sc)) * (roH m * (mapH Value.string Mean.val nm N S.names * F))))))))))) by ac_rfl)
      have HS5 := Lib.hid hs5
      clear hm hs2 hs3 hs4 hs5 hf hk hal hV hV1 hva hal2 HX
      go_upto_region 6 with fail
      obtain ⟨bz, hbz⟩ : ∃ bz, wr.heap.size = bz := ⟨_, rfl⟩
      rw [hbz] at HS5
      rw [hbz]
      generalize wr.alloc (.cells #[.int .i64 v.kind, .map (some v.nb), .map (some v.rb), .slice aa al ac] 143) = w3 at *
      clear r0 r1 r2 r3 hbz
      have d2 := HS5.out.r.r.cell (i := 2) rfl
      have cl0 := HS5.out.r.cell (i := 0) rfl
      have cl1 := HS5.out.r.cell (i := 1) rfl
      have lx := HS5.out.r.lt
      have lz := HS5.out.r.r.lt
      obtain ⟨w4, hdel, hs6⟩ := Sat.map_del key2 Try.underlying141 HS5.out ((c : Int), (i : Int)) 0
      have HS6 := Lib.hid hs6
      simp only [kE2] at hdel
      clear hs6
      go_wp2
      go_roundg (n - (q + 1))
      case measure => omega
      case rel =>
        refine ⟨q + 1, G1 ++ [g], G3, pts bz (.cells #[.int .i64 v.kind, .map (some v.nb), .map (some v.rb), .slice aa al ac] 143) * X, by rw [HG.out, List.append_assoc]; rfl, by simp [HQ.out], by omega, rfl, by go_num, ?_⟩
        have h7 := Sat.grp_mk (m := m) (v := v) (s := g.delR ((c : Int), (i : Int))) (HS6.out.of_eq (show _ = mapH Value.string Mean.val v.nb nn g.names * (mapH kE2 RegV.val v.rb rn (mdel f ((c : Int), (i : Int))) * (rowT v.av g.after * (grpsH m (V1 ++ V2) (G1.map (·.delR ((c : Int), (i : Int))) ++ G3) * ((pts bz (.cells #[.int .i64 v.kind, .map (some v.nb), .map (some v.rb), .slice aa al ac] 143) * X) * BASE)))) by rw [HBASE.out, HN.out]; ac_rfl)) HKAL.out (RepO.del HF.out _)
        have h8 := grps_mid_close HV.out (by rw [HV1.out, List.length_map, HQ.out]) h7
        rw [List.map_append, List.append_assoc]
        exact h8
    · obtain rfl : n = q := by omega
      have hG2 : G2 = [] := by
        have h1 := HG.out
        have h2 := HT.out.2.2.2.1
        have h3 := HN.out
        have h4 := HQ.out
        rw [h1] at h2
        simp at h2
        exact List.eq_nil_of_length_eq_zero (by omega)
      obtain ⟨S2, hS2⟩ : ∃ S2 : TabS, S2 = { S with groups := S.groups.map (·.delR ((c : Int), (i : Int))) } := ⟨_, rfl⟩
      have HS2 := Lib.hid hS2
      have hs3 := HX.out
      have HT0 := HT.out
      rw [HBASE.out, hG2, List.append_nil, show G1.map (·.delR ((c : Int), (i : Int))) = S2.groups by rw [hS2, HG.out, hG2, List.append_nil], show S.names = S2.names by rw [hS2]] at hs3
      have HT := Lib.hid (show (∀ j, j < 1536 → Rep m (R j) (S2.regs j) ∧ (S2.regs j).toks.length ≤ 20000) ∧ RdM m lt S2.later ∧ S2.later.length ≤ 20000 ∧ V.length = S2.groups.length ∧ S2.groups.length ≤ 200 from by
        rw [hS2]
        simpa only [List.length_map] using HT0)
      have HB := Lib.hid (hs3.of_eq (show _ = pts (bx + 1) (.cells #[.int .i64 c, .int .i64 i] 170) * (pts bx (valO ⟨zn, ⟨g1, g2, g3, g4, g5⟩, L⟩ (.slice sa k sc)) * (pts b (.cells (tabCells nm R (.slice ga V.length gc) lt) 64) * (roH m * (mapH Value.string Mean.val nm N S2.names * (row (.slice ga V.length gc) V.length 143 4 (flatG V) * (grpsH m V S2.groups * (X * F))))))) by ac_rfl))
      have HVV := Lib.hid (show ∀ w', Sat W (X * F) w' → RdT w' (.slice sa k sc) L from fun w' hw => HVV.out w' hw.r)
      have c0 := True.intro
      have v6 := HB.out.r.cell (i := 6) rfl
      have lv := HB.out.r.lt
      have lb := HB.out.r.r.lt
      clear hs3 HT0 hS2 HX
      go_upto_region 13 with fail
      have HCL := Lib.hid (clone_any (.slice sa k sc) L (fun w' h => HVV.out w' h.r.r.r.r.r.r.r) (by have := HL.out; (try simp only at this); omega) HB.out)
      clear c0
      go_wp2_with fail
      refine Calls.mono HCL.out ?_
      rintro e w3 ⟨u, rfl, h3⟩
      obtain ⟨ua, uc, hu, -⟩ := (rowT_rd h3).capd
      rw [HKK.out] at hu
      subst hu
      have h4 := h3.of_eq (show _ = pts bx (valO ⟨zn, ⟨g1, g2, g3, g4, g5⟩, L⟩ (.slice sa k sc)) * (pts b (.cells (tabCells nm R (.slice ga V.length gc) lt) 64) * (rowT (.slice ua k uc) L * (roH m * (mapH Value.string Mean.val nm N S2.names * (row (.slice ga V.length gc) V.length 143 4 (flatG V) * (grpsH m V S2.groups * (pts (bx + 1) (.cells #[.int .i64 c, .int .i64 i] 170) * (X * F)))))))) by ac_rfl)
      have e0 := h4.cell (i := 0) rfl
      have e1 := h4.cell (i := 1) rfl
      have e2 := h4.cell (i := 2) rfl
      have e3 := h4.cell (i := 3) rfl
      have e4 := h4.cell (i := 4) rfl
      have e5 := h4.cell (i := 5) rfl
      have e6 := h4.cell (i := 6) rfl
      have fe := h4.free (i := 6)
      have le := h4.lt
      have h5 := h4.set (i := 6) (v := .slice ua k uc)
      rw [show ((#[.int .i64 zn, .int .i64 g1, .int .i64 g2, .int .i64 g3, .int .i64 g4, .int .i64 g5, .slice sa k sc] : Array Value).setIfInBounds 6 (.slice ua k uc)) = #[.int .i64 zn, .int .i64 g1, .int .i64 g2, .int .i64 g3, .int .i64 g4, .int .i64 g5, .slice ua k uc] by simp] at h5
      have H5 := Lib.hid h5
      clear h3 h4 h5 v6
      go_upto_region 14 with fail
      generalize w3.setCell ⟨bx, 6, none⟩ (.slice ua k uc) = W4 at *
      obtain ⟨r0, r1, r2, r3, r4, r5, r6⟩ := reg_at H5.out.r hc hi
      clear e0 e1 e2 e3 e4 e5 e6 fe le
      have lt4 := H5.out.r.lt
      have f0 := H5.out.r.free (i := 1 + c * 1792 + i * 7)
      have f1 := H5.out.r.free (i := 1 + c * 1792 + i * 7 + 1)
      have f2 := H5.out.r.free (i := 1 + c * 1792 + i * 7 + 2)
      have f3 := H5.out.r.free (i := 1 + c * 1792 + i * 7 + 3)
      have f4 := H5.out.r.free (i := 1 + c * 1792 + i * 7 + 4)
      have f5 := H5.out.r.free (i := 1 + c * 1792 + i * 7 + 5)
      have f6 := H5.out.r.free (i := 1 + c * 1792 + i * 7 + 6)
      refine wp_region_E (fun w' => ∃ X, Sat W (pts bx (valO ⟨zn, ⟨g1, g2, g3, g4, g5⟩, L⟩ (.slice ua k uc)) * X) w') (by kernel_rfl) ?_
      refine wpE_take (i := 0) (q := 8) (v := ?_) rfl (by kernel_rfl) (by kernel_rfl) (by kernel_rfl) (by kernel_rfl) (by kernel_rfl) (fun _ _ _ h => h) (by rfl) ?_ ?_
      rotate_left 1
      · intro w hw; go_simp; try with_reducible rfl
      refine wpE_take (i := 1) (q := 8) (v := ?_) rfl (by kernel_rfl) (by kernel_rfl) (by kernel_rfl) (by kernel_rfl) (by kernel_rfl) (fun _ _ _ h => h) (by rfl) ?_ ?_
      rotate_left 1
      · intro w hw; go_simp; try with_reducible rfl
      refine wpE_take (i := 2) (q := 8) (v := ?_) rfl (by kernel_rfl) (by kernel_rfl) (by kernel_rfl) (by kernel_rfl) (by kernel_rfl) (fun _ _ _ h => h) (by rfl) ?_ ?_
      rotate_left 1
      · intro w hw; go_simp; try with_reducible rfl
      refine wpE_take (i := 3) (q := 8) (v := ?_) rfl (by kernel_rfl) (by kernel_rfl) (by kernel_rfl) (by kernel_rfl) (by kernel_rfl) (fun _ _ _ h => h) (by rfl) ?_ ?_
      rotate_left 1
      · intro w hw; (obtain ⟨X, hw⟩ := hw; have e0 := hw.cell (i := 0) rfl; have e1 := hw.cell (i := 1) rfl; have e2 := hw.cell (i := 2) rfl; have e3 := hw.cell (i := 3) rfl; have e4 := hw.cell (i := 4) rfl; have e5 := hw.cell (i := 5) rfl; have e6 := hw.cell (i := 6) rfl; go_simp; try with_reducible rfl)
      refine wpE_take (i := 4) (q := 5) (v := ?_) rfl (by kernel_rfl) (by kernel_rfl) (by kernel_rfl) (by kernel_rfl) (by kernel_rfl) (fun _ _ _ h => h) (by rfl) ?_ ?_
      rotate_left 1
      · intro w hw; go_simp; try with_reducible rfl
      refine wpE_take (i := 5) (q := 6) (v := ?_) rfl (by kernel_rfl) (by kernel_rfl) (by kernel_rfl) (by kernel_rfl) (by kernel_rfl) (fun _ _ _ h => h) (by rfl) ?_ ?_
      rotate_left 1
      · intro w hw; go_simp; try with_reducible rfl
      refine wpE_take (i := 6) (q := 7) (v := ?_) rfl (by kernel_rfl) (by kernel_rfl) (by kernel_rfl) (by kernel_rfl) (by kernel_rfl) (fun _ _ _ h => h) (by rfl) ?_ ?_
      rotate_left 1
      · intro w hw; go_simp; try with_reducible rfl
      refine wpE_take (i := 7) (q := 8) (v := ?_) rfl (by kernel_rfl) (by kernel_rfl) (by kernel_rfl) (by kernel_rfl) (by kernel_rfl) (fun _ _ _ h => h) (by rfl) ?_ ?_
      rotate_left 1
      · intro w hw; go_simp; try with_reducible rfl
      refine wpE_one (i := 8) rfl (by kernel_rfl) (⟨_, H5.out.drew⟩) (fun K hK => ?_)
      go_simp
      refine hK _ _ ?_
      clear hK K
      refine wpE_done (by kernel_rfl) (by kernel_rfl) ?_
      have h6 := H5.out.of_eq (show _ = pts b (.cells (tabCells nm R (.slice ga V.length gc) lt) 64) * (rowT (.slice ua k uc) L * (roH m * (mapH Value.string Mean.val nm N S2.names * (row (.slice ga V.length gc) V.length 143 4 (flatG V) * (grpsH m V S2.groups * (pts bx (valO ⟨zn, ⟨g1, g2, g3, g4, g5⟩, L⟩ (.slice ua k uc)) * (pts (bx + 1) (.cells #[.int .i64 c, .int .i64 i] 170) * (X * F)))))))) by ac_rfl)
      have HF := Lib.hid (put_end (v := ⟨zn, ⟨g1, g2, g3, g4, g5⟩, L⟩) (u := .slice ua k uc) (F := pts bx (valO ⟨zn, ⟨g1, g2, g3, g4, g5⟩, L⟩ (.slice ua k uc)) * (pts (bx + 1) (.cells #[.int .i64 c, .int .i64 i] 170) * (X * F))) hc hi HL.out HT.out h6)
      exact ⟨rfl, .tuple #[], by unfold results; go_simp, rfl, (by have h9 := HF.out.drewD.less.less.less; rw [HS2.out] at h9; exact h9)⟩

end Go.Proofs.Yticljfpippbkkaa

/-
  A table: Set. Conditions: those that each theorem names.
-/
namespace Go.Proofs.Yticljfpippbkkaa
open Go.RowKit Go.Sp
variable {W w w' : World} {F A : HProp}

/-- a table with a register put -/
noncomputable def putS (S : TabS) (c i : Nat) (v : RegS) : Bool → TabS
  | true => { S with regs := setS S.regs (c * 256 + i) v, groups := S.groups.map (·.delR ((c : Int), (i : Int))) }
  | false => { S with regs := setS S.regs (c * 256 + i) v, groups := S.groups.dropLast ++ (S.groups.getLast?.map (·.keepR ((c : Int), (i : Int)) (S.regs (c * 256 + i)))).toList }

theorem put_any {b N : Nat} {S : TabS} {c i : Nat} {v : RegS} {s : Value} (g : Bool) (hc : c ≤ 5) (hi : i < 256) (hl : v.toks.length ≤ 20000) (hv : ∀ w', Sat W F w' → RdT w' s v.toks) (h : TabAt W F b N S w) :
    Calls Try.prog 64 #[.pointer (some ⟨b, 0, none⟩), .int .i64 c, .int .i64 i, valA v s, .bool g] w fun e w' => e = .returned (.tuple #[]) ∧ TabAt W F b N (putS S c i v g) w' := by
  cases g with
  | true => exact put_glob hc hi hl hv h
  | false =>
    rcases List.eq_nil_or_concat S.groups with hg | ⟨S0, g, hg⟩
    · have := put_flat hc hi hg hl hv h
      rw [putS, hg]
      simp only [List.dropLast_nil, List.getLast?_nil, Option.map_none, Option.toList_none, List.nil_append]
      rw [← hg]
      exact this
    · rw [List.concat_eq_append] at hg
      have := put_loc S0 g hg hc hi hl hv h
      rw [putS, hg, List.dropLast_concat, List.getLast?_concat]
      exact this

def setE (c i : Int) (v : RegS) : Int := if wrongE c i ≠ 0 then wrongE c i else if rightM c v = true then 0 else 1
noncomputable def setT (S : TabS) (c i : Int) (v : RegS) (g : Bool) : TabS := if setE c i v = 0 then putS S c.toNat i.toNat v g else S

theorem wrongE_nat {c i : Int} (h : wrongE c i = 0) : ∃ c' i' : Nat, c = c' ∧ i = i' ∧ 1 ≤ c' ∧ c' ≤ 5 ∧ i' < 256 := by
  rw [wrongE] at h
  split at h
  · omega
  · split at h
    · omega
    · exact ⟨c.toNat, i.toNat, by omega, by omega, by omega, by omega, by omega⟩

theorem rightM_len {c : Int} {v : RegS} (h : rightM c v = true) : v.toks.length ≤ 20000 := by
  unfold rightM bareN bareG bareT at h
  repeat' split at h
  all_goals (simp only [Bool.and_eq_true, beq_iff_eq, decide_eq_true_eq] at h; omega)

theorem TabAt.allocX {b N : Nat} {S : TabS} (h : TabAt W F b N S w) (o : Obj) : TabAt W (pts w.heap.size o * F) b N S (w.alloc o) := by
  obtain ⟨m, nm, gs, lt, R, V, h1, h2⟩ := h
  exact ⟨m, nm, gs, lt, R, V, h1, (h2.alloc o).of_eq (by ac_rfl)⟩


set_option maxRecDepth 100000 in
set_option maxHeartbeats 4000000 in
theorem set_any {b N : Nat} {S : TabS} (c i : Int) {v : RegS} {s : Value} (g : Bool) (hv : ∀ w', Sat W F w' → RdT w' s v.toks) (h : TabAt W F b N S w) :
    Calls Try.prog 41 #[.pointer (some ⟨b, 0, none⟩), .int .i64 c, .int .i64 i, valA v s, .bool g] w fun e w' => e = .returned (.int .i64 (setE c i v)) ∧ TabAt W F b N (setT S c i v g) w' := by
  obtain ⟨sa, sc, rfl⟩ := (hv w h.sat).val
  have hb := h.allocX (valO v (.slice sa v.toks.length sc))
  obtain ⟨bv, hbv⟩ : ∃ bv, w.heap.size = bv := ⟨_, rfl⟩
  rw [hbv] at hb
  have HV := Lib.hid (show ∀ w', Sat W (pts bv (valO v (.slice sa v.toks.length sc)) * F) w' → RdT w' (.slice sa v.toks.length sc) v.toks from fun w' h => hv w' h.r)
  have HW := Lib.hid (wrong_any c i hb)
  have HR := Lib.hid (show ∀ w', Sat W (pts bv (valO v (.slice sa v.toks.length sc)) * F) w' → _ from fun w' h => right_any w' (HV.out w' h) c)
  have c0 := hb.sat.cell (i := 0) rfl
  have c1 := hb.sat.cell (i := 1) rfl
  have c2 := hb.sat.cell (i := 2) rfl
  have c3 := hb.sat.cell (i := 3) rfl
  have c4 := hb.sat.cell (i := 4) rfl
  have c5 := hb.sat.cell (i := 5) rfl
  have c6 := hb.sat.cell (i := 6) rfl
  have lv := hb.sat.lt
  have HB := Lib.hid hb
  by_cases hw : wrongE c i = 0
  · obtain ⟨c', i', rfl, rfl, i1, i2, i3⟩ := wrongE_nat hw
    rw [hw] at HW
    by_cases hr : rightM (c' : Int) v = true
    · have e1 : setE (c' : Int) (i' : Int) v = 0 := by rw [setE, if_neg (by omega), if_pos hr]
      rw [e1, setT, if_pos e1, Int.toNat_natCast, Int.toNat_natCast]
      rw [hr] at HR
      have HP := Lib.hid (show ∀ w1, Ext (w.alloc (valO v (.slice sa v.toks.length sc))) w1 → _ from fun w1 hx => put_any g i2 i3 (rightM_len hr) HV.out (HB.out.ext hx))
      obtain ⟨n, ⟨g1, g2, g3, g4, g5⟩, L⟩ := v
      simp only [valA] at *
      obtain ⟨k, hk⟩ : ∃ k, L.length = k := ⟨_, rfl⟩
      simp only [hk] at *
      clear h hv hr hw e1 hb
      go_enter Try.func41, Try.ntmps41
      go_wp2_with fail
      refine Calls.mono HW.out ?_
      rintro e w' ⟨rfl, rfl⟩
      generalize w.alloc (.cells #[.int .i64 n, .int .i64 g1, .int .i64 g2, .int .i64 g3, .int .i64 g4, .int .i64 g5, .slice sa k sc] 59) = W1 at *
      go_wp2_with fail
      refine Calls.mono (HR.out _ HB.out.sat) ?_
      rintro e w2 ⟨rfl, hx⟩
      have d0 := hx.cell c0
      have d1 := hx.cell c1
      have d2 := hx.cell c2
      have d3 := hx.cell c3
      have d4 := hx.cell c4
      have d5 := hx.cell c5
      have d6 := hx.cell c6
      have HX := Lib.hid hx
      clear c0 c1 c2 c3 c4 c5 c6 lv hx
      go_wp2_with fail
      refine Calls.mono (HP.out _ HX.out) ?_
      rintro e w3 ⟨rfl, h3⟩
      have H3 := Lib.hid h3
      clear h3 d0 d1 d2 d3 d4 d5 d6
      go_wp2
      go_ret
      exact ⟨rfl, H3.out.less⟩
    · have e1 : setE (c' : Int) (i' : Int) v = 1 := by rw [setE, if_neg (by omega), if_neg hr]
      rw [e1, setT, if_neg (by omega)]
      simp only [Bool.not_eq_true] at hr
      rw [hr] at HR
      obtain ⟨n, ⟨g1, g2, g3, g4, g5⟩, L⟩ := v
      simp only [valA] at *
      obtain ⟨k, hk⟩ : ∃ k, L.length = k := ⟨_, rfl⟩
      simp only [hk] at *
      clear h hv hr hw e1 hb
      go_enter Try.func41, Try.ntmps41
      go_wp2_with fail
      refine Calls.mono HW.out ?_
      rintro e w' ⟨rfl, rfl⟩
      generalize w.alloc (.cells #[.int .i64 n, .int .i64 g1, .int .i64 g2, .int .i64 g3, .int .i64 g4, .int .i64 g5, .slice sa k sc] 59) = W1 at *
      go_wp2_with fail
      refine Calls.mono (HR.out _ HB.out.sat) ?_
      rintro e w2 ⟨rfl, hx⟩
      have H3 := Lib.hid (HB.out.ext hx)
      clear c0 c1 c2 c3 c4 c5 c6 lv hx
      go_wp2
      go_ret
      exact ⟨rfl, H3.out.less⟩
  · have e1 : setE c i v = wrongE c i := by rw [setE, if_pos hw]
    rw [e1, setT, if_neg (by omega)]
    have q1 : (wrongE c i == 0) = false := by rw [beq_eq_false_iff_ne]; exact hw
    generalize wrongE c i = er at *
    obtain ⟨n, ⟨g1, g2, g3, g4, g5⟩, L⟩ := v
    simp only [valA] at *
    obtain ⟨k, hk⟩ : ∃ k, L.length = k := ⟨_, rfl⟩
    simp only [hk] at *
    clear h hv hw e1 hb
    go_enter Try.func41, Try.ntmps41
    go_wp2_with fail
    refine Calls.mono HW.out ?_
    rintro e w' ⟨rfl, rfl⟩
    generalize w.alloc (.cells #[.int .i64 n, .int .i64 g1, .int .i64 g2, .int .i64 g3, .int .i64 g4, .int .i64 g5, .slice sa k sc] 59) = W1 at *
    go_wp2
    go_ret
    exact ⟨rfl, HB.out.less⟩

end Go.Proofs.Yticljfpippbkkaa
