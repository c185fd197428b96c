
/-
  The law's apply: a call that changes something. Conditions: those that each theorem names.
-/
import Derived.Test.YtebggkgciocciaaTabAG
namespace Go.Proofs.Ytebggkgciocciaa
open Go.RowKit Go.Sp
variable {W w w' : World} {F A : HProp}

theorem TabAt.call {b N : Nat} {S : TabS} (h : TabAt W F b N S w) (k : Sat w (A * own w) w') : TabAt W (A * F) b N S w' := by
  obtain ⟨Y, h1, h2⟩ := h.focus
  exact h2 _ _ (Sat.frame h1 k).asc'

structure OpS where
  kind : Int
  cls : Int
  i : Int
  n : Int
  name : ByteArray
  m : Mean
  v : RegS
  x : Tok
  glob : Bool
abbrev OpS.cells (o : OpS) (s : Value) : Array Value := #[.int .i64 o.kind, .int .i64 o.cls, .int .i64 o.i, .int .i64 o.n, .string o.name, .int .i64 o.m.kind, .int .i64 o.m.cls, .int .i64 o.m.code, .int .i64 o.m.cat, .string o.m.text,
  .int .i64 o.v.n, .int .i64 o.v.g.nat, .int .i64 o.v.g.stretch, .int .i64 o.v.g.shrink, .int .i64 o.v.g.so, .int .i64 o.v.g.ko, s, .int .i64 o.x.cat, .int .u8 o.x.chr.toNat, .string o.x.name, .bool o.glob]
abbrev OpS.val (o : OpS) (s : Value) : Value := .agg (o.cells s)

/-- the keys of all groups' registers are registers -/
def TabS.ok (S : TabS) : Prop := ∀ g ∈ S.groups, g.keysOK

/-- what a step makes of a table -/
inductive StepR (o : OpS) (g : Bool) (S : TabS) : TabS → Prop
  | none : StepR o g S S
  | begun (k : Int) : o.kind = 1 → StepR o g S (beginS S k)
  | ended (S0 : List GrpS) (gr : GrpS) : o.kind = 2 → S.groups = S0 ++ [gr] → StepR o g S (S.ended S0 gr)
  | defined (E : Int) (S' : TabS) : DefR S S' o.name o.m g E → StepR o g S S'
  | set : StepR o g S (setT S o.cls o.i o.v g)
  | arith (E er : Int) (z : Int → Int) (ok : Prop) (S' : TabS) : ArithR S S' o.cls o.i g E z ok er → StepR o g S S'


set_option maxRecDepth 100000 in
set_option maxHeartbeats 8000000 in
theorem apply_any {b N : Nat} {S : TabS} (o : OpS) (s : Value) (g : Bool) (hok : S.ok) (hl : o.v.toks.length ≤ 1000000000) (hv : ∀ w', Sat W F w' → RdT w' s o.v.toks) (h : TabAt W F b N S w) :
    Calls Try.prog 20 #[.pointer (some ⟨b, 0, none⟩), o.val s, .bool g] w fun e w' => e = .returned (.tuple #[]) ∧ ∃ S' N', StepR o g S S' ∧ TabAt W F b N' S' w' := by
  obtain ⟨sa, sc, rfl⟩ := (hv w h.sat).val
  have hb := h.allocX (.cells (o.cells (.slice sa o.v.toks.length sc)) 50)
  obtain ⟨bo, hbo⟩ : ∃ bo, w.heap.size = bo := ⟨_, rfl⟩
  rw [hbo] at hb
  have HGV := Lib.hid (given_any o.v (.slice sa o.v.toks.length sc) _ (hv _ hb.sat.r) hl)
  have HRD := Lib.hid hv
  have HB := Lib.hid hb
  have HST := Lib.hid (show ∀ S', StepR o g S S' → StepR o g S S' from fun _ h => h)
  have HOK := Lib.hid hok
  obtain ⟨kd, cl, i, n, name, ⟨m1, m2, m3, m4, m5⟩, ⟨vn, ⟨g1, g2, g3, g4, g5⟩, L⟩, ⟨x1, x2, x3⟩, gl⟩ := o
  simp only [valA] at *
  obtain ⟨k, hk⟩ : ∃ k, L.length = k := ⟨_, rfl⟩
  simp only [hk] at HGV HB HRD hb ⊢
  have p0 := hb.sat.cell (i := 0) rfl
  have v0 := hb.sat.cell (i := 10) rfl
  have v1 := hb.sat.cell (i := 11) rfl
  have v2 := hb.sat.cell (i := 12) rfl
  have v3 := hb.sat.cell (i := 13) rfl
  have v4 := hb.sat.cell (i := 14) rfl
  have v5 := hb.sat.cell (i := 15) rfl
  have v6 := hb.sat.cell (i := 16) rfl
  have lo := hb.sat.lt
  clear h hv hl hb hok
  go_enter Try.func20, Try.ntmps20
  go_wp2_with fail
  refine Calls.mono HGV.out ?_
  rintro e w2 ⟨u, rfl, hx⟩
  have H2 := Lib.hid (HB.out.call hx)
  clear hx p0 v0 v1 v2 v3 v4 v5 v6 lo
  obtain ⟨ua, uc, hu⟩ := H2.out.sat.rowT_value
  rw [hk] at hu
  subst hu
  have h3 := H2.out.allocX (.cells #[.int .i64 vn, .int .i64 g1, .int .i64 g2, .int .i64 g3, .int .i64 g4, .int .i64 g5, .slice ua k uc] 40)
  obtain ⟨bv, hbv⟩ : ∃ bv, w2.heap.size = bv := ⟨_, rfl⟩
  rw [hbv] at h3
  have H3 := Lib.hid h3
  have HKK := Lib.hid hk
  have HRU := Lib.hid (show ∀ w', Sat W (pts bv (.cells #[.int .i64 vn, .int .i64 g1, .int .i64 g2, .int .i64 g3, .int .i64 g4, .int .i64 g5, .slice ua k uc] 40) * (rowT (.slice ua k uc) L * (pts bo (.cells #[.int .i64 kd, .int .i64 cl, .int .i64 i, .int .i64 n, .string name, .int .i64 m1, .int .i64 m2, .int .i64 m3, .int .i64 m4, .string m5, .int .i64 vn, .int .i64 g1, .int .i64 g2, .int .i64 g3, .int .i64 g4, .int .i64 g5, .slice sa k sc, .int .i64 x1, .int .u8 x2.toNat, .string x3, .bool gl] 50) * F))) w' → RdT w' (.slice ua k uc) L from fun w' h => rowT_rd h.r)
  clear h3 H2 hk
  go_upto_region 2 with fail
  generalize w2.alloc (.cells #[.int .i64 vn, .int .i64 g1, .int .i64 g2, .int .i64 g3, .int .i64 g4, .int .i64 g5, .slice ua k uc] 40) = W3 at *
  clear hbv hbo HB HGV
  have d0 := H3.out.sat.cell (i := 0) rfl
  have d1 := H3.out.sat.cell (i := 1) rfl
  have d2 := H3.out.sat.cell (i := 2) rfl
  have d3 := H3.out.sat.cell (i := 3) rfl
  have d4 := H3.out.sat.cell (i := 4) rfl
  have d5 := H3.out.sat.cell (i := 5) rfl
  have d6 := H3.out.sat.cell (i := 6) rfl
  have ld := H3.out.sat.lt
  have p0 := H3.out.sat.r.r.cell (i := 0) rfl
  have p1 := H3.out.sat.r.r.cell (i := 1) rfl
  have p2 := H3.out.sat.r.r.cell (i := 2) rfl
  have p3 := H3.out.sat.r.r.cell (i := 3) rfl
  have lo := H3.out.sat.r.r.lt
  by_cases h1 : kd = 1
  · subst h1
    have HC := Lib.hid (begin_any n H3.out)
    go_wp2_with fail
    refine Calls.mono HC.out ?_
    rintro e w4 ⟨rfl, h4⟩
    have H4 := Lib.hid h4
    clear h4
    go_wp2
    exact ⟨rfl, .tuple #[], by unfold results; go_simp, rfl, _, N, (StepR.begun n rfl), H4.out.less.less.less⟩
  · have k1 : (kd == 1) = false := by rw [beq_eq_false_iff_ne]; exact h1
    by_cases h2 : kd = 2
    · subst h2
      rcases List.eq_nil_or_concat S.groups with hg | ⟨S0, gr, hg⟩
      · have HC := Lib.hid (end_none hg H3.out)
        go_wp2_with fail
        refine Calls.mono HC.out ?_
        rintro e w4 ⟨rfl, rfl⟩
        go_wp2
        exact ⟨rfl, .tuple #[], by unfold results; go_simp, rfl, S, N, StepR.none, H3.out.less.less.less⟩
      · rw [List.concat_eq_append] at hg
        have HC := Lib.hid (end_some S0 gr hg (HOK.out gr (by rw [hg]; simp)) H3.out)
        go_wp2_with fail
        refine Calls.mono HC.out ?_
        rintro e w4 ⟨rfl, N', h4⟩
        have H4 := Lib.hid h4
        clear h4
        go_wp2
        exact ⟨rfl, .tuple #[], by unfold results; go_simp, rfl, _, N', (StepR.ended S0 gr rfl hg), H4.out.less.less.less⟩
    · have k2 : (kd == 2) = false := by rw [beq_eq_false_iff_ne]; exact h2
      by_cases h3 : kd = 3
      · subst h3
        clear d0 d1 d2 d3 d4 d5 d6 ld p1 p2 p3
        go_upto_region 8 with fail
        clear p0 lo
        obtain ⟨C, hC⟩ : ∃ C : World → Prop, C = fun w' => ∃ X, Sat W (pts bo (.cells #[.int .i64 3, .int .i64 cl, .int .i64 i, .int .i64 n, .string name, .int .i64 m1, .int .i64 m2, .int .i64 m3, .int .i64 m4, .string m5, .int .i64 vn, .int .i64 g1, .int .i64 g2, .int .i64 g3, .int .i64 g4, .int .i64 g5, .slice sa k sc, .int .i64 x1, .int .u8 x2.toNat, .string x3, .bool gl] 50) * X) w' := ⟨_, rfl⟩
        have HC := Lib.hid (show ∀ w', C w' → w'.cell? ⟨bo, 4, none⟩ = some (.string name) ∧ w'.cell? ⟨bo, 5, none⟩ = some (.int .i64 m1) ∧ w'.cell? ⟨bo, 6, none⟩ = some (.int .i64 m2) ∧ w'.cell? ⟨bo, 7, none⟩ = some (.int .i64 m3) ∧ w'.cell? ⟨bo, 8, none⟩ = some (.int .i64 m4) ∧ w'.cell? ⟨bo, 9, none⟩ = some (.string m5) from fun w' h => by
          rw [hC] at h
          obtain ⟨X, h⟩ := h
          exact ⟨h.cell rfl, h.cell rfl, h.cell rfl, h.cell rfl, h.cell rfl, h.cell rfl⟩)
        have HC2 := Lib.hid (show ∀ X w', Sat W (pts bo (.cells #[.int .i64 3, .int .i64 cl, .int .i64 i, .int .i64 n, .string name, .int .i64 m1, .int .i64 m2, .int .i64 m3, .int .i64 m4, .string m5, .int .i64 vn, .int .i64 g1, .int .i64 g2, .int .i64 g3, .int .i64 g4, .int .i64 g5, .slice sa k sc, .int .i64 x1, .int .u8 x2.toNat, .string x3, .bool gl] 50) * X) w' → C w' from fun X w' h => by rw [hC]; exact ⟨X, h⟩)
        have H4 := Lib.hid H3.out.drewD
        clear hC H3
        refine wp_region_E C (by kernel_rfl) ?_
        generalize W3.drew = W4 at *
        refine wpE_take (i := 0) (q := 7) (v := ?_) rfl (by kernel_rfl) (by kernel_rfl) (by kernel_rfl) (by kernel_rfl) (by kernel_rfl) (fun _ _ _ h => h) (by rfl) ?_ ?_
        rotate_left 1
        · intro w hw; go_simp; try with_reducible rfl
        refine wpE_take (i := 1) (q := 2) (v := ?_) rfl (by kernel_rfl) (by kernel_rfl) (by kernel_rfl) (by kernel_rfl) (by kernel_rfl) (fun _ _ _ h => h) (by rfl) ?_ ?_
        rotate_left 1
        · intro w hw; go_simp; try with_reducible rfl
        refine wpE_take (i := 2) (q := 7) (v := ?_) rfl (by kernel_rfl) (by kernel_rfl) (by kernel_rfl) (by kernel_rfl) (by kernel_rfl) (fun _ _ _ h => h) (by rfl) ?_ ?_
        rotate_left 1
        · intro w hw; (obtain ⟨e1, e2, e3, e4, e5, e6⟩ := HC.out _ hw; go_simp; try with_reducible rfl)
        refine wpE_take (i := 3) (q := 4) (v := ?_) rfl (by kernel_rfl) (by kernel_rfl) (by kernel_rfl) (by kernel_rfl) (by kernel_rfl) (fun _ _ _ h => h) (by rfl) ?_ ?_
        rotate_left 1
        · intro w hw; go_simp; try with_reducible rfl
        refine wpE_take (i := 4) (q := 5) (v := ?_) rfl (by kernel_rfl) (by kernel_rfl) (by kernel_rfl) (by kernel_rfl) (by kernel_rfl) (fun _ _ _ h => h) (by rfl) ?_ ?_
        rotate_left 1
        · intro w hw; (obtain ⟨e1, e2, e3, e4, e5, e6⟩ := HC.out _ hw; go_simp; try with_reducible rfl)
        refine wpE_take (i := 6) (q := 7) (v := ?_) rfl (by kernel_rfl) (by kernel_rfl) (by kernel_rfl) (by kernel_rfl) (by kernel_rfl) (fun _ _ _ h => h) (by rfl) ?_ ?_
        rotate_left 1
        · intro w hw; go_simp; try with_reducible rfl
        refine wpE_one (i := 5) rfl (by kernel_rfl) (HC2.out _ _ H4.out.sat.r.r) (fun K hK => ?_)
        go_simp
        refine Calls.mono (meaning_any ⟨m1, m2, m3, m4, m5⟩ _) ?_
        rintro e w5 ⟨rfl, hx⟩
        have H5 := Lib.hid (H4.out.ext hx)
        clear hx H4
        go_simp
        refine hK _ _ ?_
        clear hK K
        refine wpE_one (i := 7) rfl (by kernel_rfl) (HC2.out _ _ H5.out.sat.r.r) (fun K hK => ?_)
        go_simp
        refine Calls.mono (define_any name ⟨m1, m2, m3, m4, m5⟩ g H5.out) ?_
        rintro e w6 ⟨E, S', N', rfl, hd, h6⟩
        have HDR := Lib.hid hd
        have H6 := Lib.hid h6
        clear hd h6 H5
        go_simp
        refine hK _ _ ?_
        clear hK K
        refine wpE_done (by kernel_rfl) (by kernel_rfl) ?_
        (try go_wp2)
        exact ⟨rfl, .tuple #[], by unfold results; go_simp, rfl, S', N', StepR.defined _ _ HDR.out, H6.out.less.less.less⟩
      · have k3 : (kd == 3) = false := by rw [beq_eq_false_iff_ne]; exact h3
        by_cases h4 : kd = 4
        · subst h4
          have HC := Lib.hid (set_any cl i (v := ⟨vn, ⟨g1, g2, g3, g4, g5⟩, L⟩) (s := .slice ua k uc) g HRU.out H3.out)
          simp only [valA] at HC
          go_wp2_with fail
          refine Calls.mono HC.out ?_
          rintro e w4 ⟨rfl, h4⟩
          have H4 := Lib.hid h4
          clear h4
          go_wp2
          exact ⟨rfl, .tuple #[], by unfold results; go_simp, rfl, _, N, StepR.set, H4.out.less.less.less⟩
        · have k4 : (kd == 4) = false := by rw [beq_eq_false_iff_ne]; exact h4
          by_cases h5 : kd = 5
          · subst h5
            have HC := Lib.hid (advance_any cl i (v := ⟨vn, ⟨g1, g2, g3, g4, g5⟩, L⟩) (s := .slice ua k uc) g HRU.out H3.out)
            simp only [valA] at HC
            go_wp2_with fail
            refine Calls.mono HC.out ?_
            rintro e w4 ⟨E, S', rfl, har, h4⟩
            have HAR := Lib.hid har
            have H4 := Lib.hid h4
            clear h4 har
            go_wp2
            exact ⟨rfl, .tuple #[], by unfold results; go_simp, rfl, S', N, (StepR.arith _ _ _ _ _ HAR.out), H4.out.less.less.less⟩
          · have k5 : (kd == 5) = false := by rw [beq_eq_false_iff_ne]; exact h5
            by_cases h6 : kd = 6
            · subst h6
              have HC := Lib.hid (multiply_any cl i n g H3.out)
              go_wp2_with fail
              refine Calls.mono HC.out ?_
              rintro e w4 ⟨E, S', rfl, har, h4⟩
              have HAR := Lib.hid har
              have H4 := Lib.hid h4
              clear h4 har
              go_wp2
              exact ⟨rfl, .tuple #[], by unfold results; go_simp, rfl, S', N, (StepR.arith _ _ _ _ _ HAR.out), H4.out.less.less.less⟩
            · have k6 : (kd == 6) = false := by rw [beq_eq_false_iff_ne]; exact h6
              by_cases h7 : kd = 7
              · subst h7
                have HC := Lib.hid (divide_any cl i n g H3.out)
                go_wp2_with fail
                refine Calls.mono HC.out ?_
                rintro e w4 ⟨E, S', rfl, har, h4⟩
                have HAR := Lib.hid har
                have H4 := Lib.hid h4
                clear h4 har
                go_wp2
                exact ⟨rfl, .tuple #[], by unfold results; go_simp, rfl, S', N, (StepR.arith _ _ _ _ _ HAR.out), H4.out.less.less.less⟩
              · have k7 : (kd == 7) = false := by rw [beq_eq_false_iff_ne]; exact h7
                go_wp2
                exact ⟨rfl, .tuple #[], by unfold results; go_simp, rfl, S, N, StepR.none, H3.out.less.less.less⟩

end Go.Proofs.Ytebggkgciocciaa
