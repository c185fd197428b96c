
/-
  A table: Define in a group. Conditions: those that each theorem names.
-/
import Derived.Test.YtebggkgciocciaaTabAE
namespace Go.Proofs.Ytebggkgciocciaa
open Go.RowKit Go.Sp
variable {W w w' : World} {F A : HProp}


set_option maxRecDepth 100000 in
set_option maxHeartbeats 8000000 in
theorem def_loc {b N : Nat} {S : TabS} (k : ByteArray) (m : Mean) (S0 : List GrpS) (g : GrpS) (hS : S.groups = S0 ++ [g]) (h : TabAt W F b N S w) :
    Calls Try.prog 22 #[.pointer (some ⟨b, 0, none⟩), .string k, m.val, .bool false] w fun e w' => ∃ E S' N', e = .returned (.int .i64 E) ∧ DefR S S' k m false E ∧ TabAt W F b N' S' w' := by
  obtain ⟨m1, m2, m3, m4, m5⟩ := m
  have hK : KeyT Try.prog 9 Value.string := keyT_string Try.underlying9
  have hb := h.allocX (.cells #[.int .i64 m1, .int .i64 m2, .int .i64 m3, .int .i64 m4, .string m5] 52)
  obtain ⟨b6, hb6⟩ : ∃ b6, w.heap.size = b6 := ⟨_, rfl⟩
  rw [hb6] at hb
  have HB := Lib.hid hb
  have HG := Lib.hid (good_any hb)
  have HMR := Lib.hid (mright_any ⟨m1, m2, m3, m4, m5⟩ (w.alloc (.cells #[.int .i64 m1, .int .i64 m2, .int .i64 m3, .int .i64 m4, .string m5] 52)))
  have x0 := hb.sat.cell (i := 0) rfl
  have x1 := hb.sat.cell (i := 1) rfl
  have x2 := hb.sat.cell (i := 2) rfl
  have x3 := hb.sat.cell (i := 3) rfl
  have x4 := hb.sat.cell (i := 4) rfl
  have lx := hb.sat.lt
  have HNO := Lib.hid (show ∀ E : Int, E ≠ 0 → DefR S S k ⟨m1, m2, m3, m4, m5⟩ false E from fun E h => .inl ⟨h, rfl⟩)
  clear h hb
  go_enter Try.func22, Try.ntmps22
  go_wp2_with fail
  refine Calls.mono HG.out ?_
  rintro e w' ⟨rfl, rfl⟩
  generalize w.alloc (.cells #[.int .i64 m1, .int .i64 m2, .int .i64 m3, .int .i64 m4, .string m5] 52) = W1 at *
  go_wp2_with fail
  refine Calls.mono HMR.out ?_
  rintro e w2 ⟨⟨r, rfl⟩, hx⟩
  have H2 := Lib.hid (HB.out.ext hx)
  clear x0 x1 x2 x3 x4 lx hx HB hb6
  rcases r with _ | _
  · go_wp2
    go_ret
    exact ⟨1, S, N, rfl, HNO.out 1 (by decide), H2.out.less⟩
  obtain ⟨lk, hlk⟩ : ∃ lk, lookN S.names k = lk := ⟨_, rfl⟩
  have HLK := Lib.hid hlk
  clear hlk
  obtain ⟨ro, nm, gs, lt, R, V, hT, hs⟩ := H2.out
  have hl := Sat.map_look hK Try.underlying63 zero_mean (hs.of_eq (show _ = mapH Value.string Mean.val nm N S.names * (pts b (.cells (tabCells nm R gs lt) 68) * (roH ro * (row gs V.length 71 4 (flatG V) * (grpsH ro V S.groups * (pts b6 (.cells #[.int .i64 m1, .int .i64 m2, .int .i64 m3, .int .i64 m4, .string m5] 52) * F))))) by ac_rfl)) k false
  simp only [Bool.false_eq_true, if_false, lookN_val, HLK.out] at hl
  have hln := Sat.map_len Try.underlying63 ((hs.allocD (o := .cells #[.int .i64 lk.kind, .int .i64 lk.cls, .int .i64 lk.code, .int .i64 lk.cat, .string lk.text] 52)).of_eq (show _ = mapH Value.string Mean.val nm N S.names * (pts b (.cells (tabCells nm R gs lt) 68) * (roH ro * (row gs V.length 71 4 (flatG V) * (grpsH ro V S.groups * (pts b6 (.cells #[.int .i64 m1, .int .i64 m2, .int .i64 m3, .int .i64 m4, .string m5] 52) * F))))) by ac_rfl)) 3
  obtain ⟨len, -, hln⟩ := hln
  have c0 := hs.cell (i := 0) (tab_names nm R gs lt)
  have lb := hs.lt
  have y0 := H2.out.sat.cell (i := 0) rfl
  have y1 := H2.out.sat.cell (i := 1) rfl
  have y2 := H2.out.sat.cell (i := 2) rfl
  have y3 := H2.out.sat.cell (i := 3) rfl
  have y4 := H2.out.sat.cell (i := 4) rfl
  have ly := H2.out.sat.lt
  have H3 := Lib.hid (H2.out.allocX (.cells #[.int .i64 lk.kind, .int .i64 lk.cls, .int .i64 lk.code, .int .i64 lk.cat, .string lk.text] 52))
  obtain ⟨o1, o2, o3, o4, o5⟩ := lk
  simp only [Mean.val] at hl
  simp only at H3 hln
  obtain ⟨b9, hb9⟩ : ∃ b9, w2.heap.size = b9 := ⟨_, rfl⟩
  rw [hb9] at H3
  have q1 := fun w => run_eql_mean w ⟨o1, o2, o3, o4, o5⟩ mean0
  have q2 := fun w => run_neq_mean w ⟨m1, m2, m3, m4, m5⟩ mean0
  simp only [Mean.val, mean0] at q1 q2
  generalize meanB ⟨o1, o2, o3, o4, o5⟩ ⟨0, 0, 0, 0, ⟨#[]⟩⟩ = zo at q1
  generalize meanB ⟨m1, m2, m3, m4, m5⟩ ⟨0, 0, 0, 0, ⟨#[]⟩⟩ = zm at q2
  have HNM0 := Lib.hid (show ∃ (gs' : Value) (ro' : HProp) (lt' : Value) (R' : Nat → RegV) (V' : Nat), Sat W (pts b (.cells (tabCells nm R' gs' lt') 68) * ro') (w2.alloc (.cells #[.int .i64 o1, .int .i64 o2, .int .i64 o3, .int .i64 o4, .string o5] 52)) from ⟨gs, _, lt, R, 0, hs.allocD⟩)
  clear hs hT H2 HMR HG
  go_upto_region 4 with fail
  generalize w2.alloc (.cells #[.int .i64 o1, .int .i64 o2, .int .i64 o3, .int .i64 o4, .string o5] 52) = W3 at *
  clear hb9 hl c0 lb y0 y1 y2 y3 y4 ly
  have d0 := H3.out.sat.cell (i := 0) rfl
  have d1 := H3.out.sat.cell (i := 1) rfl
  have d2 := H3.out.sat.cell (i := 2) rfl
  have d3 := H3.out.sat.cell (i := 3) rfl
  have d4 := H3.out.sat.cell (i := 4) rfl
  have ld := H3.out.sat.lt
  have y0 := H3.out.sat.r.cell (i := 0) rfl
  have y1 := H3.out.sat.r.cell (i := 1) rfl
  have y2 := H3.out.sat.r.cell (i := 2) rfl
  have y3 := H3.out.sat.r.cell (i := 3) rfl
  have y4 := H3.out.sat.r.cell (i := 4) rfl
  have ly := H3.out.sat.r.lt
  have c0 : W3.cell? ⟨b, 0, none⟩ = some (.map (some nm)) := by
    obtain ⟨gs', ro', lt', R', V', hs'⟩ := HNM0.out
    exact hs'.cell (i := 0) (tab_names nm R' gs' lt')
  have lb : b < W3.heap.size := by
    obtain ⟨gs', ro', lt', R', V', hs'⟩ := HNM0.out
    exact hs'.lt
  go_cut [44] from 29 to 45 (fun s44 wx => ∃ r : Bool, s44 = .bool r ∧ W3 = wx)
  case first => as_aux_lemma =>
    rcases zo with _ | _
    · go_wp2
      go_meet
      exact ⟨_, rfl, rfl⟩
    · rcases zm with _ | _
      · go_wp2
        go_meet
        exact ⟨_, rfl, rfl⟩
      · go_wp2
        go_meet
        exact ⟨_, rfl, rfl⟩
  case rest =>
    obtain ⟨r, rfl, rfl⟩ := hcut
    rcases r with _ | _
    · clear d0 d1 d2 d3 d4 ld y0 y1 y2 y3 y4 ly c0 lb HNM0 q1 q2
      obtain ⟨F3, hF3⟩ : ∃ F3, F3 = pts b9 (.cells #[.int .i64 o1, .int .i64 o2, .int .i64 o3, .int .i64 o4, .string o5] 52) * (pts b6 (.cells #[.int .i64 m1, .int .i64 m2, .int .i64 m3, .int .i64 m4, .string m5] 52) * F) := ⟨_, rfl⟩
      have HF3 := Lib.hid hF3
      rw [← hF3] at H3
      obtain ⟨ro', nm', lt', R', V0, v, f, gb, cap, nn, rn, hO, hs⟩ := H3.out.open1 hS
      have HO := Lib.hid hO
      obtain ⟨n, hn⟩ : ∃ n, S0.length = n := ⟨_, rfl⟩
      rw [hn] at hs
      have HN := Lib.hid hn
      have hget := flatG_get (V0 ++ [v]) n 1 (.map (some v.nb)) (by simp [hO.len, hn]) (by rw [List.getElem_append_right (by rw [hO.len]; omega)]; simp [hO.len, hn, GrpV.cells])
      have HGET := Lib.hid hget
      have hn2 : n + 1 ≤ 200 := by rw [← hn]; exact hO.le
      have hl2 := Sat.map_look hK Try.underlying63 zero_mean (hs.of_eq (show _ = mapH Value.string Mean.val v.nb nn g.names * (row (.slice (some ⟨gb, 0, none⟩) (n + 1) cap) (n + 1) 71 4 (flatG (V0 ++ [v])) * (mapH kE2 RegV.val v.rb rn f * (pts b (.cells (tabCells nm' R' (.slice (some ⟨gb, 0, none⟩) (n + 1) cap) lt') 68) * (rowT v.av g.after * (roH ro' * (mapH Value.string Mean.val nm' N S.names * (grpsH ro' V0 S0 * F3))))))) by unfold openH; ac_rfl)) k true
      simp only [if_true] at hl2
      have c0 := hs.r.r.cell (i := 10753) (tab_groups nm' R' _ lt')
      have lb := hs.r.r.lt
      have c1 := hs.row_cell hget
      have q2 : ((n : Int) + 1 > 0) := by omega
      have wn : IntKind.i64.wrap (n : Int) = (n : Int) := IntWalk.i64_in _ (by omega)
      have wn0 : (0 : Int) ≤ (n : Int) := by omega
      have wn1 : (n : Int) < (n : Int) + 1 := by omega
      have HSS := Lib.hid hS
      clear hget hn hO hF3 H3 hS hln
      rcases hgk : g.names k with _ | ⟨n1, n2, n3, n4, n5⟩
      · rw [hgk] at hl2
        simp only [Option.map_none, Option.getD_none, Option.isSome_none, Mean.val, mean0] at hl2
        have hbz := hs.alloc (.cells #[.int .i64 0, .int .i64 0, .int .i64 0, .int .i64 0, .string ⟨#[]⟩] 52)
        obtain ⟨bz, hz⟩ : ∃ bz, W3.heap.size = bz := ⟨_, rfl⟩
        rw [hz] at hbz
        have HBZ := Lib.hid (hbz.of_eq (show _ = row (.slice (some ⟨gb, 0, none⟩) (n + 1) cap) (n + 1) 71 4 (flatG (V0 ++ [v])) * (mapH Value.string Mean.val v.nb nn g.names * (pts b (.cells (tabCells nm' R' (.slice (some ⟨gb, 0, none⟩) (n + 1) cap) lt') 68) * (mapH kE2 RegV.val v.rb rn f * (rowT v.av g.after * (roH ro' * (mapH Value.string Mean.val nm' N S.names * (grpsH ro' V0 S0 * (pts bz (.cells #[.int .i64 0, .int .i64 0, .int .i64 0, .int .i64 0, .string ⟨#[]⟩] 52) * F3)))))))) by unfold openH; ac_rfl))
        have HKN := Lib.hid (show g.keepN k (lookN S.names k) = { g with names := mput g.names k ⟨o1, o2, o3, o4, o5⟩ } by rw [GrpS.keepN, hgk, HLK.out])
        clear hs hbz hgk
        go_upto_region 16 with fail
        generalize W3.alloc (.cells #[.int .i64 0, .int .i64 0, .int .i64 0, .int .i64 0, .string ⟨#[]⟩] 52) = W4 at *
        clear c0 lb c1 hl2 hz
        have HD := Lib.hid (HBZ.out.drew)
        clear HBZ
        obtain ⟨W5, hW5⟩ : ∃ W5, W4.drew = W5 := ⟨_, rfl⟩
        rw [hW5] at HD
        have HC := Lib.hid (show ∀ (X : HProp) w', Sat W (row (.slice (some ⟨gb, 0, none⟩) (n + 1) cap) (n + 1) 71 4 (flatG (V0 ++ [v])) * (pts b (.cells (tabCells nm' R' (.slice (some ⟨gb, 0, none⟩) (n + 1) cap) lt') 68) * (pts b9 (.cells #[.int .i64 o1, .int .i64 o2, .int .i64 o3, .int .i64 o4, .string o5] 52) * X))) w' →
            w'.cell? ⟨b, 10753, none⟩ = some (.slice (some ⟨gb, 0, none⟩) (n + 1) cap) ∧ w'.cell? ⟨gb, n * 4 + 1, none⟩ = some (.map (some v.nb)) ∧ w'.cell? ⟨b9, 0, none⟩ = some (.int .i64 o1) ∧ w'.cell? ⟨b9, 1, none⟩ = some (.int .i64 o2) ∧ w'.cell? ⟨b9, 2, none⟩ = some (.int .i64 o3) ∧ w'.cell? ⟨b9, 3, none⟩ = some (.int .i64 o4) ∧ w'.cell? ⟨b9, 4, none⟩ = some (.string o5) from fun X w' h =>
          ⟨h.r.cell (tab_groups nm' R' _ lt'), h.row_cell HGET.out, h.r.r.cell rfl, h.r.r.cell rfl, h.r.r.cell rfl, h.r.r.cell rfl, h.r.r.cell rfl⟩)
        obtain ⟨GC, hGC⟩ : ∃ GC : World → Prop, GC = fun w' => ∃ X, Sat W (row (.slice (some ⟨gb, 0, none⟩) (n + 1) cap) (n + 1) 71 4 (flatG (V0 ++ [v])) * (pts b (.cells (tabCells nm' R' (.slice (some ⟨gb, 0, none⟩) (n + 1) cap) lt') 68) * (pts b9 (.cells #[.int .i64 o1, .int .i64 o2, .int .i64 o3, .int .i64 o4, .string o5] 52) * X))) w' := ⟨_, rfl⟩
        have HG1 := Lib.hid (show ∀ w', GC w' → _ from fun w' h => by rw [hGC] at h; obtain ⟨X, h⟩ := h; exact HC.out X w' h)
        have HG2 := Lib.hid (show GC W5 by
          have h1 := HD.out
          rw [HF3.out] at h1
          rw [hGC]
          exact ⟨mapH Value.string Mean.val v.nb nn g.names * (mapH kE2 RegV.val v.rb rn f * (rowT v.av g.after * (roH ro' * (mapH Value.string Mean.val nm' N S.names * (grpsH ro' V0 S0 * (pts bz (.cells #[.int .i64 0, .int .i64 0, .int .i64 0, .int .i64 0, .string ⟨#[]⟩] 52) * (pts b6 (.cells #[.int .i64 m1, .int .i64 m2, .int .i64 m3, .int .i64 m4, .string m5] 52) * F))))))), h1.of_eq (by ac_rfl)⟩)
        obtain ⟨w6, hup, hs6⟩ := Sat.map_upd hK Try.underlying63 (HD.out.of_eq (show _ = mapH Value.string Mean.val v.nb nn g.names * (row (.slice (some ⟨gb, 0, none⟩) (n + 1) cap) (n + 1) 71 4 (flatG (V0 ++ [v])) * (pts b (.cells (tabCells nm' R' (.slice (some ⟨gb, 0, none⟩) (n + 1) cap) lt') 68) * (mapH kE2 RegV.val v.rb rn f * (rowT v.av g.after * (roH ro' * (mapH Value.string Mean.val nm' N S.names * (grpsH ro' V0 S0 * (pts bz (.cells #[.int .i64 0, .int .i64 0, .int .i64 0, .int .i64 0, .string ⟨#[]⟩] 52) * F3)))))))) by ac_rfl)) k ⟨o1, o2, o3, o4, o5⟩
        have HS6 := Lib.hid hs6
        simp only [Mean.val] at hup
        clear hs6 hGC HC HD
        refine wp_region_E GC (by kernel_rfl) ?_
        rw [hW5]
        clear hW5
        refine wpE_take (i := 0) (q := 11) (v := ?_) rfl (by kernel_rfl) (by kernel_rfl) (by kernel_rfl) (by kernel_rfl) (by kernel_rfl) (fun _ _ _ h => h) (by rfl) ?_ ?_
        rotate_left 1
        · intro w hw; go_simp; try with_reducible rfl
        refine wpE_take (i := 1) (q := 11) (v := ?_) rfl (by kernel_rfl) (by kernel_rfl) (by kernel_rfl) (by kernel_rfl) (by kernel_rfl) (fun _ _ _ h => h) (by rfl) ?_ ?_
        rotate_left 1
        · intro w hw; go_simp; try with_reducible rfl
        refine wpE_take (i := 2) (q := 11) (v := ?_) rfl (by kernel_rfl) (by kernel_rfl) (by kernel_rfl) (by kernel_rfl) (by kernel_rfl) (fun _ _ _ h => h) (by rfl) ?_ ?_
        rotate_left 1
        · intro w hw; go_simp; try with_reducible rfl
        refine wpE_take (i := 3) (q := 11) (v := ?_) rfl (by kernel_rfl) (by kernel_rfl) (by kernel_rfl) (by kernel_rfl) (by kernel_rfl) (fun _ _ _ h => h) (by rfl) ?_ ?_
        rotate_left 1
        · intro w hw; (obtain ⟨e1, e2, e3, e4, e5, e6, e7⟩ := HG1.out _ hw; go_simp; try with_reducible rfl)
        refine wpE_take (i := 4) (q := 11) (v := ?_) rfl (by kernel_rfl) (by kernel_rfl) (by kernel_rfl) (by kernel_rfl) (by kernel_rfl) (fun _ _ _ h => h) (by rfl) ?_ ?_
        rotate_left 1
        · intro w hw; go_simp; try with_reducible rfl
        refine wpE_take (i := 5) (q := 11) (v := ?_) rfl (by kernel_rfl) (by kernel_rfl) (by kernel_rfl) (by kernel_rfl) (by kernel_rfl) (fun _ _ _ h => h) (by rfl) ?_ ?_
        rotate_left 1
        · intro w hw; go_simp; try with_reducible rfl
        refine wpE_take (i := 6) (q := 11) (v := ?_) rfl (by kernel_rfl) (by kernel_rfl) (by kernel_rfl) (by kernel_rfl) (by kernel_rfl) (fun _ _ _ h => h) (by rfl) ?_ ?_
        rotate_left 1
        · intro w hw; go_simp; try with_reducible rfl
        refine wpE_take (i := 7) (q := 11) (v := ?_) rfl (by kernel_rfl) (by kernel_rfl) (by kernel_rfl) (by kernel_rfl) (by kernel_rfl) (fun _ _ _ h => h) (by rfl) ?_ ?_
        rotate_left 1
        · intro w hw; go_simp; try with_reducible rfl
        refine wpE_take (i := 8) (q := 11) (v := ?_) rfl (by kernel_rfl) (by kernel_rfl) (by kernel_rfl) (by kernel_rfl) (by kernel_rfl) (fun _ _ _ h => h) (by rfl) ?_ ?_
        rotate_left 1
        · intro w hw; (obtain ⟨e1, e2, e3, e4, e5, e6, e7⟩ := HG1.out _ hw; go_simp; try with_reducible rfl)
        refine wpE_take (i := 9) (q := 11) (v := ?_) rfl (by kernel_rfl) (by kernel_rfl) (by kernel_rfl) (by kernel_rfl) (by kernel_rfl) (fun _ _ _ h => h) (by rfl) ?_ ?_
        rotate_left 1
        · intro w hw; go_simp; try with_reducible rfl
        refine wpE_take (i := 10) (q := 11) (v := ?_) rfl (by kernel_rfl) (by kernel_rfl) (by kernel_rfl) (by kernel_rfl) (by kernel_rfl) (fun _ _ _ h => h) (by rfl) ?_ ?_
        rotate_left 1
        · intro w hw; (obtain ⟨e1, e2, e3, e4, e5, e6, e7⟩ := HG1.out _ hw; go_simp; try with_reducible rfl)
        refine wpE_one (i := 11) rfl (by kernel_rfl) (HG2.out) (fun K hK => ?_)
        go_simp
        refine hK _ _ ?_
        clear hK K
        refine wpE_done (by kernel_rfl) (by kernel_rfl) ?_
        clear hup wn wn0 wn1 q2 HG1 HG2
        have HO2 := Lib.hid (show OpenF S S0 { g with names := mput g.names k ⟨o1, o2, o3, o4, o5⟩ } ro' lt' R' V0 v f from ⟨HO.out.regs, HO.out.later, HO.out.laterL, HO.out.len, HO.out.le, HO.out.kind, HO.out.after, HO.out.rep⟩)
        have HTB := Lib.hid (TabAt.close1 (b := b) (N := N) (w := w6) (nm := nm') (gb := gb) (cap := cap) (nn := (nn + 1)) (rn := rn) (F := pts bz (.cells #[.int .i64 0, .int .i64 0, .int .i64 0, .int .i64 0, .string ⟨#[]⟩] 52) * F3) HO2.out (by rw [HN.out]; exact (HS6.out.of_eq (by unfold openH; ac_rfl))))
        have HNM := Lib.hid (HTB.out.named k ⟨m1, m2, m3, m4, m5⟩)
        have y0 := (HTB.out.sat.r.of_eq HF3.out).r.cell (i := 0) rfl
        have y1 := (HTB.out.sat.r.of_eq HF3.out).r.cell (i := 1) rfl
        have y2 := (HTB.out.sat.r.of_eq HF3.out).r.cell (i := 2) rfl
        have y3 := (HTB.out.sat.r.of_eq HF3.out).r.cell (i := 3) rfl
        have y4 := (HTB.out.sat.r.of_eq HF3.out).r.cell (i := 4) rfl
        have ly := (HTB.out.sat.r.of_eq HF3.out).r.lt
        have HDEF := Lib.hid (show { S with names := nameM S.names k ⟨m1, m2, m3, m4, m5⟩, groups := S0 ++ [{ g with names := mput g.names k ⟨o1, o2, o3, o4, o5⟩ }] } = defS S k ⟨m1, m2, m3, m4, m5⟩ false by
          rw [defS, HSS.out, List.dropLast_concat, List.getLast?_concat, Option.map_some, Option.toList_some, HKN.out])
        go_wp2_with fail
        refine Calls.mono HNM.out ?_
        rintro e w5 ⟨rfl, N', h5⟩
        have H5 := Lib.hid (h5.less.of_eq HF3.out)
        clear h5 y0 y1 y2 y3 y4 ly
        go_wp2
        go_ret
        have h6 := H5.out.less.less
        clear H5
        refine ⟨0, defS S k ⟨m1, m2, m3, m4, m5⟩ false, N', rfl, .inr ⟨rfl, rfl⟩, ?_⟩
        rw [← HDEF.out]
        exact h6
      · rw [hgk] at hl2
        simp only [Option.map_some, Option.getD_some, Option.isSome_some, Mean.val] at hl2
        have hbz := hs.alloc (.cells #[.int .i64 n1, .int .i64 n2, .int .i64 n3, .int .i64 n4, .string n5] 52)
        obtain ⟨bz, hz⟩ : ∃ bz, W3.heap.size = bz := ⟨_, rfl⟩
        rw [hz] at hbz
        have HBZ := Lib.hid (hbz.of_eq (show _ = row (.slice (some ⟨gb, 0, none⟩) (n + 1) cap) (n + 1) 71 4 (flatG (V0 ++ [v])) * (mapH Value.string Mean.val v.nb nn g.names * (pts b (.cells (tabCells nm' R' (.slice (some ⟨gb, 0, none⟩) (n + 1) cap) lt') 68) * (mapH kE2 RegV.val v.rb rn f * (rowT v.av g.after * (roH ro' * (mapH Value.string Mean.val nm' N S.names * (grpsH ro' V0 S0 * (pts bz (.cells #[.int .i64 n1, .int .i64 n2, .int .i64 n3, .int .i64 n4, .string n5] 52) * F3)))))))) by unfold openH; ac_rfl))
        have HKN := Lib.hid (show g.keepN k (lookN S.names k) = g by rw [GrpS.keepN, hgk])
        have HO2 := Lib.hid (show OpenF S S0 g ro' lt' R' V0 v f from ⟨HO.out.regs, HO.out.later, HO.out.laterL, HO.out.len, HO.out.le, HO.out.kind, HO.out.after, HO.out.rep⟩)
        have HTB := Lib.hid (TabAt.close1 (b := b) (N := N) (w := (W3.alloc (.cells #[.int .i64 n1, .int .i64 n2, .int .i64 n3, .int .i64 n4, .string n5] 52))) (nm := nm') (gb := gb) (cap := cap) (nn := nn) (rn := rn) (F := pts bz (.cells #[.int .i64 n1, .int .i64 n2, .int .i64 n3, .int .i64 n4, .string n5] 52) * F3) HO2.out (by rw [HN.out]; exact (HBZ.out.of_eq (by unfold openH; ac_rfl))))
        have HNM := Lib.hid (HTB.out.named k ⟨m1, m2, m3, m4, m5⟩)
        have y0 := (HTB.out.sat.r.of_eq HF3.out).r.cell (i := 0) rfl
        have y1 := (HTB.out.sat.r.of_eq HF3.out).r.cell (i := 1) rfl
        have y2 := (HTB.out.sat.r.of_eq HF3.out).r.cell (i := 2) rfl
        have y3 := (HTB.out.sat.r.of_eq HF3.out).r.cell (i := 3) rfl
        have y4 := (HTB.out.sat.r.of_eq HF3.out).r.cell (i := 4) rfl
        have ly := (HTB.out.sat.r.of_eq HF3.out).r.lt
        have HDEF := Lib.hid (show { S with names := nameM S.names k ⟨m1, m2, m3, m4, m5⟩, groups := S0 ++ [g] } = defS S k ⟨m1, m2, m3, m4, m5⟩ false by
          rw [defS, HSS.out, List.dropLast_concat, List.getLast?_concat, Option.map_some, Option.toList_some, HKN.out])
        clear hs hbz hgk
        go_wp2_with fail
        refine Calls.mono HNM.out ?_
        rintro e w5 ⟨rfl, N', h5⟩
        have H5 := Lib.hid (h5.less.of_eq HF3.out)
        clear h5 y0 y1 y2 y3 y4 ly
        go_wp2
        go_ret
        have h6 := H5.out.less.less
        clear H5
        refine ⟨0, defS S k ⟨m1, m2, m3, m4, m5⟩ false, N', rfl, .inr ⟨rfl, rfl⟩, ?_⟩
        rw [← HDEF.out]
        exact h6
    · go_wp2
      go_ret
      exact ⟨6, S, N, rfl, HNO.out 6 (by decide), H3.out.less.less⟩

theorem define_any {b N : Nat} {S : TabS} (k : ByteArray) (m : Mean) (g : Bool) (h : TabAt W F b N S w) :
    Calls Try.prog 22 #[.pointer (some ⟨b, 0, none⟩), .string k, m.val, .bool g] w fun e w' => ∃ E S' N', e = .returned (.int .i64 E) ∧ DefR S S' k m g E ∧ TabAt W F b N' S' w' := by
  cases g with
  | true => exact def_glob k m h
  | false =>
    rcases List.eq_nil_or_concat S.groups with hg | ⟨S0, g, hg⟩
    · exact def_flat k m hg h
    · exact def_loc k m S0 g (by rw [hg, List.concat_eq_append]) h

end Go.Proofs.Ytebggkgciocciaa
