import Derived.Test.YticljfpippbkkaaMTZ
/-
  A table: Define. Conditions: those that each theorem names.
-/
namespace Go.Proofs.Yticljfpippbkkaa
open Go.RowKit Go.Sp
variable {W w w' : World} {F A : HProp}

noncomputable def GrpS.keepN (g : GrpS) (k : ByteArray) (m : Mean) : GrpS := match g.names k with | some _ => g | none => { g with names := mput g.names k m }
noncomputable def GrpS.delN (k : ByteArray) (g : GrpS) : GrpS := { g with names := mdel g.names k }
noncomputable def defS (S : TabS) (k : ByteArray) (m : Mean) : Bool → TabS
  | true => { S with names := nameM S.names k m, groups := S.groups.map (·.delN k) }
  | false => { S with names := nameM S.names k m, groups := S.groups.dropLast ++ (S.groups.getLast?.map (·.keepN k (lookN S.names k))).toList }
/-- an error, and nothing is changed; or the name is defined -/
def DefR (S S' : TabS) (k : ByteArray) (m : Mean) (g : Bool) (E : Int) : Prop := (E ≠ 0 ∧ S' = S) ∨ (E = 0 ∧ S' = defS S k m g)

abbrev mnO (m : Mean) : Obj := .cells #[.int .i64 m.kind, .int .i64 m.cls, .int .i64 m.code, .int .i64 m.cat, .string m.text] 103

/-- a name of the table gets a meaning -/
theorem TabAt.named {b N : Nat} {S : TabS} (k : ByteArray) (m : Mean) (h : TabAt W F b N S w) :
    Calls Try.prog 70 #[.pointer (some ⟨b, 0, none⟩), .string k, m.val] w fun e w' => e = .returned (.tuple #[]) ∧ ∃ N', TabAt W F b N' { S with names := nameM S.names k m } w' := by
  obtain ⟨ro, nm, gs, lt, R, V, h1, h2⟩ := h
  refine (name_any k m (h2.of_eq (show _ = pts b (.cells (tabCells nm R gs lt) 64) * (mapH Value.string Mean.val nm N S.names * (roH ro * (row gs V.length 143 4 (flatG V) * (grpsH ro V S.groups * F)))) by ac_rfl))).mono ?_
  rintro e w' ⟨he, N', hs⟩
  exact ⟨he, N', ro, nm, gs, lt, R, V, h1, hs.of_eq (by ac_rfl)⟩



set_option maxRecDepth 100000 in
set_option maxHeartbeats 8000000 in
theorem def_flat {b N : Nat} {S : TabS} (k : ByteArray) (m : Mean) (hS : S.groups = []) (h : TabAt W F b N S w) :
    Calls Try.prog 43 #[.pointer (some ⟨b, 0, none⟩), .string k, m.val, .bool false] w fun e w' => ∃ E S' N', e = .returned (.int .i64 E) ∧ DefR S S' k m false E ∧ TabAt W F b N' S' w' := by
  obtain ⟨m1, m2, m3, m4, m5⟩ := m
  have hK : KeyT Try.prog 9 Value.string := keyT_string Try.underlying9
  have hb := h.allocX (.cells #[.int .i64 m1, .int .i64 m2, .int .i64 m3, .int .i64 m4, .string m5] 103)
  obtain ⟨b6, hb6⟩ : ∃ b6, w.heap.size = b6 := ⟨_, rfl⟩
  rw [hb6] at hb
  have HB := Lib.hid hb
  have HG := Lib.hid (good_any hb)
  have HMR := Lib.hid (mright_any ⟨m1, m2, m3, m4, m5⟩ (w.alloc (.cells #[.int .i64 m1, .int .i64 m2, .int .i64 m3, .int .i64 m4, .string m5] 103)))
  have x0 := hb.sat.cell (i := 0) rfl
  have x1 := hb.sat.cell (i := 1) rfl
  have x2 := hb.sat.cell (i := 2) rfl
  have x3 := hb.sat.cell (i := 3) rfl
  have x4 := hb.sat.cell (i := 4) rfl
  have lx := hb.sat.lt
  have HNO := Lib.hid (show ∀ E : Int, E ≠ 0 → DefR S S k ⟨m1, m2, m3, m4, m5⟩ false E from fun E h => .inl ⟨h, rfl⟩)
  clear h hb
  go_enter Try.func43, Try.ntmps43
  go_wp2_with fail
  refine Calls.mono HG.out ?_
  rintro e w' ⟨rfl, rfl⟩
  generalize w.alloc (.cells #[.int .i64 m1, .int .i64 m2, .int .i64 m3, .int .i64 m4, .string m5] 103) = W1 at *
  go_wp2_with fail
  refine Calls.mono HMR.out ?_
  rintro e w2 ⟨⟨r, rfl⟩, hx⟩
  have H2 := Lib.hid (HB.out.ext hx)
  clear x0 x1 x2 x3 x4 lx hx HB hb6
  rcases r with _ | _
  · go_wp2
    go_ret
    exact ⟨1, S, N, rfl, HNO.out 1 (by decide), H2.out.less⟩
  obtain ⟨lk, hlk⟩ : ∃ lk, lookN S.names k = lk := ⟨_, rfl⟩
  have HLK := Lib.hid hlk
  clear hlk
  obtain ⟨ro, nm, gs, lt, R, V, hT, hs⟩ := H2.out
  have hl := Sat.map_look hK Try.underlying55 zero_mean (hs.of_eq (show _ = mapH Value.string Mean.val nm N S.names * (pts b (.cells (tabCells nm R gs lt) 64) * (roH ro * (row gs V.length 143 4 (flatG V) * (grpsH ro V S.groups * (pts b6 (.cells #[.int .i64 m1, .int .i64 m2, .int .i64 m3, .int .i64 m4, .string m5] 103) * F))))) by ac_rfl)) k false
  simp only [Bool.false_eq_true, if_false, lookN_val, HLK.out] at hl
  have hln := Sat.map_len Try.underlying55 ((hs.allocD (o := .cells #[.int .i64 lk.kind, .int .i64 lk.cls, .int .i64 lk.code, .int .i64 lk.cat, .string lk.text] 103)).of_eq (show _ = mapH Value.string Mean.val nm N S.names * (pts b (.cells (tabCells nm R gs lt) 64) * (roH ro * (row gs V.length 143 4 (flatG V) * (grpsH ro V S.groups * (pts b6 (.cells #[.int .i64 m1, .int .i64 m2, .int .i64 m3, .int .i64 m4, .string m5] 103) * F))))) by ac_rfl)) 3
  obtain ⟨len, -, hln⟩ := hln
  have c0 := hs.cell (i := 0) (tab_names nm R gs lt)
  have lb := hs.lt
  have y0 := H2.out.sat.cell (i := 0) rfl
  have y1 := H2.out.sat.cell (i := 1) rfl
  have y2 := H2.out.sat.cell (i := 2) rfl
  have y3 := H2.out.sat.cell (i := 3) rfl
  have y4 := H2.out.sat.cell (i := 4) rfl
  have ly := H2.out.sat.lt
  have H3 := Lib.hid (H2.out.allocX (.cells #[.int .i64 lk.kind, .int .i64 lk.cls, .int .i64 lk.code, .int .i64 lk.cat, .string lk.text] 103))
  obtain ⟨o1, o2, o3, o4, o5⟩ := lk
  simp only [Mean.val] at hl
  simp only at H3 hln
  obtain ⟨b9, hb9⟩ : ∃ b9, w2.heap.size = b9 := ⟨_, rfl⟩
  rw [hb9] at H3
  have q1 := fun w => run_eql_mean w ⟨o1, o2, o3, o4, o5⟩ mean0
  have q2 := fun w => run_neq_mean w ⟨m1, m2, m3, m4, m5⟩ mean0
  simp only [Mean.val, mean0] at q1 q2
  generalize meanB ⟨o1, o2, o3, o4, o5⟩ ⟨0, 0, 0, 0, ⟨#[]⟩⟩ = zo at q1
  generalize meanB ⟨m1, m2, m3, m4, m5⟩ ⟨0, 0, 0, 0, ⟨#[]⟩⟩ = zm at q2
  have HNM0 := Lib.hid (show ∃ (gs' : Value) (ro' : HProp) (lt' : Value) (R' : Nat → RegV) (V' : Nat), Sat W (pts b (.cells (tabCells nm R' gs' lt') 64) * ro') (w2.alloc (.cells #[.int .i64 o1, .int .i64 o2, .int .i64 o3, .int .i64 o4, .string o5] 103)) from ⟨gs, _, lt, R, 0, hs.allocD⟩)
  clear hs hT H2 HMR HG
  go_upto_region 4 with fail
  generalize w2.alloc (.cells #[.int .i64 o1, .int .i64 o2, .int .i64 o3, .int .i64 o4, .string o5] 103) = W3 at *
  clear hb9 hl c0 lb y0 y1 y2 y3 y4 ly
  have d0 := H3.out.sat.cell (i := 0) rfl
  have d1 := H3.out.sat.cell (i := 1) rfl
  have d2 := H3.out.sat.cell (i := 2) rfl
  have d3 := H3.out.sat.cell (i := 3) rfl
  have d4 := H3.out.sat.cell (i := 4) rfl
  have ld := H3.out.sat.lt
  have y0 := H3.out.sat.r.cell (i := 0) rfl
  have y1 := H3.out.sat.r.cell (i := 1) rfl
  have y2 := H3.out.sat.r.cell (i := 2) rfl
  have y3 := H3.out.sat.r.cell (i := 3) rfl
  have y4 := H3.out.sat.r.cell (i := 4) rfl
  have ly := H3.out.sat.r.lt
  have c0 : W3.cell? ⟨b, 0, none⟩ = some (.map (some nm)) := by
    obtain ⟨gs', ro', lt', R', V', hs'⟩ := HNM0.out
    exact hs'.cell (i := 0) (tab_names nm R' gs' lt')
  have lb : b < W3.heap.size := by
    obtain ⟨gs', ro', lt', R', V', hs'⟩ := HNM0.out
    exact hs'.lt
  go_cut [44] from 29 to 45 (fun s44 wx => ∃ r : Bool, s44 = .bool r ∧ W3 = wx)
  case first => as_aux_lemma =>
    rcases zo with _ | _
    · go_wp2
      go_meet
      exact ⟨_, rfl, rfl⟩
    · rcases zm with _ | _
      · go_wp2
        go_meet
        exact ⟨_, rfl, rfl⟩
      · go_wp2
        go_meet
        exact ⟨_, rfl, rfl⟩
  case rest => as_aux_lemma =>
    obtain ⟨r, rfl, rfl⟩ := hcut
    rcases r with _ | _
    · have HN := Lib.hid (H3.out.named k ⟨m1, m2, m3, m4, m5⟩)
      obtain ⟨ro', nm', gs', lt', R', V', hT', hs'⟩ := H3.out
      obtain ⟨ga, gc, rfl⟩ := Sat.row_value hs'.r.r.r
      have e10 := hs'.cell (i := 10753) (tab_groups nm' R' _ lt')
      rw [hT'.2.2.2.1, hS, List.length_nil] at e10
      have HDEF := Lib.hid (show { S with names := nameM S.names k ⟨m1, m2, m3, m4, m5⟩ } = defS S k ⟨m1, m2, m3, m4, m5⟩ false by
        rw [defS, hS]
        simp only [List.dropLast_nil, List.getLast?_nil, Option.map_none, Option.toList_none, List.nil_append] <;> rw [← hS])
      clear hs' hT' hS HNM0 q1 q2
      go_wp2_with fail
      refine Calls.mono HN.out ?_
      rintro e w5 ⟨rfl, N', h5⟩
      have H5 := Lib.hid h5
      clear h5
      (try clear d0 d1 d2 d3 d4 ld)
      (try clear y0 y1 y2 y3 y4 ly c0 lb)
      go_wp2
      go_ret
      exact ⟨0, _, N', rfl, .inr ⟨rfl, HDEF.out⟩, H5.out.less.less⟩
    · go_wp2
      go_ret
      exact ⟨6, S, N, rfl, HNO.out 6 (by decide), H3.out.less.less⟩

set_option maxRecDepth 100000 in
set_option maxHeartbeats 8000000 in
theorem def_glob {b N : Nat} {S : TabS} (k : ByteArray) (m : Mean) (h : TabAt W F b N S w) :
    Calls Try.prog 43 #[.pointer (some ⟨b, 0, none⟩), .string k, m.val, .bool true] w fun e w' => ∃ E S' N', e = .returned (.int .i64 E) ∧ DefR S S' k m true E ∧ TabAt W F b N' S' w' := by
  obtain ⟨m1, m2, m3, m4, m5⟩ := m
  have hK : KeyT Try.prog 9 Value.string := keyT_string Try.underlying9
  have hb := h.allocX (.cells #[.int .i64 m1, .int .i64 m2, .int .i64 m3, .int .i64 m4, .string m5] 103)
  obtain ⟨b6, hb6⟩ : ∃ b6, w.heap.size = b6 := ⟨_, rfl⟩
  rw [hb6] at hb
  have HB := Lib.hid hb
  have HG := Lib.hid (good_any hb)
  have HMR := Lib.hid (mright_any ⟨m1, m2, m3, m4, m5⟩ (w.alloc (.cells #[.int .i64 m1, .int .i64 m2, .int .i64 m3, .int .i64 m4, .string m5] 103)))
  have x0 := hb.sat.cell (i := 0) rfl
  have x1 := hb.sat.cell (i := 1) rfl
  have x2 := hb.sat.cell (i := 2) rfl
  have x3 := hb.sat.cell (i := 3) rfl
  have x4 := hb.sat.cell (i := 4) rfl
  have lx := hb.sat.lt
  have HNO := Lib.hid (show ∀ E : Int, E ≠ 0 → DefR S S k ⟨m1, m2, m3, m4, m5⟩ true E from fun E h => .inl ⟨h, rfl⟩)
  clear h hb
  go_enter Try.func43, Try.ntmps43
  go_wp2_with fail
  refine Calls.mono HG.out ?_
  rintro e w' ⟨rfl, rfl⟩
  generalize w.alloc (.cells #[.int .i64 m1, .int .i64 m2, .int .i64 m3, .int .i64 m4, .string m5] 103) = W1 at *
  go_wp2_with fail
  refine Calls.mono HMR.out ?_
  rintro e w2 ⟨⟨r, rfl⟩, hx⟩
  have H2 := Lib.hid (HB.out.ext hx)
  clear x0 x1 x2 x3 x4 lx hx HB hb6
  rcases r with _ | _
  · go_wp2
    go_ret
    exact ⟨1, S, N, rfl, HNO.out 1 (by decide), H2.out.less⟩
  obtain ⟨lk, hlk⟩ : ∃ lk, lookN S.names k = lk := ⟨_, rfl⟩
  have HLK := Lib.hid hlk
  clear hlk
  obtain ⟨ro, nm, gs, lt, R, V, hT, hs⟩ := H2.out
  have hl := Sat.map_look hK Try.underlying55 zero_mean (hs.of_eq (show _ = mapH Value.string Mean.val nm N S.names * (pts b (.cells (tabCells nm R gs lt) 64) * (roH ro * (row gs V.length 143 4 (flatG V) * (grpsH ro V S.groups * (pts b6 (.cells #[.int .i64 m1, .int .i64 m2, .int .i64 m3, .int .i64 m4, .string m5] 103) * F))))) by ac_rfl)) k false
  simp only [Bool.false_eq_true, if_false, lookN_val, HLK.out] at hl
  have hln := Sat.map_len Try.underlying55 ((hs.allocD (o := .cells #[.int .i64 lk.kind, .int .i64 lk.cls, .int .i64 lk.code, .int .i64 lk.cat, .string lk.text] 103)).of_eq (show _ = mapH Value.string Mean.val nm N S.names * (pts b (.cells (tabCells nm R gs lt) 64) * (roH ro * (row gs V.length 143 4 (flatG V) * (grpsH ro V S.groups * (pts b6 (.cells #[.int .i64 m1, .int .i64 m2, .int .i64 m3, .int .i64 m4, .string m5] 103) * F))))) by ac_rfl)) 3
  obtain ⟨len, -, hln⟩ := hln
  have c0 := hs.cell (i := 0) (tab_names nm R gs lt)
  have lb := hs.lt
  have y0 := H2.out.sat.cell (i := 0) rfl
  have y1 := H2.out.sat.cell (i := 1) rfl
  have y2 := H2.out.sat.cell (i := 2) rfl
  have y3 := H2.out.sat.cell (i := 3) rfl
  have y4 := H2.out.sat.cell (i := 4) rfl
  have ly := H2.out.sat.lt
  have H3 := Lib.hid (H2.out.allocX (.cells #[.int .i64 lk.kind, .int .i64 lk.cls, .int .i64 lk.code, .int .i64 lk.cat, .string lk.text] 103))
  obtain ⟨o1, o2, o3, o4, o5⟩ := lk
  simp only [Mean.val] at hl
  simp only at H3 hln
  obtain ⟨b9, hb9⟩ : ∃ b9, w2.heap.size = b9 := ⟨_, rfl⟩
  rw [hb9] at H3
  have q1 := fun w => run_eql_mean w ⟨o1, o2, o3, o4, o5⟩ mean0
  have q2 := fun w => run_neq_mean w ⟨m1, m2, m3, m4, m5⟩ mean0
  simp only [Mean.val, mean0] at q1 q2
  generalize meanB ⟨o1, o2, o3, o4, o5⟩ ⟨0, 0, 0, 0, ⟨#[]⟩⟩ = zo at q1
  generalize meanB ⟨m1, m2, m3, m4, m5⟩ ⟨0, 0, 0, 0, ⟨#[]⟩⟩ = zm at q2
  have HNM0 := Lib.hid (show ∃ (gs' : Value) (ro' : HProp) (lt' : Value) (R' : Nat → RegV) (V' : Nat), Sat W (pts b (.cells (tabCells nm R' gs' lt') 64) * ro') (w2.alloc (.cells #[.int .i64 o1, .int .i64 o2, .int .i64 o3, .int .i64 o4, .string o5] 103)) from ⟨gs, _, lt, R, 0, hs.allocD⟩)
  clear hs hT H2 HMR HG
  go_upto_region 4 with fail
  generalize w2.alloc (.cells #[.int .i64 o1, .int .i64 o2, .int .i64 o3, .int .i64 o4, .string o5] 103) = W3 at *
  clear hb9 hl c0 lb y0 y1 y2 y3 y4 ly
  have d0 := H3.out.sat.cell (i := 0) rfl
  have d1 := H3.out.sat.cell (i := 1) rfl
  have d2 := H3.out.sat.cell (i := 2) rfl
  have d3 := H3.out.sat.cell (i := 3) rfl
  have d4 := H3.out.sat.cell (i := 4) rfl
  have ld := H3.out.sat.lt
  have y0 := H3.out.sat.r.cell (i := 0) rfl
  have y1 := H3.out.sat.r.cell (i := 1) rfl
  have y2 := H3.out.sat.r.cell (i := 2) rfl
  have y3 := H3.out.sat.r.cell (i := 3) rfl
  have y4 := H3.out.sat.r.cell (i := 4) rfl
  have ly := H3.out.sat.r.lt
  have c0 : W3.cell? ⟨b, 0, none⟩ = some (.map (some nm)) := by
    obtain ⟨gs', ro', lt', R', V', hs'⟩ := HNM0.out
    exact hs'.cell (i := 0) (tab_names nm R' gs' lt')
  have lb : b < W3.heap.size := by
    obtain ⟨gs', ro', lt', R', V', hs'⟩ := HNM0.out
    exact hs'.lt
  go_cut [44] from 29 to 45 (fun s44 wx => ∃ r : Bool, s44 = .bool r ∧ W3 = wx)
  case first => as_aux_lemma =>
    rcases zo with _ | _
    · go_wp2
      go_meet
      exact ⟨_, rfl, rfl⟩
    · rcases zm with _ | _
      · go_wp2
        go_meet
        exact ⟨_, rfl, rfl⟩
      · go_wp2
        go_meet
        exact ⟨_, rfl, rfl⟩
  case rest => as_aux_lemma =>
    obtain ⟨r, rfl, rfl⟩ := hcut
    rcases r with _ | _
    · clear d0 d1 d2 d3 d4 ld y0 y1 y2 y3 y4 ly c0 lb HNM0 q1 q2
      obtain ⟨F3, hF3⟩ : ∃ F3, F3 = pts b9 (.cells #[.int .i64 o1, .int .i64 o2, .int .i64 o3, .int .i64 o4, .string o5] 103) * (pts b6 (.cells #[.int .i64 m1, .int .i64 m2, .int .i64 m3, .int .i64 m4, .string m5] 103) * F) := ⟨_, rfl⟩
      have HF3 := Lib.hid hF3
      rw [← hF3] at H3
      obtain ⟨ro', nm', gs', lt', R', V', hT, hs⟩ := H3.out
      obtain ⟨ga, gc, rfl⟩ := Sat.row_value hs.r.r.r
      have HT := Lib.hid hT
      obtain ⟨n, hn⟩ : ∃ n, V'.length = n := ⟨_, rfl⟩
      have HN := Lib.hid hn
      have c0 := hs.cell (i := 10753) (tab_groups nm' R' _ lt')
      rw [hn] at c0
      have lb := hs.lt
      have hn2 : n ≤ 200 := by rw [← hn, hT.2.2.2.1]; exact hT.2.2.2.2
      obtain ⟨BASE, hBASE⟩ : ∃ BASE : HProp, BASE = row (.slice ga V'.length gc) V'.length 143 4 (flatG V') * (pts b (.cells (tabCells nm' R' (.slice ga V'.length gc) lt') 64) * (roH ro' * (mapH Value.string Mean.val nm' N S.names * F3))) := ⟨_, rfl⟩
      have HB0 := Lib.hid (hs.of_eq (show _ = emp * (grpsH ro' V' S.groups * BASE) by rw [hBASE, emp_star]; ac_rfl))
      have HBASE := Lib.hid hBASE
      clear hT hs hF3 hn hBASE H3
      go_wp2_with fail
      go_loopg [51] n (fun gg s51 wx => ∃ (q : Nat) (G1 G2 : List GrpS) (X : HProp), S.groups = G1 ++ G2 ∧ G1.length = q ∧ q ≤ n ∧ gg = n - q ∧ s51 = .int .i64 q ∧ Sat W (X * (grpsH ro' V' (G1.map (·.delN k) ++ G2) * BASE)) wx)
      case atStart => exact ⟨0, [], S.groups, emp, rfl, rfl, by omega, rfl, by go_num, HB0.out⟩
      case round =>
        obtain ⟨q, G1, G2, X, hG, hq, hqn, rfl, rfl, hx⟩ := hrel
        have HX := Lib.hid hx
        have HGG := Lib.hid hG
        have HQ := Lib.hid hq
        clear hx hG hq HB0 c0 lb
        by_cases hlt : q < n
        · obtain ⟨g, G3, rfl⟩ : ∃ g G3, G2 = g :: G3 := by
            cases G2 with
            | nil =>
              exfalso
              have h1 := HGG.out
              have h2 := HT.out.2.2.2.1
              have h3 := HN.out
              have h4 := HQ.out
              rw [h1] at h2
              simp at h2
              omega
            | cons g G3 => exact ⟨g, G3, rfl⟩
          obtain ⟨V1, v, V2, hV, hV1⟩ : ∃ V1 v V2, V' = V1 ++ v :: V2 ∧ V1.length = q :=
            ⟨V'.take q, V'[q]'(by rw [HN.out]; exact hlt), V'.drop (q + 1), by rw [List.getElem_cons_drop, List.take_append_drop], by rw [List.length_take, HN.out]; omega⟩
          have hm := grps_mid_open (G1 := G1.map (·.delN k)) hV (by rw [hV1, List.length_map, HQ.out]) HX.out
          obtain ⟨⟨hkd, hal⟩, nn, rn, f, hf, hs2⟩ := Sat.grp_open hm
          obtain ⟨aa, ac, hva⟩ := hs2.r.r.rowT_value
          have HKAL := Lib.hid (And.intro hkd hal)
          have HF := Lib.hid hf
          have HV := Lib.hid hV
          have HV1 := Lib.hid hV1
          rw [HBASE.out, HN.out] at hs2
          have hs3 := hs2.of_eq (show _ = row (.slice ga n gc) n 143 4 (flatG V') * (mapH Value.string Mean.val v.nb nn g.names * (mapH kE2 RegV.val v.rb rn f * (rowT v.av g.after * (grpsH ro' (V1 ++ V2) (G1.map (·.delN k) ++ G3) * (X * (pts b (.cells (tabCells nm' R' (.slice ga n gc) lt') 64) * (roH ro' * (mapH Value.string Mean.val nm' N S.names * F3)))))))) by ac_rfl)
          obtain ⟨_, hcs⟩ := hs3.row_cases
          rcases hcs with ⟨_, h0, _⟩ | ⟨gb, cap', _, hgs, _⟩
          · omega
          simp only [Value.slice.injEq] at hgs
          obtain ⟨rfl, -, rfl⟩ := hgs
          have r0 := hs3.row_cell (flatG_get V' q 0 (.int .i64 v.kind) (by rw [HN.out]; exact hlt) (by simp only [hV]; rw [List.getElem_append_right (by omega)]; simp [hV1, GrpV.cells]))
          have r1 := hs3.row_cell (flatG_get V' q 1 (.map (some v.nb)) (by rw [HN.out]; exact hlt) (by simp only [hV]; rw [List.getElem_append_right (by omega)]; simp [hV1, GrpV.cells]))
          have r2 := hs3.row_cell (flatG_get V' q 2 (.map (some v.rb)) (by rw [HN.out]; exact hlt) (by simp only [hV]; rw [List.getElem_append_right (by omega)]; simp [hV1, GrpV.cells]))
          have r3 := hs3.row_cell (flatG_get V' q 3 v.av (by rw [HN.out]; exact hlt) (by simp only [hV]; rw [List.getElem_append_right (by omega)]; simp [hV1, GrpV.cells]))
          rw [hva] at r3
          simp only [Nat.add_zero] at r0
          obtain ⟨al, hal2⟩ : ∃ al, g.after.length = al := ⟨_, rfl⟩
          rw [hal2] at r3
          have hs5 := (hs3.alloc (.cells #[.int .i64 v.kind, .map (some v.nb), .map (some v.rb), .slice aa al ac] 143)).of_eq (show _ = mapH Value.string Mean.val v.nb nn g.names * (pts wr.heap.size (.cells #[.int .i64 v.kind, .map (some v.nb), .map (some v.rb), .slice aa al ac] 143) * (row (.slice (some ⟨gb, 0, none⟩) n gc) n 143 4 (flatG V') * (mapH kE2 RegV.val v.rb rn f * (rowT v.av g.after * (grpsH ro' (V1 ++ V2) (G1.map (·.delN k) ++ G3) * (X * (pts b (.cells (tabCells nm' R' (.slice (some ⟨gb, 0, none⟩) n gc) lt') 64) * (roH ro' * (mapH Value.string Mean.val nm' N S.names * F3))))))))) by ac_rfl)
          have HS5 := Lib.hid hs5
          clear hm hs2 hs3 hs5 hf hkd hal hV hV1 hva hal2 HX
          go_upto_region 10 with fail
          obtain ⟨bz, hbz⟩ : ∃ bz, wr.heap.size = bz := ⟨_, rfl⟩
          rw [hbz] at HS5
          rw [hbz]
          generalize wr.alloc (.cells #[.int .i64 v.kind, .map (some v.nb), .map (some v.rb), .slice aa al ac] 143) = w3 at *
          clear r0 r1 r2 r3 hbz
          have d1 := HS5.out.r.cell (i := 1) rfl
          have lz := HS5.out.r.lt
          obtain ⟨w4, hdel, hs6⟩ := Sat.map_del hK Try.underlying55 HS5.out k 0
          have HS6 := Lib.hid hs6
          clear hs6
          go_wp2
          go_roundg (n - (q + 1))
          case measure => omega
          case rel =>
            refine ⟨q + 1, G1 ++ [g], G3, pts bz (.cells #[.int .i64 v.kind, .map (some v.nb), .map (some v.rb), .slice aa al ac] 143) * X, by rw [HGG.out, List.append_assoc]; rfl, by simp [HQ.out], by omega, rfl, by go_num, ?_⟩
            have h7 := Sat.grp_mk (m := ro') (v := v) (s := g.delN k) (HS6.out.of_eq (show _ = mapH Value.string Mean.val v.nb nn (mdel g.names k) * (mapH kE2 RegV.val v.rb rn f * (rowT v.av g.after * (grpsH ro' (V1 ++ V2) (G1.map (·.delN k) ++ G3) * ((pts bz (.cells #[.int .i64 v.kind, .map (some v.nb), .map (some v.rb), .slice aa al ac] 143) * X) * BASE)))) by rw [HBASE.out, HN.out]; ac_rfl)) HKAL.out HF.out
            have h8 := grps_mid_close HV.out (by rw [HV1.out, List.length_map, HQ.out]) h7
            rw [List.map_append, List.append_assoc]
            exact h8
        · obtain rfl : n = q := by omega
          have hG2 : G2 = [] := by
            have h1 := HGG.out
            have h2 := HT.out.2.2.2.1
            have h3 := HN.out
            have h4 := HQ.out
            rw [h1] at h2
            simp at h2
            exact List.eq_nil_of_length_eq_zero (by omega)
          have hs3 := HX.out
          rw [HBASE.out, hG2, List.append_nil, show G1.map (·.delN k) = S.groups.map (·.delN k) by rw [HGG.out, hG2, List.append_nil]] at hs3
          have hT2 := HT.out
          have HTB := Lib.hid (show TabAt W (X * F3) b N { S with groups := S.groups.map (·.delN k) } wr from ⟨ro', nm', .slice ga V'.length gc, lt', R', V', by simpa only [List.length_map] using hT2, hs3.of_eq (by ac_rfl)⟩)
          have HNM := Lib.hid (HTB.out.named k ⟨m1, m2, m3, m4, m5⟩)
          have y0 := (HTB.out.sat.r.of_eq HF3.out).r.cell (i := 0) rfl
          have y1 := (HTB.out.sat.r.of_eq HF3.out).r.cell (i := 1) rfl
          have y2 := (HTB.out.sat.r.of_eq HF3.out).r.cell (i := 2) rfl
          have y3 := (HTB.out.sat.r.of_eq HF3.out).r.cell (i := 3) rfl
          have y4 := (HTB.out.sat.r.of_eq HF3.out).r.cell (i := 4) rfl
          have ly := (HTB.out.sat.r.of_eq HF3.out).r.lt
          clear hs3 hT2 HX
          go_wp2_with fail
          refine Calls.mono HNM.out ?_
          rintro e w5 ⟨rfl, N', h5⟩
          have H5 := Lib.hid (h5.less.of_eq HF3.out)
          clear h5 y0 y1 y2 y3 y4 ly
          go_wp2
          go_ret
          exact ⟨0, _, N', rfl, .inr ⟨rfl, rfl⟩, H5.out.less.less⟩
    · go_wp2
      go_ret
      exact ⟨6, S, N, rfl, HNO.out 6 (by decide), H3.out.less.less⟩

end Go.Proofs.Yticljfpippbkkaa

/-
  A table: Define in a group. Conditions: those that each theorem names.
-/
namespace Go.Proofs.Yticljfpippbkkaa
open Go.RowKit Go.Sp
variable {W w w' : World} {F A : HProp}


set_option maxRecDepth 100000 in
set_option maxHeartbeats 8000000 in
theorem def_loc {b N : Nat} {S : TabS} (k : ByteArray) (m : Mean) (S0 : List GrpS) (g : GrpS) (hS : S.groups = S0 ++ [g]) (h : TabAt W F b N S w) :
    Calls Try.prog 43 #[.pointer (some ⟨b, 0, none⟩), .string k, m.val, .bool false] w fun e w' => ∃ E S' N', e = .returned (.int .i64 E) ∧ DefR S S' k m false E ∧ TabAt W F b N' S' w' := by
  obtain ⟨m1, m2, m3, m4, m5⟩ := m
  have hK : KeyT Try.prog 9 Value.string := keyT_string Try.underlying9
  have hb := h.allocX (.cells #[.int .i64 m1, .int .i64 m2, .int .i64 m3, .int .i64 m4, .string m5] 103)
  obtain ⟨b6, hb6⟩ : ∃ b6, w.heap.size = b6 := ⟨_, rfl⟩
  rw [hb6] at hb
  have HB := Lib.hid hb
  have HG := Lib.hid (good_any hb)
  have HMR := Lib.hid (mright_any ⟨m1, m2, m3, m4, m5⟩ (w.alloc (.cells #[.int .i64 m1, .int .i64 m2, .int .i64 m3, .int .i64 m4, .string m5] 103)))
  have x0 := hb.sat.cell (i := 0) rfl
  have x1 := hb.sat.cell (i := 1) rfl
  have x2 := hb.sat.cell (i := 2) rfl
  have x3 := hb.sat.cell (i := 3) rfl
  have x4 := hb.sat.cell (i := 4) rfl
  have lx := hb.sat.lt
  have HNO := Lib.hid (show ∀ E : Int, E ≠ 0 → DefR S S k ⟨m1, m2, m3, m4, m5⟩ false E from fun E h => .inl ⟨h, rfl⟩)
  clear h hb
  go_enter Try.func43, Try.ntmps43
  go_wp2_with fail
  refine Calls.mono HG.out ?_
  rintro e w' ⟨rfl, rfl⟩
  generalize w.alloc (.cells #[.int .i64 m1, .int .i64 m2, .int .i64 m3, .int .i64 m4, .string m5] 103) = W1 at *
  go_wp2_with fail
  refine Calls.mono HMR.out ?_
  rintro e w2 ⟨⟨r, rfl⟩, hx⟩
  have H2 := Lib.hid (HB.out.ext hx)
  clear x0 x1 x2 x3 x4 lx hx HB hb6
  rcases r with _ | _
  · go_wp2
    go_ret
    exact ⟨1, S, N, rfl, HNO.out 1 (by decide), H2.out.less⟩
  obtain ⟨lk, hlk⟩ : ∃ lk, lookN S.names k = lk := ⟨_, rfl⟩
  have HLK := Lib.hid hlk
  clear hlk
  obtain ⟨ro, nm, gs, lt, R, V, hT, hs⟩ := H2.out
  have hl := Sat.map_look hK Try.underlying55 zero_mean (hs.of_eq (show _ = mapH Value.string Mean.val nm N S.names * (pts b (.cells (tabCells nm R gs lt) 64) * (roH ro * (row gs V.length 143 4 (flatG V) * (grpsH ro V S.groups * (pts b6 (.cells #[.int .i64 m1, .int .i64 m2, .int .i64 m3, .int .i64 m4, .string m5] 103) * F))))) by ac_rfl)) k false
  simp only [Bool.false_eq_true, if_false, lookN_val, HLK.out] at hl
  have hln := Sat.map_len Try.underlying55 ((hs.allocD (o := .cells #[.int .i64 lk.kind, .int .i64 lk.cls, .int .i64 lk.code, .int .i64 lk.cat, .string lk.text] 103)).of_eq (show _ = mapH Value.string Mean.val nm N S.names * (pts b (.cells (tabCells nm R gs lt) 64) * (roH ro * (row gs V.length 143 4 (flatG V) * (grpsH ro V S.groups * (pts b6 (.cells #[.int .i64 m1, .int .i64 m2, .int .i64 m3, .int .i64 m4, .string m5] 103) * F))))) by ac_rfl)) 3
  obtain ⟨len, -, hln⟩ := hln
  have c0 := hs.cell (i := 0) (tab_names nm R gs lt)
  have lb := hs.lt
  have y0 := H2.out.sat.cell (i := 0) rfl
  have y1 := H2.out.sat.cell (i := 1) rfl
  have y2 := H2.out.sat.cell (i := 2) rfl
  have y3 := H2.out.sat.cell (i := 3) rfl
  have y4 := H2.out.sat.cell (i := 4) rfl
  have ly := H2.out.sat.lt
  have H3 := Lib.hid (H2.out.allocX (.cells #[.int .i64 lk.kind, .int .i64 lk.cls, .int .i64 lk.code, .int .i64 lk.cat, .string lk.text] 103))
  obtain ⟨o1, o2, o3, o4, o5⟩ := lk
  simp only [Mean.val] at hl
  simp only at H3 hln
  obtain ⟨b9, hb9⟩ : ∃ b9, w2.heap.size = b9 := ⟨_, rfl⟩
  rw [hb9] at H3
  have q1 := fun w => run_eql_mean w ⟨o1, o2, o3, o4, o5⟩ mean0
  have q2 := fun w => run_neq_mean w ⟨m1, m2, m3, m4, m5⟩ mean0
  simp only [Mean.val, mean0] at q1 q2
  generalize meanB ⟨o1, o2, o3, o4, o5⟩ ⟨0, 0, 0, 0, ⟨#[]⟩⟩ = zo at q1
  generalize meanB ⟨m1, m2, m3, m4, m5⟩ ⟨0, 0, 0, 0, ⟨#[]⟩⟩ = zm at q2
  have HNM0 := Lib.hid (show ∃ (gs' : Value) (ro' : HProp) (lt' : Value) (R' : Nat → RegV) (V' : Nat), Sat W (pts b (.cells (tabCells nm R' gs' lt') 64) * ro') (w2.alloc (.cells #[.int .i64 o1, .int .i64 o2, .int .i64 o3, .int .i64 o4, .string o5] 103)) from ⟨gs, _, lt, R, 0, hs.allocD⟩)
  clear hs hT H2 HMR HG
  go_upto_region 4 with fail
  generalize w2.alloc (.cells #[.int .i64 o1, .int .i64 o2, .int .i64 o3, .int .i64 o4, .string o5] 103) = W3 at *
  clear hb9 hl c0 lb y0 y1 y2 y3 y4 ly
  have d0 := H3.out.sat.cell (i := 0) rfl
  have d1 := H3.out.sat.cell (i := 1) rfl
  have d2 := H3.out.sat.cell (i := 2) rfl
  have d3 := H3.out.sat.cell (i := 3) rfl
  have d4 := H3.out.sat.cell (i := 4) rfl
  have ld := H3.out.sat.lt
  have y0 := H3.out.sat.r.cell (i := 0) rfl
  have y1 := H3.out.sat.r.cell (i := 1) rfl
  have y2 := H3.out.sat.r.cell (i := 2) rfl
  have y3 := H3.out.sat.r.cell (i := 3) rfl
  have y4 := H3.out.sat.r.cell (i := 4) rfl
  have ly := H3.out.sat.r.lt
  have c0 : W3.cell? ⟨b, 0, none⟩ = some (.map (some nm)) := by
    obtain ⟨gs', ro', lt', R', V', hs'⟩ := HNM0.out
    exact hs'.cell (i := 0) (tab_names nm R' gs' lt')
  have lb : b < W3.heap.size := by
    obtain ⟨gs', ro', lt', R', V', hs'⟩ := HNM0.out
    exact hs'.lt
  go_cut [44] from 29 to 45 (fun s44 wx => ∃ r : Bool, s44 = .bool r ∧ W3 = wx)
  case first => as_aux_lemma =>
    rcases zo with _ | _
    · go_wp2
      go_meet
      exact ⟨_, rfl, rfl⟩
    · rcases zm with _ | _
      · go_wp2
        go_meet
        exact ⟨_, rfl, rfl⟩
      · go_wp2
        go_meet
        exact ⟨_, rfl, rfl⟩
  case rest =>
    obtain ⟨r, rfl, rfl⟩ := hcut
    rcases r with _ | _
    · clear d0 d1 d2 d3 d4 ld y0 y1 y2 y3 y4 ly c0 lb HNM0 q1 q2
      obtain ⟨F3, hF3⟩ : ∃ F3, F3 = pts b9 (.cells #[.int .i64 o1, .int .i64 o2, .int .i64 o3, .int .i64 o4, .string o5] 103) * (pts b6 (.cells #[.int .i64 m1, .int .i64 m2, .int .i64 m3, .int .i64 m4, .string m5] 103) * F) := ⟨_, rfl⟩
      have HF3 := Lib.hid hF3
      rw [← hF3] at H3
      obtain ⟨ro', nm', lt', R', V0, v, f, gb, cap, nn, rn, hO, hs⟩ := H3.out.open1 hS
      have HO := Lib.hid hO
      obtain ⟨n, hn⟩ : ∃ n, S0.length = n := ⟨_, rfl⟩
      rw [hn] at hs
      have HN := Lib.hid hn
      have hget := flatG_get (V0 ++ [v]) n 1 (.map (some v.nb)) (by simp [hO.len, hn]) (by rw [List.getElem_append_right (by rw [hO.len]; omega)]; simp [hO.len, hn, GrpV.cells])
      have HGET := Lib.hid hget
      have hn2 : n + 1 ≤ 200 := by rw [← hn]; exact hO.le
      have hl2 := Sat.map_look hK Try.underlying55 zero_mean (hs.of_eq (show _ = mapH Value.string Mean.val v.nb nn g.names * (row (.slice (some ⟨gb, 0, none⟩) (n + 1) cap) (n + 1) 143 4 (flatG (V0 ++ [v])) * (mapH kE2 RegV.val v.rb rn f * (pts b (.cells (tabCells nm' R' (.slice (some ⟨gb, 0, none⟩) (n + 1) cap) lt') 64) * (rowT v.av g.after * (roH ro' * (mapH Value.string Mean.val nm' N S.names * (grpsH ro' V0 S0 * F3))))))) by unfold openH; ac_rfl)) k true
      simp only [if_true] at hl2
      have c0 := hs.r.r.cell (i := 10753) (tab_groups nm' R' _ lt')
      have lb := hs.r.r.lt
      have c1 := hs.row_cell hget
      have q2 : ((n : Int) + 1 > 0) := by omega
      have wn : IntKind.i64.wrap (n : Int) = (n : Int) := IntWalk.i64_in _ (by omega)
      have wn0 : (0 : Int) ≤ (n : Int) := by omega
      have wn1 : (n : Int) < (n : Int) + 1 := by omega
      have HSS := Lib.hid hS
      clear hget hn hO hF3 H3 hS hln
      rcases hgk : g.names k with _ | ⟨n1, n2, n3, n4, n5⟩
      · rw [hgk] at hl2
        simp only [Option.map_none, Option.getD_none, Option.isSome_none, Mean.val, mean0] at hl2
        have hbz := hs.alloc (.cells #[.int .i64 0, .int .i64 0, .int .i64 0, .int .i64 0, .string ⟨#[]⟩] 103)
        obtain ⟨bz, hz⟩ : ∃ bz, W3.heap.size = bz := ⟨_, rfl⟩
        rw [hz] at hbz
        have HBZ := Lib.hid (hbz.of_eq (show _ = row (.slice (some ⟨gb, 0, none⟩) (n + 1) cap) (n + 1) 143 4 (flatG (V0 ++ [v])) * (mapH Value.string Mean.val v.nb nn g.names * (pts b (.cells (tabCells nm' R' (.slice (some ⟨gb, 0, none⟩) (n + 1) cap) lt') 64) * (mapH kE2 RegV.val v.rb rn f * (rowT v.av g.after * (roH ro' * (mapH Value.string Mean.val nm' N S.names * (grpsH ro' V0 S0 * (pts bz (.cells #[.int .i64 0, .int .i64 0, .int .i64 0, .int .i64 0, .string ⟨#[]⟩] 103) * F3)))))))) by unfold openH; ac_rfl))
        have HKN := Lib.hid (show g.keepN k (lookN S.names k) = { g with names := mput g.names k ⟨o1, o2, o3, o4, o5⟩ } by rw [GrpS.keepN, hgk, HLK.out])
        clear hs hbz hgk
        go_upto_region 16 with fail
        generalize W3.alloc (.cells #[.int .i64 0, .int .i64 0, .int .i64 0, .int .i64 0, .string ⟨#[]⟩] 103) = W4 at *
        clear c0 lb c1 hl2 hz
        have HD := Lib.hid (HBZ.out.drew)
        clear HBZ
        obtain ⟨W5, hW5⟩ : ∃ W5, W4.drew = W5 := ⟨_, rfl⟩
        rw [hW5] at HD
        have HC := Lib.hid (show ∀ (X : HProp) w', Sat W (row (.slice (some ⟨gb, 0, none⟩) (n + 1) cap) (n + 1) 143 4 (flatG (V0 ++ [v])) * (pts b (.cells (tabCells nm' R' (.slice (some ⟨gb, 0, none⟩) (n + 1) cap) lt') 64) * (pts b9 (.cells #[.int .i64 o1, .int .i64 o2, .int .i64 o3, .int .i64 o4, .string o5] 103) * X))) w' →
            w'.cell? ⟨b, 10753, none⟩ = some (.slice (some ⟨gb, 0, none⟩) (n + 1) cap) ∧ w'.cell? ⟨gb, n * 4 + 1, none⟩ = some (.map (some v.nb)) ∧ w'.cell? ⟨b9, 0, none⟩ = some (.int .i64 o1) ∧ w'.cell? ⟨b9, 1, none⟩ = some (.int .i64 o2) ∧ w'.cell? ⟨b9, 2, none⟩ = some (.int .i64 o3) ∧ w'.cell? ⟨b9, 3, none⟩ = some (.int .i64 o4) ∧ w'.cell? ⟨b9, 4, none⟩ = some (.string o5) from fun X w' h =>
          ⟨h.r.cell (tab_groups nm' R' _ lt'), h.row_cell HGET.out, h.r.r.cell rfl, h.r.r.cell rfl, h.r.r.cell rfl, h.r.r.cell rfl, h.r.r.cell rfl⟩)
        obtain ⟨GC, hGC⟩ : ∃ GC : World → Prop, GC = fun w' => ∃ X, Sat W (row (.slice (some ⟨gb, 0, none⟩) (n + 1) cap) (n + 1) 143 4 (flatG (V0 ++ [v])) * (pts b (.cells (tabCells nm' R' (.slice (some ⟨gb, 0, none⟩) (n + 1) cap) lt') 64) * (pts b9 (.cells #[.int .i64 o1, .int .i64 o2, .int .i64 o3, .int .i64 o4, .string o5] 103) * X))) w' := ⟨_, rfl⟩
        have HG1 := Lib.hid (show ∀ w', GC w' → _ from fun w' h => by rw [hGC] at h; obtain ⟨X, h⟩ := h; exact HC.out X w' h)
        have HG2 := Lib.hid (show GC W5 by
          have h1 := HD.out
          rw [HF3.out] at h1
          rw [hGC]
          exact ⟨mapH Value.string Mean.val v.nb nn g.names * (mapH kE2 RegV.val v.rb rn f * (rowT v.av g.after * (roH ro' * (mapH Value.string Mean.val nm' N S.names * (grpsH ro' V0 S0 * (pts bz (.cells #[.int .i64 0, .int .i64 0, .int .i64 0, .int .i64 0, .string ⟨#[]⟩] 103) * (pts b6 (.cells #[.int .i64 m1, .int .i64 m2, .int .i64 m3, .int .i64 m4, .string m5] 103) * F))))))), h1.of_eq (by ac_rfl)⟩)
        obtain ⟨w6, hup, hs6⟩ := Sat.map_upd hK Try.underlying55 (HD.out.of_eq (show _ = mapH Value.string Mean.val v.nb nn g.names * (row (.slice (some ⟨gb, 0, none⟩) (n + 1) cap) (n + 1) 143 4 (flatG (V0 ++ [v])) * (pts b (.cells (tabCells nm' R' (.slice (some ⟨gb, 0, none⟩) (n + 1) cap) lt') 64) * (mapH kE2 RegV.val v.rb rn f * (rowT v.av g.after * (roH ro' * (mapH Value.string Mean.val nm' N S.names * (grpsH ro' V0 S0 * (pts bz (.cells #[.int .i64 0, .int .i64 0, .int .i64 0, .int .i64 0, .string ⟨#[]⟩] 103) * F3)))))))) by ac_rfl)) k ⟨o1, o2, o3, o4, o5⟩
        have HS6 := Lib.hid hs6
        simp only [Mean.val] at hup
        clear hs6 hGC HC HD
        refine wp_region_E GC (by kernel_rfl) ?_
        rw [hW5]
        clear hW5
        refine wpE_take (i := 0) (q := 11) (v := ?_) rfl (by kernel_rfl) (by kernel_rfl) (by kernel_rfl) (by kernel_rfl) (by kernel_rfl) (fun _ _ _ h => h) (by rfl) ?_ ?_
        rotate_left 1
        · intro w hw; go_simp; try with_reducible rfl
        refine wpE_take (i := 1) (q := 11) (v := ?_) rfl (by kernel_rfl) (by kernel_rfl) (by kernel_rfl) (by kernel_rfl) (by kernel_rfl) (fun _ _ _ h => h) (by rfl) ?_ ?_
        rotate_left 1
        · intro w hw; go_simp; try with_reducible rfl
        refine wpE_take (i := 2) (q := 11) (v := ?_) rfl (by kernel_rfl) (by kernel_rfl) (by kernel_rfl) (by kernel_rfl) (by kernel_rfl) (fun _ _ _ h => h) (by rfl) ?_ ?_
        rotate_left 1
        · intro w hw; go_simp; try with_reducible rfl
        refine wpE_take (i := 3) (q := 11) (v := ?_) rfl (by kernel_rfl) (by kernel_rfl) (by kernel_rfl) (by kernel_rfl) (by kernel_rfl) (fun _ _ _ h => h) (by rfl) ?_ ?_
        rotate_left 1
        · intro w hw; (obtain ⟨e1, e2, e3, e4, e5, e6, e7⟩ := HG1.out _ hw; go_simp; try with_reducible rfl)
        refine wpE_take (i := 4) (q := 11) (v := ?_) rfl (by kernel_rfl) (by kernel_rfl) (by kernel_rfl) (by kernel_rfl) (by kernel_rfl) (fun _ _ _ h => h) (by rfl) ?_ ?_
        rotate_left 1
        · intro w hw; go_simp; try with_reducible rfl
        refine wpE_take (i := 5) (q := 11) (v := ?_) rfl (by kernel_rfl) (by kernel_rfl) (by kernel_rfl) (by kernel_rfl) (by kernel_rfl) (fun _ _ _ h => h) (by rfl) ?_ ?_
        rotate_left 1
        · intro w hw; go_simp; try with_reducible rfl
        refine wpE_take (i := 6) (q := 11) (v := ?_) rfl (by kernel_rfl) (by kernel_rfl) (by kernel_rfl) (by kernel_rfl) (by kernel_rfl) (fun _ _ _ h => h) (by rfl) ?_ ?_
        rotate_left 1
        · intro w hw; go_simp; try with_reducible rfl
        refine wpE_take (i := 7) (q := 11) (v := ?_) rfl (by kernel_rfl) (by kernel_rfl) (by kernel_rfl) (by kernel_rfl) (by kernel_rfl) (fun _ _ _ h => h) (by rfl) ?_ ?_
        rotate_left 1
        · intro w hw; go_simp; try with_reducible rfl
        refine wpE_take (i := 8) (q := 11) (v := ?_) rfl (by kernel_rfl) (by kernel_rfl) (by kernel_rfl) (by kernel_rfl) (by kernel_rfl) (fun _ _ _ h => h) (by rfl) ?_ ?_
        rotate_left 1
        · intro w hw; (obtain ⟨e1, e2, e3, e4, e5, e6, e7⟩ := HG1.out _ hw; go_simp; try with_reducible rfl)
        refine wpE_take (i := 9) (q := 11) (v := ?_) rfl (by kernel_rfl) (by kernel_rfl) (by kernel_rfl) (by kernel_rfl) (by kernel_rfl) (fun _ _ _ h => h) (by rfl) ?_ ?_
        rotate_left 1
        · intro w hw; go_simp; try with_reducible rfl
        refine wpE_take (i := 10) (q := 11) (v := ?_) rfl (by kernel_rfl) (by kernel_rfl) (by kernel_rfl) (by kernel_rfl) (by kernel_rfl) (fun _ _ _ h => h) (by rfl) ?_ ?_
        rotate_left 1
        · intro w hw; (obtain ⟨e1, e2, e3, e4, e5, e6, e7⟩ := HG1.out _ hw; go_simp; try with_reducible rfl)
        refine wpE_one (i := 11) rfl (by kernel_rfl) (HG2.out) (fun K hK => ?_)
        go_simp
        refine hK _ _ ?_
        clear hK K
        refine wpE_done (by kernel_rfl) (by kernel_rfl) ?_
        clear hup wn wn0 wn1 q2 HG1 HG2
        have HO2 := Lib.hid (show OpenF S S0 { g with names := mput g.names k ⟨o1, o2, o3, o4, o5⟩ } ro' lt' R' V0 v f from ⟨HO.out.regs, HO.out.later, HO.out.laterL, HO.out.len, HO.out.le, HO.out.kind, HO.out.after, HO.out.rep⟩)
        have HTB := Lib.hid (TabAt.close1 (b := b) (N := N) (w := w6) (nm := nm') (gb := gb) (cap := cap) (nn := (nn + 1)) (rn := rn) (F := pts bz (.cells #[.int .i64 0, .int .i64 0, .int .i64 0, .int .i64 0, .string ⟨#[]⟩] 103) * F3) HO2.out (by rw [HN.out]; exact (HS6.out.of_eq (by unfold openH; ac_rfl))))
        have HNM := Lib.hid (HTB.out.named k ⟨m1, m2, m3, m4, m5⟩)
        have y0 := (HTB.out.sat.r.of_eq HF3.out).r.cell (i := 0) rfl
        have y1 := (HTB.out.sat.r.of_eq HF3.out).r.cell (i := 1) rfl
        have y2 := (HTB.out.sat.r.of_eq HF3.out).r.cell (i := 2) rfl
        have y3 := (HTB.out.sat.r.of_eq HF3.out).r.cell (i := 3) rfl
        have y4 := (HTB.out.sat.r.of_eq HF3.out).r.cell (i := 4) rfl
        have ly := (HTB.out.sat.r.of_eq HF3.out).r.lt
        have HDEF := Lib.hid (show { S with names := nameM S.names k ⟨m1, m2, m3, m4, m5⟩, groups := S0 ++ [{ g with names := mput g.names k ⟨o1, o2, o3, o4, o5⟩ }] } = defS S k ⟨m1, m2, m3, m4, m5⟩ false by
          rw [defS, HSS.out, List.dropLast_concat, List.getLast?_concat, Option.map_some, Option.toList_some, HKN.out])
        go_wp2_with fail
        refine Calls.mono HNM.out ?_
        rintro e w5 ⟨rfl, N', h5⟩
        have H5 := Lib.hid (h5.less.of_eq HF3.out)
        clear h5 y0 y1 y2 y3 y4 ly
        go_wp2
        go_ret
        have h6 := H5.out.less.less
        clear H5
        refine ⟨0, defS S k ⟨m1, m2, m3, m4, m5⟩ false, N', rfl, .inr ⟨rfl, rfl⟩, ?_⟩
        rw [← HDEF.out]
        exact h6
      · rw [hgk] at hl2
        simp only [Option.map_some, Option.getD_some, Option.isSome_some, Mean.val] at hl2
        have hbz := hs.alloc (.cells #[.int .i64 n1, .int .i64 n2, .int .i64 n3, .int .i64 n4, .string n5] 103)
        obtain ⟨bz, hz⟩ : ∃ bz, W3.heap.size = bz := ⟨_, rfl⟩
        rw [hz] at hbz
        have HBZ := Lib.hid (hbz.of_eq (show _ = row (.slice (some ⟨gb, 0, none⟩) (n + 1) cap) (n + 1) 143 4 (flatG (V0 ++ [v])) * (mapH Value.string Mean.val v.nb nn g.names * (pts b (.cells (tabCells nm' R' (.slice (some ⟨gb, 0, none⟩) (n + 1) cap) lt') 64) * (mapH kE2 RegV.val v.rb rn f * (rowT v.av g.after * (roH ro' * (mapH Value.string Mean.val nm' N S.names * (grpsH ro' V0 S0 * (pts bz (.cells #[.int .i64 n1, .int .i64 n2, .int .i64 n3, .int .i64 n4, .string n5] 103) * F3)))))))) by unfold openH; ac_rfl))
        have HKN := Lib.hid (show g.keepN k (lookN S.names k) = g by rw [GrpS.keepN, hgk])
        have HO2 := Lib.hid (show OpenF S S0 g ro' lt' R' V0 v f from ⟨HO.out.regs, HO.out.later, HO.out.laterL, HO.out.len, HO.out.le, HO.out.kind, HO.out.after, HO.out.rep⟩)
        have HTB := Lib.hid (TabAt.close1 (b := b) (N := N) (w := (W3.alloc (.cells #[.int .i64 n1, .int .i64 n2, .int .i64 n3, .int .i64 n4, .string n5] 103))) (nm := nm') (gb := gb) (cap := cap) (nn := nn) (rn := rn) (F := pts bz (.cells #[.int .i64 n1, .int .i64 n2, .int .i64 n3, .int .i64 n4, .string n5] 103) * F3) HO2.out (by rw [HN.out]; exact (HBZ.out.of_eq (by unfold openH; ac_rfl))))
        have HNM := Lib.hid (HTB.out.named k ⟨m1, m2, m3, m4, m5⟩)
        have y0 := (HTB.out.sat.r.of_eq HF3.out).r.cell (i := 0) rfl
        have y1 := (HTB.out.sat.r.of_eq HF3.out).r.cell (i := 1) rfl
        have y2 := (HTB.out.sat.r.of_eq HF3.out).r.cell (i := 2) rfl
        have y3 := (HTB.out.sat.r.of_eq HF3.out).r.cell (i := 3) rfl
        have y4 := (HTB.out.sat.r.of_eq HF3.out).r.cell (i := 4) rfl
        have ly := (HTB.out.sat.r.of_eq HF3.out).r.lt
        have HDEF := Lib.hid (show { S with names := nameM S.names k ⟨m1, m2, m3, m4, m5⟩, groups := S0 ++ [g] } = defS S k ⟨m1, m2, m3, m4, m5⟩ false by
          rw [defS, HSS.out, List.dropLast_concat, List.getLast?_concat, Option.map_some, Option.toList_some, HKN.out])
        clear hs hbz hgk
        go_wp2_with fail
        refine Calls.mono HNM.out ?_
        rintro e w5 ⟨rfl, N', h5⟩
        have H5 := Lib.hid (h5.less.of_eq HF3.out)
        clear h5 y0 y1 y2 y3 y4 ly
        go_wp2
        go_ret
        have h6 := H5.out.less.less
        clear H5
        refine ⟨0, defS S k ⟨m1, m2, m3, m4, m5⟩ false, N', rfl, .inr ⟨rfl, rfl⟩, ?_⟩
        rw [← HDEF.out]
        exact h6
    · go_wp2
      go_ret
      exact ⟨6, S, N, rfl, HNO.out 6 (by decide), H3.out.less.less⟩

theorem define_any {b N : Nat} {S : TabS} (k : ByteArray) (m : Mean) (g : Bool) (h : TabAt W F b N S w) :
    Calls Try.prog 43 #[.pointer (some ⟨b, 0, none⟩), .string k, m.val, .bool g] w fun e w' => ∃ E S' N', e = .returned (.int .i64 E) ∧ DefR S S' k m g E ∧ TabAt W F b N' S' w' := by
  cases g with
  | true => exact def_glob k m h
  | false =>
    rcases List.eq_nil_or_concat S.groups with hg | ⟨S0, g, hg⟩
    · exact def_flat k m hg h
    · exact def_loc k m S0 g (by rw [hg, List.concat_eq_append]) h

end Go.Proofs.Yticljfpippbkkaa

/-
  The law's own functions: a value given, a meaning, values compared. Conditions: those that each theorem names.
-/
namespace Go.Proofs.Yticljfpippbkkaa
open Go.RowKit Go.Sp
variable {W w w' : World} {F A : HProp}

end Go.Proofs.Yticljfpippbkkaa

/-
  The law's apply: a call that changes something. Conditions: those that each theorem names.
-/
namespace Go.Proofs.Yticljfpippbkkaa
open Go.RowKit Go.Sp
variable {W w w' : World} {F A : HProp}

theorem TabAt.call {b N : Nat} {S : TabS} (h : TabAt W F b N S w) (k : Sat w (A * own w) w') : TabAt W (A * F) b N S w' := by
  obtain ⟨Y, h1, h2⟩ := h.focus
  exact h2 _ _ (Sat.frame h1 k).asc'

structure OpS where
  kind : Int
  cls : Int
  i : Int
  n : Int
  name : ByteArray
  m : Mean
  v : RegS
  x : Tok
  glob : Bool
abbrev OpS.cells (o : OpS) (s : Value) : Array Value := #[.int .i64 o.kind, .int .i64 o.cls, .int .i64 o.i, .int .i64 o.n, .string o.name, .int .i64 o.m.kind, .int .i64 o.m.cls, .int .i64 o.m.code, .int .i64 o.m.cat, .string o.m.text,
  .int .i64 o.v.n, .int .i64 o.v.g.nat, .int .i64 o.v.g.stretch, .int .i64 o.v.g.shrink, .int .i64 o.v.g.so, .int .i64 o.v.g.ko, s, .int .i64 o.x.cat, .int .u8 o.x.chr.toNat, .string o.x.name, .bool o.glob]
abbrev OpS.val (o : OpS) (s : Value) : Value := .agg (o.cells s)

/-- the keys of all groups' registers are registers -/
def TabS.ok (S : TabS) : Prop := ∀ g ∈ S.groups, g.keysOK

/-- what a step makes of a table -/
inductive StepR (o : OpS) (g : Bool) (S : TabS) : TabS → Prop
  | none : StepR o g S S
  | begun (k : Int) : o.kind = 1 → StepR o g S (beginS S k)
  | ended (S0 : List GrpS) (gr : GrpS) : o.kind = 2 → S.groups = S0 ++ [gr] → StepR o g S (S.ended S0 gr)
  | defined (E : Int) (S' : TabS) : DefR S S' o.name o.m g E → StepR o g S S'
  | set : StepR o g S (setT S o.cls o.i o.v g)
  | arith (E er : Int) (z : Int → Int) (ok : Prop) (S' : TabS) : ArithR S S' o.cls o.i g E z ok er → StepR o g S S'


end Go.Proofs.Yticljfpippbkkaa

/-
  Steps of a table, in plain Lean. Conditions: those that each theorem names.
-/
namespace Go.Proofs.Yticljfpippbkkaa
open Go.RowKit Go.Sp

theorem keysOK_grp0 (k : Int) : (grp0 k).keysOK := fun _ _ h => by cases h
theorem keysOK_regs {g g' : GrpS} (h : g.keysOK) (e : g'.regs = g.regs) : g'.keysOK := fun k r hk => h k r (e ▸ hk)
theorem keysOK_delR {g : GrpS} (h : g.keysOK) (k : Int × Int) : (g.delR k).keysOK := fun j r hj => by
  by_cases hjk : j = k
  · subst hjk; simp only [GrpS.delR] at hj; rw [mdel_same] at hj; cases hj
  · simp only [GrpS.delR] at hj; rw [mdel_other _ hjk] at hj; exact h j r hj
theorem keysOK_keepR {g : GrpS} (h : g.keysOK) {c i : Nat} (hc : c ≤ 5) (hi : i < 256) (r : RegS) : (g.keepR ((c : Int), (i : Int)) r).keysOK := fun j q hj => by
  unfold GrpS.keepR at hj
  split at hj
  · exact h j q hj
  · by_cases hjk : j = ((c : Int), (i : Int))
    · exact ⟨c, i, hjk, hc, hi⟩
    · simp only at hj; rw [mput_other _ _ hjk] at hj; exact h j q hj

theorem mem_last {l : List GrpS} {f : GrpS → GrpS} {g : GrpS} (h : g ∈ l.dropLast ++ (l.getLast?.map f).toList) : g ∈ l ∨ ∃ q ∈ l, g = f q := by
  rcases List.eq_nil_or_concat l with rfl | ⟨l0, x, rfl⟩
  · simp at h
  · rw [List.concat_eq_append] at h ⊢
    rw [List.dropLast_concat, List.getLast?_concat] at h
    simp only [Option.map_some, Option.toList_some, List.mem_append, List.mem_singleton] at h
    rcases h with h | h
    · exact .inl (by simp [h])
    · exact .inr ⟨x, by simp, h⟩

theorem putS_ok {S : TabS} (h : S.ok) {c i : Nat} (hc : c ≤ 5) (hi : i < 256) (r : RegS) (g : Bool) : (putS S c i r g).ok := by
  intro q hq
  cases g with
  | true =>
    simp only [putS, List.mem_map] at hq
    obtain ⟨x, hx, rfl⟩ := hq
    exact keysOK_delR (h x hx) _
  | false =>
    simp only [putS] at hq
    rcases mem_last hq with hq | ⟨x, hx, rfl⟩
    · exact h q hq
    · exact keysOK_keepR (h x hx) hc hi _

theorem setT_ok {S : TabS} (h : S.ok) (c i : Int) (v : RegS) (g : Bool) : (setT S c i v g).ok := by
  unfold setT
  split
  · rename_i he
    have hw : wrongE c i = 0 := by
      by_cases hw : wrongE c i = 0
      · exact hw
      · rw [setE, if_pos hw] at he; exact he
    obtain ⟨c', i', rfl, rfl, h1, h2, h3⟩ := wrongE_nat hw
    rw [Int.toNat_natCast, Int.toNat_natCast]
    exact putS_ok h h2 h3 _ _
  · exact h

theorem defS_ok {S : TabS} (h : S.ok) (k : ByteArray) (m : Mean) (g : Bool) : (defS S k m g).ok := by
  intro q hq
  cases g with
  | true =>
    simp only [defS, List.mem_map] at hq
    obtain ⟨x, hx, rfl⟩ := hq
    exact keysOK_regs (h x hx) rfl
  | false =>
    simp only [defS] at hq
    rcases mem_last hq with hq | ⟨x, hx, rfl⟩
    · exact h q hq
    · refine keysOK_regs (h x hx) ?_
      unfold GrpS.keepN
      split <;> rfl

theorem ended_ok {S : TabS} {S0 : List GrpS} {g : GrpS} (h : S.ok) (hS : S.groups = S0 ++ [g]) : (S.ended S0 g).ok := fun q hq => h q (by rw [hS]; simp only [TabS.ended] at hq; simp [hq])

theorem step_ok {o : OpS} {g : Bool} {S S' : TabS} (h : S.ok) (hs : StepR o g S S') : S'.ok := by
  cases hs with
  | none => exact h
  | begun k _ =>
    unfold beginS
    split
    · intro q hq
      simp only [TabS.begun, List.mem_append, List.mem_singleton] at hq
      rcases hq with hq | rfl
      · exact h q hq
      · exact keysOK_grp0 k
    · exact h
  | ended S0 gr _ hS => exact ended_ok h hS
  | defined E S' hd =>
    rcases hd with ⟨_, rfl⟩ | ⟨_, rfl⟩
    · exact h
    · exact defS_ok h _ _ _
  | set => exact setT_ok h _ _ _ _
  | arith E er z ok S' ha =>
    rcases ha with ⟨_, _, rfl⟩ | ⟨_, c', i', -, -, -, h2, h3, r, er', -, -, rfl⟩
    · exact h
    · unfold sumT
      split
      · exact h
      · split
        · exact putS_ok h h2 h3 _ _
        · exact h

/-! ### what is given globally stays -/
/-- a name is known to no group, and means m -/
def NameIn (S : TabS) (k : ByteArray) (m : Mean) : Prop := lookN S.names k = m ∧ ∀ g ∈ S.groups, g.names k = none
/-- a register is kept by no group, and is v -/
def RegIn (S : TabS) (c i : Nat) (v : RegS) : Prop := S.regs (c * 256 + i) = v ∧ ∀ g ∈ S.groups, g.regs ((c : Int), (i : Int)) = none

theorem lookN_nameM (T : ByteArray → Option Mean) (k : ByteArray) (m : Mean) : lookN (nameM T k m) k = m := by
  unfold lookN nameM
  split
  · rename_i h
    rw [mdel_same]
    exact ((meanB_eq _ _).1 h).symm
  · rw [mput_same]; rfl

theorem nameIn_def (S : TabS) (k : ByteArray) (m : Mean) : NameIn (defS S k m true) k m := by
  refine ⟨lookN_nameM _ _ _, fun g hg => ?_⟩
  simp only [defS, List.mem_map] at hg
  obtain ⟨x, _, rfl⟩ := hg
  simp only [GrpS.delN]
  exact mdel_same _ _
theorem regIn_put (S : TabS) (c i : Nat) (v : RegS) : RegIn (putS S c i v true) c i v := by
  refine ⟨by simp [putS, setS], fun g hg => ?_⟩
  simp only [putS, List.mem_map] at hg
  obtain ⟨x, _, rfl⟩ := hg
  simp only [GrpS.delR]
  exact mdel_same _ _
theorem nameIn_put {S : TabS} {k : ByteArray} {m : Mean} (h : NameIn S k m) (c i : Nat) (v : RegS) : NameIn (putS S c i v true) k m := by
  refine ⟨h.1, fun g hg => ?_⟩
  simp only [putS, List.mem_map] at hg
  obtain ⟨x, hx, rfl⟩ := hg
  exact h.2 x hx
theorem nameIn_end {S : TabS} {S0 : List GrpS} {g : GrpS} {k : ByteArray} {m : Mean} (h : NameIn S k m) (hS : S.groups = S0 ++ [g]) : NameIn (S.ended S0 g) k m := by
  have hg := h.2 g (by rw [hS]; simp)
  refine ⟨?_, fun q hq => h.2 q (by rw [hS]; simp only [TabS.ended] at hq; simp [hq])⟩
  rw [← h.1]
  simp only [TabS.ended, lookN, endN, hg]
theorem regIn_end {S : TabS} {S0 : List GrpS} {g : GrpS} {c i : Nat} (hi : i < 256) {v : RegS} (h : RegIn S c i v) (hS : S.groups = S0 ++ [g]) : RegIn (S.ended S0 g) c i v := by
  have hg := h.2 g (by rw [hS]; simp)
  refine ⟨?_, fun q hq => h.2 q (by rw [hS]; simp only [TabS.ended] at hq; simp [hq])⟩
  rw [← h.1]
  simp only [TabS.ended, endR, (keyJ_eq hi).2 rfl, hg]

end Go.Proofs.Yticljfpippbkkaa

/-
  The law's own: a register that is none, values that are the same. Conditions: those that each theorem names.
-/
namespace Go.Proofs.Yticljfpippbkkaa
open Go.RowKit Go.Sp
variable {W w w' : World} {F A : HProp}

set_option maxRecDepth 100000 in
set_option maxHeartbeats 4000000 in
theorem get_no {b N : Nat} {S : TabS} {c i : Int} (hw : wrongE c i ≠ 0) (h : TabAt W F b N S w) :
    Calls Try.prog 45 #[.pointer (some ⟨b, 0, none⟩), .int .i64 c, .int .i64 i] w fun e w' => ∃ er, er ≠ 0 ∧ e = .returned (.tuple #[.agg #[.int .i64 0, .int .i64 0, .int .i64 0, .int .i64 0, .int .i64 0, .int .i64 0, .slice none 0 0], .int .i64 er]) ∧ TabAt W F b N S w' := by
  have hb := h.allocX (.cells #[.int .i64 0, .int .i64 0, .int .i64 0, .int .i64 0, .int .i64 0, .int .i64 0, .slice none 0 0] 59)
  obtain ⟨bz, hbz⟩ : ∃ bz, w.heap.size = bz := ⟨_, rfl⟩
  rw [hbz] at hb
  have HW := Lib.hid (wrong_any c i hb)
  obtain ⟨er, her⟩ : ∃ er, wrongE c i = er := ⟨_, rfl⟩
  rw [her] at HW hw
  have q1 : (er == 0) = false := by rw [beq_eq_false_iff_ne]; exact hw
  have HER := Lib.hid hw
  obtain ⟨Y, hs0, back⟩ := hb.focus
  have BACK := Lib.hid back
  have hs1 := hs0.asc
  have x0 := hs1.cell (i := 0) rfl
  have x1 := hs1.cell (i := 1) rfl
  have x2 := hs1.cell (i := 2) rfl
  have x3 := hs1.cell (i := 3) rfl
  have x4 := hs1.cell (i := 4) rfl
  have x5 := hs1.cell (i := 5) rfl
  have x6 := hs1.cell (i := 6) rfl
  have f0 := hs1.free (i := 0)
  have f1 := hs1.free (i := 1)
  have f2 := hs1.free (i := 2)
  have f3 := hs1.free (i := 3)
  have f4 := hs1.free (i := 4)
  have f5 := hs1.free (i := 5)
  have f6 := hs1.free (i := 6)
  have lx := hs1.lt
  have hs2 := sat_set7 hs1 (.int .i64 0) (.int .i64 0) (.int .i64 0) (.int .i64 0) (.int .i64 0) (.int .i64 0) (.slice none 0 0)
  have HS2 := Lib.hid hs2
  clear h hb her hw hs0 hs1 hs2 back
  go_enter Try.func45, Try.ntmps45
  go_wp2_with fail
  refine Calls.mono HW.out ?_
  rintro e w' ⟨rfl, rfl⟩
  generalize w.alloc (.cells #[.int .i64 0, .int .i64 0, .int .i64 0, .int .i64 0, .int .i64 0, .int .i64 0, .slice none 0 0] 59) = W1 at *
  go_wp2
  (try simp only [Exit.inBlock, Exit.then])
  refine bodyPost_ret (v := .tuple #[.agg #[.int .i64 0, .int .i64 0, .int .i64 0, .int .i64 0, .int .i64 0, .int .i64 0, .slice none 0 0], .int .i64 er]) (by unfold results; go_simp) rfl ?_
  exact ⟨er, HER.out, rfl, (BACK.out _ _ HS2.out.asc').less⟩

theorem run_eq_glue2 (w : World) (g : Gl) : (Op.equalIn 10000 57 g.val g.val).run Try.prog w = .ok true w := by
  obtain ⟨a, b, c, d, e⟩ := g
  go_simp
theorem run_eql_glue2 (w : World) (g : Gl) : (binOp .eql 57 g.val g.val).run Try.prog w = .ok (.bool true) w := by
  simp only [binOp]
  simp [Op.equal, Op.maxDepth, run_eq_glue2 w g]

end Go.Proofs.Yticljfpippbkkaa
