
/-
  A table: Define. Conditions: those that each theorem names.
-/
import Derived.Test.YtebggkgciocciaaTabAD
namespace Go.Proofs.Ytebggkgciocciaa
open Go.RowKit Go.Sp
variable {W w w' : World} {F A : HProp}

noncomputable def GrpS.keepN (g : GrpS) (k : ByteArray) (m : Mean) : GrpS := match g.names k with | some _ => g | none => { g with names := mput g.names k m }
noncomputable def GrpS.delN (k : ByteArray) (g : GrpS) : GrpS := { g with names := mdel g.names k }
noncomputable def defS (S : TabS) (k : ByteArray) (m : Mean) : Bool → TabS
  | true => { S with names := nameM S.names k m, groups := S.groups.map (·.delN k) }
  | false => { S with names := nameM S.names k m, groups := S.groups.dropLast ++ (S.groups.getLast?.map (·.keepN k (lookN S.names k))).toList }
/-- an error, and nothing is changed; or the name is defined -/
def DefR (S S' : TabS) (k : ByteArray) (m : Mean) (g : Bool) (E : Int) : Prop := (E ≠ 0 ∧ S' = S) ∨ (E = 0 ∧ S' = defS S k m g)

abbrev mnO (m : Mean) : Obj := .cells #[.int .i64 m.kind, .int .i64 m.cls, .int .i64 m.code, .int .i64 m.cat, .string m.text] 52

/-- a name of the table gets a meaning -/
theorem TabAt.named {b N : Nat} {S : TabS} (k : ByteArray) (m : Mean) (h : TabAt W F b N S w) :
    Calls Try.prog 31 #[.pointer (some ⟨b, 0, none⟩), .string k, m.val] w fun e w' => e = .returned (.tuple #[]) ∧ ∃ N', TabAt W F b N' { S with names := nameM S.names k m } w' := by
  obtain ⟨ro, nm, gs, lt, R, V, h1, h2⟩ := h
  refine (name_any k m (h2.of_eq (show _ = pts b (.cells (tabCells nm R gs lt) 68) * (mapH Value.string Mean.val nm N S.names * (roH ro * (row gs V.length 71 4 (flatG V) * (grpsH ro V S.groups * F)))) by ac_rfl))).mono ?_
  rintro e w' ⟨he, N', hs⟩
  exact ⟨he, N', ro, nm, gs, lt, R, V, h1, hs.of_eq (by ac_rfl)⟩



set_option maxRecDepth 100000 in
set_option maxHeartbeats 8000000 in
theorem def_flat {b N : Nat} {S : TabS} (k : ByteArray) (m : Mean) (hS : S.groups = []) (h : TabAt W F b N S w) :
    Calls Try.prog 22 #[.pointer (some ⟨b, 0, none⟩), .string k, m.val, .bool false] w fun e w' => ∃ E S' N', e = .returned (.int .i64 E) ∧ DefR S S' k m false E ∧ TabAt W F b N' S' w' := by
  obtain ⟨m1, m2, m3, m4, m5⟩ := m
  have hK : KeyT Try.prog 9 Value.string := keyT_string Try.underlying9
  have hb := h.allocX (.cells #[.int .i64 m1, .int .i64 m2, .int .i64 m3, .int .i64 m4, .string m5] 52)
  obtain ⟨b6, hb6⟩ : ∃ b6, w.heap.size = b6 := ⟨_, rfl⟩
  rw [hb6] at hb
  have HB := Lib.hid hb
  have HG := Lib.hid (good_any hb)
  have HMR := Lib.hid (mright_any ⟨m1, m2, m3, m4, m5⟩ (w.alloc (.cells #[.int .i64 m1, .int .i64 m2, .int .i64 m3, .int .i64 m4, .string m5] 52)))
  have x0 := hb.sat.cell (i := 0) rfl
  have x1 := hb.sat.cell (i := 1) rfl
  have x2 := hb.sat.cell (i := 2) rfl
  have x3 := hb.sat.cell (i := 3) rfl
  have x4 := hb.sat.cell (i := 4) rfl
  have lx := hb.sat.lt
  have HNO := Lib.hid (show ∀ E : Int, E ≠ 0 → DefR S S k ⟨m1, m2, m3, m4, m5⟩ false E from fun E h => .inl ⟨h, rfl⟩)
  clear h hb
  go_enter Try.func22, Try.ntmps22
  go_wp2_with fail
  refine Calls.mono HG.out ?_
  rintro e w' ⟨rfl, rfl⟩
  generalize w.alloc (.cells #[.int .i64 m1, .int .i64 m2, .int .i64 m3, .int .i64 m4, .string m5] 52) = W1 at *
  go_wp2_with fail
  refine Calls.mono HMR.out ?_
  rintro e w2 ⟨⟨r, rfl⟩, hx⟩
  have H2 := Lib.hid (HB.out.ext hx)
  clear x0 x1 x2 x3 x4 lx hx HB hb6
  rcases r with _ | _
  · go_wp2
    go_ret
    exact ⟨1, S, N, rfl, HNO.out 1 (by decide), H2.out.less⟩
  obtain ⟨lk, hlk⟩ : ∃ lk, lookN S.names k = lk := ⟨_, rfl⟩
  have HLK := Lib.hid hlk
  clear hlk
  obtain ⟨ro, nm, gs, lt, R, V, hT, hs⟩ := H2.out
  have hl := Sat.map_look hK Try.underlying63 zero_mean (hs.of_eq (show _ = mapH Value.string Mean.val nm N S.names * (pts b (.cells (tabCells nm R gs lt) 68) * (roH ro * (row gs V.length 71 4 (flatG V) * (grpsH ro V S.groups * (pts b6 (.cells #[.int .i64 m1, .int .i64 m2, .int .i64 m3, .int .i64 m4, .string m5] 52) * F))))) by ac_rfl)) k false
  simp only [Bool.false_eq_true, if_false, lookN_val, HLK.out] at hl
  have hln := Sat.map_len Try.underlying63 ((hs.allocD (o := .cells #[.int .i64 lk.kind, .int .i64 lk.cls, .int .i64 lk.code, .int .i64 lk.cat, .string lk.text] 52)).of_eq (show _ = mapH Value.string Mean.val nm N S.names * (pts b (.cells (tabCells nm R gs lt) 68) * (roH ro * (row gs V.length 71 4 (flatG V) * (grpsH ro V S.groups * (pts b6 (.cells #[.int .i64 m1, .int .i64 m2, .int .i64 m3, .int .i64 m4, .string m5] 52) * F))))) by ac_rfl)) 3
  obtain ⟨len, -, hln⟩ := hln
  have c0 := hs.cell (i := 0) (tab_names nm R gs lt)
  have lb := hs.lt
  have y0 := H2.out.sat.cell (i := 0) rfl
  have y1 := H2.out.sat.cell (i := 1) rfl
  have y2 := H2.out.sat.cell (i := 2) rfl
  have y3 := H2.out.sat.cell (i := 3) rfl
  have y4 := H2.out.sat.cell (i := 4) rfl
  have ly := H2.out.sat.lt
  have H3 := Lib.hid (H2.out.allocX (.cells #[.int .i64 lk.kind, .int .i64 lk.cls, .int .i64 lk.code, .int .i64 lk.cat, .string lk.text] 52))
  obtain ⟨o1, o2, o3, o4, o5⟩ := lk
  simp only [Mean.val] at hl
  simp only at H3 hln
  obtain ⟨b9, hb9⟩ : ∃ b9, w2.heap.size = b9 := ⟨_, rfl⟩
  rw [hb9] at H3
  have q1 := fun w => run_eql_mean w ⟨o1, o2, o3, o4, o5⟩ mean0
  have q2 := fun w => run_neq_mean w ⟨m1, m2, m3, m4, m5⟩ mean0
  simp only [Mean.val, mean0] at q1 q2
  generalize meanB ⟨o1, o2, o3, o4, o5⟩ ⟨0, 0, 0, 0, ⟨#[]⟩⟩ = zo at q1
  generalize meanB ⟨m1, m2, m3, m4, m5⟩ ⟨0, 0, 0, 0, ⟨#[]⟩⟩ = zm at q2
  have HNM0 := Lib.hid (show ∃ (gs' : Value) (ro' : HProp) (lt' : Value) (R' : Nat → RegV) (V' : Nat), Sat W (pts b (.cells (tabCells nm R' gs' lt') 68) * ro') (w2.alloc (.cells #[.int .i64 o1, .int .i64 o2, .int .i64 o3, .int .i64 o4, .string o5] 52)) from ⟨gs, _, lt, R, 0, hs.allocD⟩)
  clear hs hT H2 HMR HG
  go_upto_region 4 with fail
  generalize w2.alloc (.cells #[.int .i64 o1, .int .i64 o2, .int .i64 o3, .int .i64 o4, .string o5] 52) = W3 at *
  clear hb9 hl c0 lb y0 y1 y2 y3 y4 ly
  have d0 := H3.out.sat.cell (i := 0) rfl
  have d1 := H3.out.sat.cell (i := 1) rfl
  have d2 := H3.out.sat.cell (i := 2) rfl
  have d3 := H3.out.sat.cell (i := 3) rfl
  have d4 := H3.out.sat.cell (i := 4) rfl
  have ld := H3.out.sat.lt
  have y0 := H3.out.sat.r.cell (i := 0) rfl
  have y1 := H3.out.sat.r.cell (i := 1) rfl
  have y2 := H3.out.sat.r.cell (i := 2) rfl
  have y3 := H3.out.sat.r.cell (i := 3) rfl
  have y4 := H3.out.sat.r.cell (i := 4) rfl
  have ly := H3.out.sat.r.lt
  have c0 : W3.cell? ⟨b, 0, none⟩ = some (.map (some nm)) := by
    obtain ⟨gs', ro', lt', R', V', hs'⟩ := HNM0.out
    exact hs'.cell (i := 0) (tab_names nm R' gs' lt')
  have lb : b < W3.heap.size := by
    obtain ⟨gs', ro', lt', R', V', hs'⟩ := HNM0.out
    exact hs'.lt
  go_cut [44] from 29 to 45 (fun s44 wx => ∃ r : Bool, s44 = .bool r ∧ W3 = wx)
  case first => as_aux_lemma =>
    rcases zo with _ | _
    · go_wp2
      go_meet
      exact ⟨_, rfl, rfl⟩
    · rcases zm with _ | _
      · go_wp2
        go_meet
        exact ⟨_, rfl, rfl⟩
      · go_wp2
        go_meet
        exact ⟨_, rfl, rfl⟩
  case rest => as_aux_lemma =>
    obtain ⟨r, rfl, rfl⟩ := hcut
    rcases r with _ | _
    · have HN := Lib.hid (H3.out.named k ⟨m1, m2, m3, m4, m5⟩)
      obtain ⟨ro', nm', gs', lt', R', V', hT', hs'⟩ := H3.out
      obtain ⟨ga, gc, rfl⟩ := Sat.row_value hs'.r.r.r
      have e10 := hs'.cell (i := 10753) (tab_groups nm' R' _ lt')
      rw [hT'.2.2.2.1, hS, List.length_nil] at e10
      have HDEF := Lib.hid (show { S with names := nameM S.names k ⟨m1, m2, m3, m4, m5⟩ } = defS S k ⟨m1, m2, m3, m4, m5⟩ false by
        rw [defS, hS]
        simp only [List.dropLast_nil, List.getLast?_nil, Option.map_none, Option.toList_none, List.nil_append] <;> rw [← hS])
      clear hs' hT' hS HNM0 q1 q2
      go_wp2_with fail
      refine Calls.mono HN.out ?_
      rintro e w5 ⟨rfl, N', h5⟩
      have H5 := Lib.hid h5
      clear h5
      (try clear d0 d1 d2 d3 d4 ld)
      (try clear y0 y1 y2 y3 y4 ly c0 lb)
      go_wp2
      go_ret
      exact ⟨0, _, N', rfl, .inr ⟨rfl, HDEF.out⟩, H5.out.less.less⟩
    · go_wp2
      go_ret
      exact ⟨6, S, N, rfl, HNO.out 6 (by decide), H3.out.less.less⟩

set_option maxRecDepth 100000 in
set_option maxHeartbeats 8000000 in
theorem def_glob {b N : Nat} {S : TabS} (k : ByteArray) (m : Mean) (h : TabAt W F b N S w) :
    Calls Try.prog 22 #[.pointer (some ⟨b, 0, none⟩), .string k, m.val, .bool true] w fun e w' => ∃ E S' N', e = .returned (.int .i64 E) ∧ DefR S S' k m true E ∧ TabAt W F b N' S' w' := by
  obtain ⟨m1, m2, m3, m4, m5⟩ := m
  have hK : KeyT Try.prog 9 Value.string := keyT_string Try.underlying9
  have hb := h.allocX (.cells #[.int .i64 m1, .int .i64 m2, .int .i64 m3, .int .i64 m4, .string m5] 52)
  obtain ⟨b6, hb6⟩ : ∃ b6, w.heap.size = b6 := ⟨_, rfl⟩
  rw [hb6] at hb
  have HB := Lib.hid hb
  have HG := Lib.hid (good_any hb)
  have HMR := Lib.hid (mright_any ⟨m1, m2, m3, m4, m5⟩ (w.alloc (.cells #[.int .i64 m1, .int .i64 m2, .int .i64 m3, .int .i64 m4, .string m5] 52)))
  have x0 := hb.sat.cell (i := 0) rfl
  have x1 := hb.sat.cell (i := 1) rfl
  have x2 := hb.sat.cell (i := 2) rfl
  have x3 := hb.sat.cell (i := 3) rfl
  have x4 := hb.sat.cell (i := 4) rfl
  have lx := hb.sat.lt
  have HNO := Lib.hid (show ∀ E : Int, E ≠ 0 → DefR S S k ⟨m1, m2, m3, m4, m5⟩ true E from fun E h => .inl ⟨h, rfl⟩)
  clear h hb
  go_enter Try.func22, Try.ntmps22
  go_wp2_with fail
  refine Calls.mono HG.out ?_
  rintro e w' ⟨rfl, rfl⟩
  generalize w.alloc (.cells #[.int .i64 m1, .int .i64 m2, .int .i64 m3, .int .i64 m4, .string m5] 52) = W1 at *
  go_wp2_with fail
  refine Calls.mono HMR.out ?_
  rintro e w2 ⟨⟨r, rfl⟩, hx⟩
  have H2 := Lib.hid (HB.out.ext hx)
  clear x0 x1 x2 x3 x4 lx hx HB hb6
  rcases r with _ | _
  · go_wp2
    go_ret
    exact ⟨1, S, N, rfl, HNO.out 1 (by decide), H2.out.less⟩
  obtain ⟨lk, hlk⟩ : ∃ lk, lookN S.names k = lk := ⟨_, rfl⟩
  have HLK := Lib.hid hlk
  clear hlk
  obtain ⟨ro, nm, gs, lt, R, V, hT, hs⟩ := H2.out
  have hl := Sat.map_look hK Try.underlying63 zero_mean (hs.of_eq (show _ = mapH Value.string Mean.val nm N S.names * (pts b (.cells (tabCells nm R gs lt) 68) * (roH ro * (row gs V.length 71 4 (flatG V) * (grpsH ro V S.groups * (pts b6 (.cells #[.int .i64 m1, .int .i64 m2, .int .i64 m3, .int .i64 m4, .string m5] 52) * F))))) by ac_rfl)) k false
  simp only [Bool.false_eq_true, if_false, lookN_val, HLK.out] at hl
  have hln := Sat.map_len Try.underlying63 ((hs.allocD (o := .cells #[.int .i64 lk.kind, .int .i64 lk.cls, .int .i64 lk.code, .int .i64 lk.cat, .string lk.text] 52)).of_eq (show _ = mapH Value.string Mean.val nm N S.names * (pts b (.cells (tabCells nm R gs lt) 68) * (roH ro * (row gs V.length 71 4 (flatG V) * (grpsH ro V S.groups * (pts b6 (.cells #[.int .i64 m1, .int .i64 m2, .int .i64 m3, .int .i64 m4, .string m5] 52) * F))))) by ac_rfl)) 3
  obtain ⟨len, -, hln⟩ := hln
  have c0 := hs.cell (i := 0) (tab_names nm R gs lt)
  have lb := hs.lt
  have y0 := H2.out.sat.cell (i := 0) rfl
  have y1 := H2.out.sat.cell (i := 1) rfl
  have y2 := H2.out.sat.cell (i := 2) rfl
  have y3 := H2.out.sat.cell (i := 3) rfl
  have y4 := H2.out.sat.cell (i := 4) rfl
  have ly := H2.out.sat.lt
  have H3 := Lib.hid (H2.out.allocX (.cells #[.int .i64 lk.kind, .int .i64 lk.cls, .int .i64 lk.code, .int .i64 lk.cat, .string lk.text] 52))
  obtain ⟨o1, o2, o3, o4, o5⟩ := lk
  simp only [Mean.val] at hl
  simp only at H3 hln
  obtain ⟨b9, hb9⟩ : ∃ b9, w2.heap.size = b9 := ⟨_, rfl⟩
  rw [hb9] at H3
  have q1 := fun w => run_eql_mean w ⟨o1, o2, o3, o4, o5⟩ mean0
  have q2 := fun w => run_neq_mean w ⟨m1, m2, m3, m4, m5⟩ mean0
  simp only [Mean.val, mean0] at q1 q2
  generalize meanB ⟨o1, o2, o3, o4, o5⟩ ⟨0, 0, 0, 0, ⟨#[]⟩⟩ = zo at q1
  generalize meanB ⟨m1, m2, m3, m4, m5⟩ ⟨0, 0, 0, 0, ⟨#[]⟩⟩ = zm at q2
  have HNM0 := Lib.hid (show ∃ (gs' : Value) (ro' : HProp) (lt' : Value) (R' : Nat → RegV) (V' : Nat), Sat W (pts b (.cells (tabCells nm R' gs' lt') 68) * ro') (w2.alloc (.cells #[.int .i64 o1, .int .i64 o2, .int .i64 o3, .int .i64 o4, .string o5] 52)) from ⟨gs, _, lt, R, 0, hs.allocD⟩)
  clear hs hT H2 HMR HG
  go_upto_region 4 with fail
  generalize w2.alloc (.cells #[.int .i64 o1, .int .i64 o2, .int .i64 o3, .int .i64 o4, .string o5] 52) = W3 at *
  clear hb9 hl c0 lb y0 y1 y2 y3 y4 ly
  have d0 := H3.out.sat.cell (i := 0) rfl
  have d1 := H3.out.sat.cell (i := 1) rfl
  have d2 := H3.out.sat.cell (i := 2) rfl
  have d3 := H3.out.sat.cell (i := 3) rfl
  have d4 := H3.out.sat.cell (i := 4) rfl
  have ld := H3.out.sat.lt
  have y0 := H3.out.sat.r.cell (i := 0) rfl
  have y1 := H3.out.sat.r.cell (i := 1) rfl
  have y2 := H3.out.sat.r.cell (i := 2) rfl
  have y3 := H3.out.sat.r.cell (i := 3) rfl
  have y4 := H3.out.sat.r.cell (i := 4) rfl
  have ly := H3.out.sat.r.lt
  have c0 : W3.cell? ⟨b, 0, none⟩ = some (.map (some nm)) := by
    obtain ⟨gs', ro', lt', R', V', hs'⟩ := HNM0.out
    exact hs'.cell (i := 0) (tab_names nm R' gs' lt')
  have lb : b < W3.heap.size := by
    obtain ⟨gs', ro', lt', R', V', hs'⟩ := HNM0.out
    exact hs'.lt
  go_cut [44] from 29 to 45 (fun s44 wx => ∃ r : Bool, s44 = .bool r ∧ W3 = wx)
  case first => as_aux_lemma =>
    rcases zo with _ | _
    · go_wp2
      go_meet
      exact ⟨_, rfl, rfl⟩
    · rcases zm with _ | _
      · go_wp2
        go_meet
        exact ⟨_, rfl, rfl⟩
      · go_wp2
        go_meet
        exact ⟨_, rfl, rfl⟩
  case rest => as_aux_lemma =>
    obtain ⟨r, rfl, rfl⟩ := hcut
    rcases r with _ | _
    · clear d0 d1 d2 d3 d4 ld y0 y1 y2 y3 y4 ly c0 lb HNM0 q1 q2
      obtain ⟨F3, hF3⟩ : ∃ F3, F3 = pts b9 (.cells #[.int .i64 o1, .int .i64 o2, .int .i64 o3, .int .i64 o4, .string o5] 52) * (pts b6 (.cells #[.int .i64 m1, .int .i64 m2, .int .i64 m3, .int .i64 m4, .string m5] 52) * F) := ⟨_, rfl⟩
      have HF3 := Lib.hid hF3
      rw [← hF3] at H3
      obtain ⟨ro', nm', gs', lt', R', V', hT, hs⟩ := H3.out
      obtain ⟨ga, gc, rfl⟩ := Sat.row_value hs.r.r.r
      have HT := Lib.hid hT
      obtain ⟨n, hn⟩ : ∃ n, V'.length = n := ⟨_, rfl⟩
      have HN := Lib.hid hn
      have c0 := hs.cell (i := 10753) (tab_groups nm' R' _ lt')
      rw [hn] at c0
      have lb := hs.lt
      have hn2 : n ≤ 200 := by rw [← hn, hT.2.2.2.1]; exact hT.2.2.2.2
      obtain ⟨BASE, hBASE⟩ : ∃ BASE : HProp, BASE = row (.slice ga V'.length gc) V'.length 71 4 (flatG V') * (pts b (.cells (tabCells nm' R' (.slice ga V'.length gc) lt') 68) * (roH ro' * (mapH Value.string Mean.val nm' N S.names * F3))) := ⟨_, rfl⟩
      have HB0 := Lib.hid (hs.of_eq (show _ = emp * (grpsH ro' V' S.groups * BASE) by rw [hBASE, emp_star]; ac_rfl))
      have HBASE := Lib.hid hBASE
      clear hT hs hF3 hn hBASE H3
      go_wp2_with fail
      go_loopg [51] n (fun gg s51 wx => ∃ (q : Nat) (G1 G2 : List GrpS) (X : HProp), S.groups = G1 ++ G2 ∧ G1.length = q ∧ q ≤ n ∧ gg = n - q ∧ s51 = .int .i64 q ∧ Sat W (X * (grpsH ro' V' (G1.map (·.delN k) ++ G2) * BASE)) wx)
      case atStart => exact ⟨0, [], S.groups, emp, rfl, rfl, by omega, rfl, by go_num, HB0.out⟩
      case round =>
        obtain ⟨q, G1, G2, X, hG, hq, hqn, rfl, rfl, hx⟩ := hrel
        have HX := Lib.hid hx
        have HGG := Lib.hid hG
        have HQ := Lib.hid hq
        clear hx hG hq HB0 c0 lb
        by_cases hlt : q < n
        · obtain ⟨g, G3, rfl⟩ : ∃ g G3, G2 = g :: G3 := by
            cases G2 with
            | nil =>
              exfalso
              have h1 := HGG.out
              have h2 := HT.out.2.2.2.1
              have h3 := HN.out
              have h4 := HQ.out
              rw [h1] at h2
              simp at h2
              omega
            | cons g G3 => exact ⟨g, G3, rfl⟩
          obtain ⟨V1, v, V2, hV, hV1⟩ : ∃ V1 v V2, V' = V1 ++ v :: V2 ∧ V1.length = q :=
            ⟨V'.take q, V'[q]'(by rw [HN.out]; exact hlt), V'.drop (q + 1), by rw [List.getElem_cons_drop, List.take_append_drop], by rw [List.length_take, HN.out]; omega⟩
          have hm := grps_mid_open (G1 := G1.map (·.delN k)) hV (by rw [hV1, List.length_map, HQ.out]) HX.out
          obtain ⟨⟨hkd, hal⟩, nn, rn, f, hf, hs2⟩ := Sat.grp_open hm
          obtain ⟨aa, ac, hva⟩ := hs2.r.r.rowT_value
          have HKAL := Lib.hid (And.intro hkd hal)
          have HF := Lib.hid hf
          have HV := Lib.hid hV
          have HV1 := Lib.hid hV1
          rw [HBASE.out, HN.out] at hs2
          have hs3 := hs2.of_eq (show _ = row (.slice ga n gc) n 71 4 (flatG V') * (mapH Value.string Mean.val v.nb nn g.names * (mapH kE2 RegV.val v.rb rn f * (rowT v.av g.after * (grpsH ro' (V1 ++ V2) (G1.map (·.delN k) ++ G3) * (X * (pts b (.cells (tabCells nm' R' (.slice ga n gc) lt') 68) * (roH ro' * (mapH Value.string Mean.val nm' N S.names * F3)))))))) by ac_rfl)
          obtain ⟨_, hcs⟩ := hs3.row_cases
          rcases hcs with ⟨_, h0, _⟩ | ⟨gb, cap', _, hgs, _⟩
          · omega
          simp only [Value.slice.injEq] at hgs
          obtain ⟨rfl, -, rfl⟩ := hgs
          have r0 := hs3.row_cell (flatG_get V' q 0 (.int .i64 v.kind) (by rw [HN.out]; exact hlt) (by simp only [hV]; rw [List.getElem_append_right (by omega)]; simp [hV1, GrpV.cells]))
          have r1 := hs3.row_cell (flatG_get V' q 1 (.map (some v.nb)) (by rw [HN.out]; exact hlt) (by simp only [hV]; rw [List.getElem_append_right (by omega)]; simp [hV1, GrpV.cells]))
          have r2 := hs3.row_cell (flatG_get V' q 2 (.map (some v.rb)) (by rw [HN.out]; exact hlt) (by simp only [hV]; rw [List.getElem_append_right (by omega)]; simp [hV1, GrpV.cells]))
          have r3 := hs3.row_cell (flatG_get V' q 3 v.av (by rw [HN.out]; exact hlt) (by simp only [hV]; rw [List.getElem_append_right (by omega)]; simp [hV1, GrpV.cells]))
          rw [hva] at r3
          simp only [Nat.add_zero] at r0
          obtain ⟨al, hal2⟩ : ∃ al, g.after.length = al := ⟨_, rfl⟩
          rw [hal2] at r3
          have hs5 := (hs3.alloc (.cells #[.int .i64 v.kind, .map (some v.nb), .map (some v.rb), .slice aa al ac] 71)).of_eq (show _ = mapH Value.string Mean.val v.nb nn g.names * (pts wr.heap.size (.cells #[.int .i64 v.kind, .map (some v.nb), .map (some v.rb), .slice aa al ac] 71) * (row (.slice (some ⟨gb, 0, none⟩) n gc) n 71 4 (flatG V') * (mapH kE2 RegV.val v.rb rn f * (rowT v.av g.after * (grpsH ro' (V1 ++ V2) (G1.map (·.delN k) ++ G3) * (X * (pts b (.cells (tabCells nm' R' (.slice (some ⟨gb, 0, none⟩) n gc) lt') 68) * (roH ro' * (mapH Value.string Mean.val nm' N S.names * F3))))))))) by ac_rfl)
          have HS5 := Lib.hid hs5
          clear hm hs2 hs3 hs5 hf hkd hal hV hV1 hva hal2 HX
          go_upto_region 10 with fail
          obtain ⟨bz, hbz⟩ : ∃ bz, wr.heap.size = bz := ⟨_, rfl⟩
          rw [hbz] at HS5
          rw [hbz]
          generalize wr.alloc (.cells #[.int .i64 v.kind, .map (some v.nb), .map (some v.rb), .slice aa al ac] 71) = w3 at *
          clear r0 r1 r2 r3 hbz
          have d1 := HS5.out.r.cell (i := 1) rfl
          have lz := HS5.out.r.lt
          obtain ⟨w4, hdel, hs6⟩ := Sat.map_del hK Try.underlying63 HS5.out k 0
          have HS6 := Lib.hid hs6
          clear hs6
          go_wp2
          go_roundg (n - (q + 1))
          case measure => omega
          case rel =>
            refine ⟨q + 1, G1 ++ [g], G3, pts bz (.cells #[.int .i64 v.kind, .map (some v.nb), .map (some v.rb), .slice aa al ac] 71) * X, by rw [HGG.out, List.append_assoc]; rfl, by simp [HQ.out], by omega, rfl, by go_num, ?_⟩
            have h7 := Sat.grp_mk (m := ro') (v := v) (s := g.delN k) (HS6.out.of_eq (show _ = mapH Value.string Mean.val v.nb nn (mdel g.names k) * (mapH kE2 RegV.val v.rb rn f * (rowT v.av g.after * (grpsH ro' (V1 ++ V2) (G1.map (·.delN k) ++ G3) * ((pts bz (.cells #[.int .i64 v.kind, .map (some v.nb), .map (some v.rb), .slice aa al ac] 71) * X) * BASE)))) by rw [HBASE.out, HN.out]; ac_rfl)) HKAL.out HF.out
            have h8 := grps_mid_close HV.out (by rw [HV1.out, List.length_map, HQ.out]) h7
            rw [List.map_append, List.append_assoc]
            exact h8
        · obtain rfl : n = q := by omega
          have hG2 : G2 = [] := by
            have h1 := HGG.out
            have h2 := HT.out.2.2.2.1
            have h3 := HN.out
            have h4 := HQ.out
            rw [h1] at h2
            simp at h2
            exact List.eq_nil_of_length_eq_zero (by omega)
          have hs3 := HX.out
          rw [HBASE.out, hG2, List.append_nil, show G1.map (·.delN k) = S.groups.map (·.delN k) by rw [HGG.out, hG2, List.append_nil]] at hs3
          have hT2 := HT.out
          have HTB := Lib.hid (show TabAt W (X * F3) b N { S with groups := S.groups.map (·.delN k) } wr from ⟨ro', nm', .slice ga V'.length gc, lt', R', V', by simpa only [List.length_map] using hT2, hs3.of_eq (by ac_rfl)⟩)
          have HNM := Lib.hid (HTB.out.named k ⟨m1, m2, m3, m4, m5⟩)
          have y0 := (HTB.out.sat.r.of_eq HF3.out).r.cell (i := 0) rfl
          have y1 := (HTB.out.sat.r.of_eq HF3.out).r.cell (i := 1) rfl
          have y2 := (HTB.out.sat.r.of_eq HF3.out).r.cell (i := 2) rfl
          have y3 := (HTB.out.sat.r.of_eq HF3.out).r.cell (i := 3) rfl
          have y4 := (HTB.out.sat.r.of_eq HF3.out).r.cell (i := 4) rfl
          have ly := (HTB.out.sat.r.of_eq HF3.out).r.lt
          clear hs3 hT2 HX
          go_wp2_with fail
          refine Calls.mono HNM.out ?_
          rintro e w5 ⟨rfl, N', h5⟩
          have H5 := Lib.hid (h5.less.of_eq HF3.out)
          clear h5 y0 y1 y2 y3 y4 ly
          go_wp2
          go_ret
          exact ⟨0, _, N', rfl, .inr ⟨rfl, rfl⟩, H5.out.less.less⟩
    · go_wp2
      go_ret
      exact ⟨6, S, N, rfl, HNO.out 6 (by decide), H3.out.less.less⟩

end Go.Proofs.Ytebggkgciocciaa
