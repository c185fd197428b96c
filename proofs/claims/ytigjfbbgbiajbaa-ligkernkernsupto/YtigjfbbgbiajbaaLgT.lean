/-
  The law's small font, made. Conditions: none.
-/
import Derived.Test.YtigjfbbgbiajbaaLgS
namespace Go.Proofs.Ytigjfbbgbiajbaa
open Go.RowKit Go.Sp
variable {w W : World} {x : FV} {F : Fnt} {A : HProp}

def rowC (v : Value) (L : List Met) : HProp := row v L.length 51 6 (L.flatMap Met.cells)
theorem info_met : (Try.prog.info? 51).map (fun i => (i.zero, i.size, i.bytes)) = some (some (.agg #[.int .i64 0, .int .i64 0, .int .i64 0, .int .i64 0, .int .i64 0, .int .i64 0]), 6, 48) := by kernel_rfl
theorem met_one : ∀ (x : Met), ∀ u ∈ x.cells, u.oneCell' = true := by
  intro x u hu
  simp only [Met.cells, List.mem_cons, List.not_mem_nil, or_false] at hu
  rcases hu with rfl | rfl | rfl | rfl | rfl | rfl <;> rfl
theorem rowC_snoc {u : Value} {L : List Met} {y : Met} {n : Nat} (h : Sat W (row u n 51 6 (L.flatMap Met.cells ++ y.cells) * A) w) (hn : n = L.length + 1) : Sat W (rowC u (L ++ [y]) * A) w := by
  unfold rowC
  rw [List.flatMap_append, List.length_append, List.length_singleton, ← hn, show List.flatMap Met.cells [y] = y.cells by simp]
  exact h
theorem rowC_rd {v : Value} {L : List Met} (h : Sat W (rowC v L * A) w) : RdL Met.cells 6 w v L := by
  unfold rowC at h
  refine ⟨h.rd, ?_⟩
  obtain ⟨-, h2⟩ := h.row_cases
  rcases h2 with ⟨rfl, h0, -⟩ | ⟨g, cap, cur, rfl, h3, -⟩
  · exact ⟨none, 0, by rw [h0], by rw [h0]; exact Nat.le_refl _⟩
  · exact ⟨_, cap, rfl, h3⟩
theorem flat_set6 (L : List Met) : ∀ (i : Nat) (m : Met), i < L.length → ((((((L.flatMap Met.cells).set (i * 6) (.int .i64 m.w)).set (i * 6 + 1) (.int .i64 m.h)).set (i * 6 + 2) (.int .i64 m.d)).set (i * 6 + 3) (.int .i64 m.i)).set (i * 6 + 4) (.int .i64 m.tag)).set (i * 6 + 5) (.int .i64 m.rest) = (L.set i m).flatMap Met.cells := by
  induction L with
  | nil => intro i m h; simp at h
  | cons y L ih =>
    intro i m h
    cases i with
    | zero => simp [Met.cells]
    | succ i =>
      have h2 := ih i m (by simpa using h)
      rw [List.set_cons_succ, List.flatMap_cons, List.flatMap_cons, ← h2]
      rw [show (i + 1) * 6 = i * 6 + 5 + 1 by omega]
      simp only [Met.cells, List.cons_append, List.nil_append, Nat.add_assoc, Nat.reduceAdd, List.set_cons_succ]
theorem rowC_set {g cap i : Nat} {L : List Met} (h : Sat W (rowC (.slice (some ⟨g, 0, none⟩) L.length cap) L * A) w) (hi : i < L.length) (m : Met) :
    Sat W (rowC (.slice (some ⟨g, 0, none⟩) L.length cap) (L.set i m) * A) ((((((w.setCell ⟨g, i * 6, none⟩ (.int .i64 m.w)).setCell ⟨g, i * 6 + 1, none⟩ (.int .i64 m.h)).setCell ⟨g, i * 6 + 2, none⟩ (.int .i64 m.d)).setCell ⟨g, i * 6 + 3, none⟩ (.int .i64 m.i)).setCell ⟨g, i * 6 + 4, none⟩ (.int .i64 m.tag)).setCell ⟨g, i * 6 + 5, none⟩ (.int .i64 m.rest)) := by
  unfold rowC at h ⊢
  rw [List.length_set, ← flat_set6 L i m hi]
  exact (((((h.row_set (i := i * 6) (u := .int .i64 m.w)).row_set (i := i * 6 + 1) (u := .int .i64 m.h)).row_set (i := i * 6 + 2) (u := .int .i64 m.d)).row_set (i := i * 6 + 3) (u := .int .i64 m.i)).row_set (i := i * 6 + 4) (u := .int .i64 m.tag)).row_set (i := i * 6 + 5) (u := .int .i64 m.rest)
theorem rowC_at {v : Value} {i : Nat} {L : List Met} (h : Sat W (rowC v L * A) w) (hi : i < L.length) : ∃ g cap, v = .slice (some ⟨g, 0, none⟩) L.length cap ∧ g < w.heap.size ∧
    (∃ o0 o1 o2 o3 o4 o5, w.cell? ⟨g, i * 6, none⟩ = some o0 ∧ w.cell? ⟨g, i * 6 + 1, none⟩ = some o1 ∧ w.cell? ⟨g, i * 6 + 2, none⟩ = some o2 ∧ w.cell? ⟨g, i * 6 + 3, none⟩ = some o3 ∧ w.cell? ⟨g, i * 6 + 4, none⟩ = some o4 ∧ w.cell? ⟨g, i * 6 + 5, none⟩ = some o5) ∧
    ∀ j, w.frozen? ⟨g, j, none⟩ = false := by
  have hrd := rowC_rd h
  unfold rowC at h
  obtain ⟨-, h2⟩ := h.row_cases
  rcases h2 with ⟨rfl, h0, -⟩ | ⟨g, cap, cur, rfl, h3, h4, h5, h6, h7⟩
  · omega
  · obtain ⟨b, off, e, hc, -⟩ := hrd.at met_len (by omega) hi
    simp only [Option.some.injEq, Addr.mk.injEq, and_true] at e
    obtain ⟨rfl, rfl⟩ := e
    obtain ⟨e0, e1, e2, e3, e4, e5⟩ := MetAt.mk' hc
    rw [Nat.zero_add] at e0 e1 e2 e3 e4 e5
    exact ⟨g, cap, rfl, h7.lt, ⟨_, _, _, _, _, _, e0, e1, e2, e3, e4, e5⟩, fun j => h7.free⟩
abbrev fontO (cv sv kv : Value) : Obj := .cells #[.int .u32 0, .int .i64 10485760, .int .i64 12, cv, sv, kv, .slice none 0 0, .slice none 0 0] 28
theorem fset3 (c0 c1 c2 c3 c4 c5 c6 c7 v : Value) : (#[c0, c1, c2, c3, c4, c5, c6, c7] : Array Value).setIfInBounds 3 v = #[c0, c1, c2, v, c4, c5, c6, c7] := rfl
theorem fset4 (c0 c1 c2 c3 c4 c5 c6 c7 v : Value) : (#[c0, c1, c2, c3, c4, c5, c6, c7] : Array Value).setIfInBounds 4 v = #[c0, c1, c2, c3, v, c5, c6, c7] := rfl
theorem fset0 (c0 c1 c2 c3 c4 c5 c6 c7 v : Value) : (#[c0, c1, c2, c3, c4, c5, c6, c7] : Array Value).setIfInBounds 0 v = #[v, c1, c2, c3, c4, c5, c6, c7] := rfl
theorem fset1 (c0 c1 c2 c3 c4 c5 c6 c7 v : Value) : (#[c0, c1, c2, c3, c4, c5, c6, c7] : Array Value).setIfInBounds 1 v = #[c0, v, c2, c3, c4, c5, c6, c7] := rfl
theorem fset2 (c0 c1 c2 c3 c4 c5 c6 c7 v : Value) : (#[c0, c1, c2, c3, c4, c5, c6, c7] : Array Value).setIfInBounds 2 v = #[c0, c1, v, c3, c4, c5, c6, c7] := rfl
theorem fset5 (c0 c1 c2 c3 c4 c5 c6 c7 v : Value) : (#[c0, c1, c2, c3, c4, c5, c6, c7] : Array Value).setIfInBounds 5 v = #[c0, c1, c2, c3, c4, v, c6, c7] := rfl
theorem fset6 (c0 c1 c2 c3 c4 c5 c6 c7 v : Value) : (#[c0, c1, c2, c3, c4, c5, c6, c7] : Array Value).setIfInBounds 6 v = #[c0, c1, c2, c3, c4, c5, v, c7] := rfl
theorem fset7 (c0 c1 c2 c3 c4 c5 c6 c7 v : Value) : (#[c0, c1, c2, c3, c4, c5, c6, c7] : Array Value).setIfInBounds 7 v = #[c0, c1, c2, c3, c4, c5, c6, v] := rfl
theorem sat_set8 {b : Nat} {e : TypeId} {cs : Array Value} {c0 c1 c2 c3 c4 c5 c6 c7 : Value} (h : Sat W (pts b (.cells cs e) * A) w) (hcs : cs = #[c0, c1, c2, c3, c4, c5, c6, c7]) (v0 v1 v2 v3 v4 v5 v6 v7 : Value) :
    Sat W (pts b (.cells #[v0, v1, v2, v3, v4, v5, v6, v7] e) * A) ((((((((w.setCell ⟨b, 0, none⟩ v0).setCell ⟨b, 1, none⟩ v1).setCell ⟨b, 2, none⟩ v2).setCell ⟨b, 3, none⟩ v3).setCell ⟨b, 4, none⟩ v4).setCell ⟨b, 5, none⟩ v5).setCell ⟨b, 6, none⟩ v6).setCell ⟨b, 7, none⟩ v7) := by
  subst hcs
  have h0 := Sat.set (i := 0) (v := v0) h
  rw [fset0] at h0
  have h1 := Sat.set (i := 1) (v := v1) h0
  rw [fset1] at h1
  have h2 := Sat.set (i := 2) (v := v2) h1
  rw [fset2] at h2
  have h3 := Sat.set (i := 3) (v := v3) h2
  rw [fset3] at h3
  have h4 := Sat.set (i := 4) (v := v4) h3
  rw [fset4] at h4
  have h5 := Sat.set (i := 5) (v := v5) h4
  rw [fset5] at h5
  have h6 := Sat.set (i := 6) (v := v6) h5
  rw [fset6] at h6
  have h7 := Sat.set (i := 7) (v := v7) h6
  rw [fset7] at h7
  exact h7
theorem small_rd {g cc bs bk : Nat} {B : HProp} (h : Sat W (rowC (.slice (some ⟨g, 0, none⟩) 107 cc) smallF.chars * (pts bs (.cells #[.int .u8 0, .int .u8 105, .int .u8 0, .int .u8 12, .int .u8 128, .int .u8 108, .int .u8 0, .int .u8 13, .int .u8 128, .int .u8 118, .int .u8 128, .int .u8 0] 36) * (pts bk (.cells #[.int .i64 (-20000)] 3) * B))) w) :
    RdF w ⟨.slice (some ⟨g, 0, none⟩) 107 cc, .slice (some ⟨bs, 0, none⟩) 3 3, .slice (some ⟨bk, 0, none⟩) 1 1, .slice none 0 0, .slice none 0 0⟩ smallF where
  rc := rowC_rd h
  rs := ⟨(Sat.row_whole (size := 4) 3 h.r (by simp only [maxLen]; omega) rfl).rd, _, _, rfl, Nat.le_refl _⟩
  rk := ⟨(Sat.row_whole (size := 1) 1 h.r.r (by simp only [maxLen]; omega) rfl).rd, _, _, rfl, Nat.le_refl _⟩
  rp := RdL.empty w none 0
  rr := RdL.empty w none 0
  ir := by
    have h : smallF.chars.all (fun m => decide (-9223372036854775808 ≤ m.rest) && decide (m.rest ≤ 9223372036854775807)) = true := by kernel_rfl
    intro m hm
    have h2 := List.all_eq_true.1 h m hm
    simp only [Bool.and_eq_true, decide_eq_true_eq] at h2
    exact h2
  lc := by rw [show smallF.chars.length = 107 by kernel_rfl]; omega
  ls := by rw [show smallF.steps.length = 3 from rfl]; omega
  lk := by rw [show smallF.kerns.length = 1 from rfl]; omega
  lp := by rw [show smallF.pieces.length = 0 from rfl]; omega
  lr := by rw [show smallF.params.length = 0 from rfl]; omega
def smallI : List Nat := [0, 1, 85, 90, 93, 96, 106]
theorem small_bytes (k : Nat) (hk : k < 7) : (#[.int .u8 12, .int .u8 13, .int .u8 97, .int .u8 102, .int .u8 105, .int .u8 108, .int .u8 118] : Array Value)[k]? = some (.int .u8 ((12 + smallI.getD k 0 : Nat) : Int)) ∧ smallI.getD k 0 < 107 ∧ smallC (k + 1) = (smallC k).set (smallI.getD k 0) letMet := by
  have : k = 0 ∨ k = 1 ∨ k = 2 ∨ k = 3 ∨ k = 4 ∨ k = 5 ∨ k = 6 := by omega
  rcases this with rfl | rfl | rfl | rfl | rfl | rfl | rfl <;> exact ⟨rfl, by decide, rfl⟩
theorem smallC_len (k : Nat) : (smallC k).length = 107 := by
  have h : ∀ (I : List Nat) (L : List Met), (I.foldl (fun L i => L.set i letMet) L).length = L.length := by
    intro I
    induction I with
    | nil => intro L; rfl
    | cons i I ih => intro L; rw [List.foldl_cons, ih, List.length_set]
  unfold smallC
  rw [h, List.length_replicate]
set_option maxRecDepth 100000 in
set_option maxHeartbeats 8000000 in
theorem small_any (w : World) : Calls Try.prog 15 #[] w fun e w' => ∃ x, e = .returned (smallF.val x) ∧ RdF w' x smallF ∧ Ext w w' := by
  obtain ⟨i0, hi, hz0, hz1, hz2⟩ := info_parts3 info_met
  have HI := Lib.hid hi
  have HZ0 := Lib.hid hz0
  have HZ1 := Lib.hid hz1
  have HZ2 := Lib.hid hz2
  have HS := (((((Sat.start w).alloc (.cells #[.int .u32 0, .int .i64 0, .int .i64 0, .slice none 0 0, .slice none 0 0, .slice none 0 0, .slice none 0 0, .slice none 0 0] 28)).alloc noMet.box).alloc (.cells #[.int .i64 (-20000)] 3)).alloc (fontO (.slice none 0 0) (.slice none 0 0) (.slice (some ⟨w.heap.size + 1 + 1, 0, none⟩) 1 1))).row_nil (e := 51) (size := 6)
  obtain ⟨b0, hb0⟩ : ∃ b0, w.heap.size = b0 := ⟨_, rfl⟩
  simp only [World.size_alloc] at HS
  rw [hb0] at HS
  have HB0 := Lib.hid hb0
  clear hi hz0 hz1 hz2 hb0
  have HSS := Lib.hid HS
  clear HS
  obtain ⟨R0, hR0⟩ : ∃ R0, (pts (b0 + 1 + 1) (.cells #[.int .i64 (-20000)] 3) * (pts (b0 + 1) noMet.box * (pts b0 (.cells #[.int .u32 0, .int .i64 0, .int .i64 0, .slice none 0 0, .slice none 0 0, .slice none 0 0, .slice none 0 0, .slice none 0 0] 28) * own w))) = R0 := ⟨_, rfl⟩
  have hsx := HSS.out
  rw [hR0] at hsx
  have HS := Lib.hid (hsx.of_eq (show _ = pts (b0 + 1 + 1 + 1) (fontO (.slice none 0 0) (.slice none 0 0) (.slice (some ⟨b0 + 1 + 1, 0, none⟩) 1 1)) * (rowC (.slice none 0 0) [] * R0) by show row _ 0 _ 6 [] * _ = _ * (row _ 0 _ 6 [] * _); ac_rfl))
  have HR0 := Lib.hid hR0
  clear HSS hsx hR0
  go_enter Try.func15, Try.ntmps15
  go_upto_block 0 with fail
  rw [HB0.out]
  go_wp2_with fail
  go_loopg [3] 107 (fun gg s3 wx => ∃ (k : Nat) (q : Int) (cv : Value), k ≤ 107 ∧ gg = 107 - k ∧ s3 = .int .i64 q ∧ q = 12 + k ∧ Sat w (pts (b0 + 1 + 1 + 1) (fontO cv (.slice none 0 0) (.slice (some ⟨b0 + 1 + 1, 0, none⟩) 1 1)) * (rowC cv (List.replicate k noMet) * R0)) wx)
  case atStart => exact ⟨0, 12, .slice none 0 0, by omega, rfl, rfl, by omega, HS.out⟩
  case round =>
    obtain ⟨k, q, cv, hk, hg, rfl, hq, hs⟩ := hrel
    have HG := Lib.hid hg
    have HQ := Lib.hid hq
    have HS2 := Lib.hid hs
    obtain ⟨ca, cc, hcv, -⟩ := (rowC_rd (hs.rot)).val
    rw [List.length_replicate] at hcv
    subst hcv
    have c3 := HS2.out.cell (i := 3) rfl
    have lc := HS2.out.lt
    have fc := HS2.out.free (i := 3)
    have hr := HS2.out.r.r
    rw [← HR0.out] at hr
    have h1 := hr.r
    have d0 := h1.cell (i := 0) rfl
    have d1 := h1.cell (i := 1) rfl
    have d2 := h1.cell (i := 2) rfl
    have d3 := h1.cell (i := 3) rfl
    have d4 := h1.cell (i := 4) rfl
    have d5 := h1.cell (i := 5) rfl
    have ld := h1.lt
    simp only [noMet] at d0 d1 d2 d3 d4 d5
    clear HS hs hg hq h1 hr
    by_cases hk7 : k < 107
    · have hqq : q ≤ 118 := by have := HQ.out; omega
      have HS3 := Lib.hid (show Sat w (row (.slice ca k cc) k 51 6 ((List.replicate k noMet).flatMap Met.cells) * (pts (b0 + 1 + 1 + 1) (fontO (.slice ca k cc) (.slice none 0 0) (.slice (some ⟨b0 + 1 + 1, 0, none⟩) 1 1)) * R0)) wr by
        have h9 := HS2.out.of_eq (show _ = rowC (.slice ca k cc) (List.replicate k noMet) * (pts (b0 + 1 + 1 + 1) (fontO (.slice ca k cc) (.slice none 0 0) (.slice (some ⟨b0 + 1 + 1, 0, none⟩) 1 1)) * R0) by ac_rfl)
        unfold rowC at h9
        rw [List.length_replicate] at h9
        exact h9)
      have hq9 : q ≤ 200 := by omega
      have hq0 : 0 ≤ q := by have := HQ.out; omega
      go_wp2_with (at_builtin; refine wpList_append_sep rfl _ _ 23 rfl i0 _ 48 Try.underlying23 HI.out HZ0.out HZ1.out HZ2.out rfl rfl HS3.out.allocD ⟨_, 0, none⟩ 1 1 (Met.cells noMet) rfl rfl (new_cells _ _ _) (met_one _) (by simp only [maxLen]; omega) (by omega) ?_)
      intro v' w7 h7
      have h8 := rowC_snoc (L := List.replicate k noMet) (y := noMet) h7 (by rw [List.length_replicate])
      rw [show List.replicate k noMet ++ [noMet] = List.replicate (k + 1) noMet by rw [List.replicate_succ']] at h8
      obtain ⟨va, vc, hv', -⟩ := (rowC_rd h8).val
      rw [List.length_replicate] at hv'
      subst hv'
      have h9 := h8.of_eq (show _ = pts (b0 + 1 + 1 + 1) (fontO (.slice ca k cc) (.slice none 0 0) (.slice (some ⟨b0 + 1 + 1, 0, none⟩) 1 1)) * (rowC (.slice va (k + 1) vc) (List.replicate (k + 1) noMet) * R0) by ac_rfl)
      clear c3 lc fc d0 d1 d2 d3 d4 d5 ld HS3 HS2 h7 h8
      have c3 := h9.cell (i := 3) rfl
      have lc := h9.lt
      have fc := h9.free (i := 3)
      have h10 := h9.set (i := 3) (v := .slice va (k + 1) vc)
      rw [fset3] at h10
      have HS4 := Lib.hid h10
      clear h9 h10
      go_wp2
      go_roundg (107 - (k + 1))
      case measure => have := HG.out; omega
      case rel => exact ⟨k + 1, _, .slice va (k + 1) vc, by omega, rfl, rfl, by have := HQ.out; first | omega | go_num, HS4.out⟩
    · obtain rfl : k = 107 := by omega
      have hqq : ¬ q ≤ 118 := by have := HQ.out; omega
      clear hk7
      have h20 := HS2.out.alloc (.cells #[.int .u8 12, .int .u8 13, .int .u8 97, .int .u8 102, .int .u8 105, .int .u8 108, .int .u8 118] 5)
      obtain ⟨bl, hbl⟩ : ∃ bl, wr.heap.size = bl := ⟨_, rfl⟩
      rw [hbl] at h20
      have HS3 := Lib.hid (h20.of_eq (show _ = pts (b0 + 1 + 1 + 1) (fontO (.slice ca 107 cc) (.slice none 0 0) (.slice (some ⟨b0 + 1 + 1, 0, none⟩) 1 1)) * (rowC (.slice ca 107 cc) (smallC 0) * (pts bl (.cells #[.int .u8 12, .int .u8 13, .int .u8 97, .int .u8 102, .int .u8 105, .int .u8 108, .int .u8 118] 5) * R0)) by show _ * (_ * (rowC _ (smallC 0) * _)) = _; ac_rfl))
      have HBL := Lib.hid hbl
      clear h20 hbl
      go_upto_block 2 with fail
      rw [HBL.out]
      clear c3 lc fc d0 d1 d2 d3 d4 d5 ld HS2 HG HQ
      go_wp2_with fail
      go_loopg [5] 7 (fun gg s5 wx => ∃ k : Nat, k ≤ 7 ∧ gg = 7 - k ∧ s5 = .int .i64 k ∧ Sat w (pts (b0 + 1 + 1 + 1) (fontO (.slice ca 107 cc) (.slice none 0 0) (.slice (some ⟨b0 + 1 + 1, 0, none⟩) 1 1)) * (rowC (.slice ca 107 cc) (smallC k) * (pts bl (.cells #[.int .u8 12, .int .u8 13, .int .u8 97, .int .u8 102, .int .u8 105, .int .u8 108, .int .u8 118] 5) * R0))) wx)
      case atStart => exact ⟨0, by omega, rfl, rfl, HS3.out⟩
      case round =>
        obtain ⟨k, hk, hg, rfl, hs⟩ := hrel
        have HG := Lib.hid hg
        have HS4 := Lib.hid hs
        clear HS3 hg hs
        by_cases hk7 : k < 7
        · have hki : (k : Int) < 7 := by omega
          obtain ⟨hb1, hb2, hb3⟩ := small_bytes k hk7
          have HB3 := Lib.hid hb3
          obtain ⟨i, hi⟩ : ∃ i, smallI.getD k 0 = i := ⟨_, rfl⟩
          rw [hi] at hb1 hb2 HB3
          have h9 := HS4.out.drew
          obtain ⟨W9, hW9⟩ : ∃ W9, wr.drew = W9 := ⟨_, rfl⟩
          rw [hW9] at h9
          have HS9 := Lib.hid h9
          have c3 := h9.cell (i := 3) rfl
          have lc := h9.lt
          have bk := h9.r.r.cell (i := k) hb1
          have lbk := h9.r.r.lt
          have hlC := smallC_len k
          obtain ⟨g, cap, hcv, lg, ⟨o0, o1, o2, o3, o4, o5, e0, e1, e2, e3, e4, e5⟩, hfr⟩ := rowC_at h9.r (by rw [hlC]; exact hb2)
          rw [hlC] at hcv
          simp only [Value.slice.injEq, true_and] at hcv
          obtain ⟨rfl, rfl⟩ := hcv
          obtain ⟨cz, hcz⟩ : ∃ cz : Int, ((12 + i : Nat) : Int) = cz := ⟨_, rfl⟩
          rw [hcz] at bk
          have wz1 : IntKind.i64.wrap cz = cz := IntWalk.i64_in _ (by omega)
          have wz2 : IntKind.i64.wrap (cz - 12) = i := by rw [show cz - 12 = (i : Int) by omega]; exact IntWalk.i64_in _ (by omega)
          have wi0 : (0 : Int) ≤ i := by omega
          have wi1 : (i : Int) < 107 := by omega
          have f0 := hfr (i * 6)
          have f1 := hfr (i * 6 + 1)
          have f2 := hfr (i * 6 + 2)
          have f3 := hfr (i * 6 + 3)
          have f4 := hfr (i * 6 + 4)
          have f5 := hfr (i * 6 + 5)
          have hset := (h9.rot.of_eq (show _ = rowC (.slice (some ⟨g, 0, none⟩) (smallC k).length cc) (smallC k) * (pts (b0 + 1 + 1 + 1) (fontO (.slice (some ⟨g, 0, none⟩) 107 cc) (.slice none 0 0) (.slice (some ⟨b0 + 1 + 1, 0, none⟩) 1 1)) * (pts bl (.cells #[.int .u8 12, .int .u8 13, .int .u8 97, .int .u8 102, .int .u8 105, .int .u8 108, .int .u8 118] 5) * R0)) by rw [hlC])).imp (fun _ h => h)
          have hset2 := rowC_set hset (show i < (smallC k).length by rw [hlC]; exact hb2) letMet
          rw [hlC, ← HB3.out] at hset2
          have HS5 := Lib.hid (hset2.of_eq (show _ = pts (b0 + 1 + 1 + 1) (fontO (.slice (some ⟨g, 0, none⟩) 107 cc) (.slice none 0 0) (.slice (some ⟨b0 + 1 + 1, 0, none⟩) 1 1)) * (rowC (.slice (some ⟨g, 0, none⟩) 107 cc) (smallC (k + 1)) * (pts bl (.cells #[.int .u8 12, .int .u8 13, .int .u8 97, .int .u8 102, .int .u8 105, .int .u8 108, .int .u8 118] 5) * R0)) by ac_rfl))
          clear hb1 hb3 hi h9 hfr hset hset2 hcz HS4
          go_upto_region 11 with fail
          refine wp_region_tail (fun w' => w' = W9) 10 (by kernel_rfl) (by kernel_rfl) hW9 ?_
          clear hW9
          simp only [List.take_succ_cons, List.take_zero, List.drop_succ_cons, List.drop_zero]
          iterate 10
            with_reducible refine wpQuiet_step ?_
            intro K hK
            go_simp
            first
              | (with_reducible refine hK _ ?_
                 clear hK K)
              | (rw [if_neg (by intro h; cases h)]
                 with_reducible refine hK _ ?_
                 clear hK K)
              | (refine Exists.intro _ ⟨fun w9 hw9 => ?_, ?_⟩
                 rotate_left 1
                 with_reducible refine hK _ ?_
                 clear hK K
                 rotate_left 1
                 · subst hw9; go_simp; try with_reducible rfl)
          refine wpQuiet_nil ?_
          rintro w17 rfl
          go_wp2
          go_roundg (7 - (k + 1))
          case measure => have := HG.out; omega
          case rel => exact ⟨k + 1, by omega, rfl, by go_num, HS5.out⟩
        · obtain rfl : k = 7 := by omega
          clear hk7
          clear HG
          have h9 := HS4.out
          have c3 := h9.cell (i := 3) rfl
          have lc := h9.lt
          obtain ⟨g, cap, hcv, lg, ⟨o0, o1, o2, o3, o4, o5, e0, e1, e2, e3, e4, e5⟩, hfr⟩ := rowC_at (i := 90) h9.r (by rw [smallC_len]; decide)
          rw [smallC_len] at hcv
          simp only [Value.slice.injEq, true_and] at hcv
          obtain ⟨rfl, rfl⟩ := hcv
          have f0 := hfr (90 * 6)
          have f1 := hfr (90 * 6 + 1)
          have f2 := hfr (90 * 6 + 2)
          have f3 := hfr (90 * 6 + 3)
          have f4 := hfr (90 * 6 + 4)
          have f5 := hfr (90 * 6 + 5)
          have hset := h9.rot.of_eq (show _ = rowC (.slice (some ⟨g, 0, none⟩) (smallC 7).length cc) (smallC 7) * (pts (b0 + 1 + 1 + 1) (fontO (.slice (some ⟨g, 0, none⟩) 107 cc) (.slice none 0 0) (.slice (some ⟨b0 + 1 + 1, 0, none⟩) 1 1)) * (pts bl (.cells #[.int .u8 12, .int .u8 13, .int .u8 97, .int .u8 102, .int .u8 105, .int .u8 108, .int .u8 118] 5) * R0)) by rw [smallC_len])
          have hset2 := rowC_set hset (show 90 < (smallC 7).length by rw [smallC_len]; decide) ⟨524288, 0, 0, 0, 1, 0⟩
          rw [smallC_len] at hset2
          simp only [Nat.reduceMul, Nat.reduceAdd] at hset2 e0 e1 e2 e3 e4 e5 f0 f1 f2 f3 f4 f5
          obtain ⟨X1, hX1⟩ : ∃ X1, ((((((wr.setCell ⟨g, 540, none⟩ (.int .i64 524288)).setCell ⟨g, 541, none⟩ (.int .i64 0)).setCell ⟨g, 542, none⟩ (.int .i64 0)).setCell ⟨g, 543, none⟩ (.int .i64 0)).setCell ⟨g, 544, none⟩ (.int .i64 1)).setCell ⟨g, 545, none⟩ (.int .i64 0)) = X1 := ⟨_, rfl⟩
          rw [hX1] at hset2
          have HX1 := Lib.hid hX1
          have HS5 := Lib.hid (hset2.of_eq (show _ = pts (b0 + 1 + 1 + 1) (fontO (.slice (some ⟨g, 0, none⟩) 107 cc) (.slice none 0 0) (.slice (some ⟨b0 + 1 + 1, 0, none⟩) 1 1)) * (rowC (.slice (some ⟨g, 0, none⟩) 107 cc) ((smallC 7).set 90 ⟨524288, 0, 0, 0, 1, 0⟩) * (pts bl (.cells #[.int .u8 12, .int .u8 13, .int .u8 97, .int .u8 102, .int .u8 105, .int .u8 108, .int .u8 118] 5) * R0)) by ac_rfl))
          clear h9 hfr hset hset2 hX1 HS4
          go_upto_region 13 with fail
          rw [HX1.out]
          clear HX1 c3 lc lg e0 e1 e2 e3 e4 e5 f0 f1 f2 f3 f4 f5
          have h9 := HS5.out
          have c3 := h9.cell (i := 3) rfl
          have lc := h9.lt
          obtain ⟨g2, cap2, hcv, lg, ⟨o0, o1, o2, o3, o4, o5, e0, e1, e2, e3, e4, e5⟩, hfr⟩ := rowC_at (i := 85) h9.r (by rw [List.length_set, smallC_len]; decide)
          rw [List.length_set, smallC_len] at hcv
          simp only [Value.slice.injEq, true_and] at hcv
          obtain ⟨h10, rfl⟩ := hcv
          simp only [Option.some.injEq, Addr.mk.injEq, and_true] at h10
          subst h10
          have f0 := hfr (85 * 6)
          have f1 := hfr (85 * 6 + 1)
          have f2 := hfr (85 * 6 + 2)
          have f3 := hfr (85 * 6 + 3)
          have f4 := hfr (85 * 6 + 4)
          have f5 := hfr (85 * 6 + 5)
          have hset := h9.rot.of_eq (show _ = rowC (.slice (some ⟨g, 0, none⟩) ((smallC 7).set 90 ⟨524288, 0, 0, 0, 1, 0⟩).length cc) ((smallC 7).set 90 ⟨524288, 0, 0, 0, 1, 0⟩) * (pts (b0 + 1 + 1 + 1) (fontO (.slice (some ⟨g, 0, none⟩) 107 cc) (.slice none 0 0) (.slice (some ⟨b0 + 1 + 1, 0, none⟩) 1 1)) * (pts bl (.cells #[.int .u8 12, .int .u8 13, .int .u8 97, .int .u8 102, .int .u8 105, .int .u8 108, .int .u8 118] 5) * R0)) by rw [List.length_set, smallC_len])
          have hset2 := rowC_set hset (show 85 < ((smallC 7).set 90 ⟨524288, 0, 0, 0, 1, 0⟩).length by rw [List.length_set, smallC_len]; decide) ⟨524288, 0, 0, 0, 1, 2⟩
          rw [List.length_set, smallC_len] at hset2
          simp only [Nat.reduceMul, Nat.reduceAdd] at hset2 e0 e1 e2 e3 e4 e5 f0 f1 f2 f3 f4 f5
          obtain ⟨X2, hX2⟩ : ∃ X2, ((((((X1.setCell ⟨g, 510, none⟩ (.int .i64 524288)).setCell ⟨g, 511, none⟩ (.int .i64 0)).setCell ⟨g, 512, none⟩ (.int .i64 0)).setCell ⟨g, 513, none⟩ (.int .i64 0)).setCell ⟨g, 514, none⟩ (.int .i64 1)).setCell ⟨g, 515, none⟩ (.int .i64 2)) = X2 := ⟨_, rfl⟩
          rw [hX2] at hset2
          have HX2 := Lib.hid hX2
          have HS6 := Lib.hid (hset2.of_eq (show _ = pts (b0 + 1 + 1 + 1) (fontO (.slice (some ⟨g, 0, none⟩) 107 cc) (.slice none 0 0) (.slice (some ⟨b0 + 1 + 1, 0, none⟩) 1 1)) * (rowC (.slice (some ⟨g, 0, none⟩) 107 cc) (((smallC 7).set 90 ⟨524288, 0, 0, 0, 1, 0⟩).set 85 ⟨524288, 0, 0, 0, 1, 2⟩) * (pts bl (.cells #[.int .u8 12, .int .u8 13, .int .u8 97, .int .u8 102, .int .u8 105, .int .u8 108, .int .u8 118] 5) * R0)) by ac_rfl))
          clear h9 hfr hset hset2 hX2 HS5
          go_upto_region 14 with fail
          rw [HX2.out]
          clear HX2 c3 lc lg e0 e1 e2 e3 e4 e5 f0 f1 f2 f3 f4 f5
          obtain ⟨bs, hbs⟩ : ∃ bs, X2.heap.size = bs := ⟨_, rfl⟩
          have lc := HS6.out.lt
          have fc := HS6.out.free (i := 4)
          have c4 := HS6.out.cell (i := 4) rfl
          have h9 := HS6.out.set (i := 4) (v := .slice (some ⟨bs, 0, none⟩) 3 3)
          rw [fset4] at h9
          have h10 := h9.alloc (.cells #[.int .u8 0, .int .u8 105, .int .u8 0, .int .u8 12, .int .u8 128, .int .u8 108, .int .u8 0, .int .u8 13, .int .u8 128, .int .u8 118, .int .u8 128, .int .u8 0] 36)
          rw [World.size_setCell, hbs] at h10
          have h11 := (h10.of_eq (show _ = pts (b0 + 1 + 1 + 1) (fontO (.slice (some ⟨g, 0, none⟩) 107 cc) (.slice (some ⟨bs, 0, none⟩) 3 3) (.slice (some ⟨b0 + 1 + 1, 0, none⟩) 1 1)) * (pts bs (.cells #[.int .u8 0, .int .u8 105, .int .u8 0, .int .u8 12, .int .u8 128, .int .u8 108, .int .u8 0, .int .u8 13, .int .u8 128, .int .u8 118, .int .u8 128, .int .u8 0] 36) * (rowC (.slice (some ⟨g, 0, none⟩) 107 cc) (((smallC 7).set 90 ⟨524288, 0, 0, 0, 1, 0⟩).set 85 ⟨524288, 0, 0, 0, 1, 2⟩) * (pts bl (.cells #[.int .u8 12, .int .u8 13, .int .u8 97, .int .u8 102, .int .u8 105, .int .u8 108, .int .u8 118] 5) * R0))) by ac_rfl))
          obtain ⟨X3, hX3⟩ : ∃ X3, (X2.setCell ⟨b0 + 1 + 1 + 1, 4, none⟩ (.slice (some ⟨bs, 0, none⟩) 3 3)).alloc (.cells #[.int .u8 0, .int .u8 105, .int .u8 0, .int .u8 12, .int .u8 128, .int .u8 108, .int .u8 0, .int .u8 13, .int .u8 128, .int .u8 118, .int .u8 128, .int .u8 0] 36) = X3 := ⟨_, rfl⟩
          rw [hX3] at h11
          have HX3 := Lib.hid hX3
          have HBS := Lib.hid hbs
          have HS7 := Lib.hid h11
          clear h9 h10 h11 hX3 hbs HS6
          go_upto_region 15 with fail
          rw [HBS.out, HX3.out]
          clear HBS HX3 lc fc c4
          have h12 := HS7.out
          have e0 := h12.cell (i := 0) rfl
          have e1 := h12.cell (i := 1) rfl
          have e2 := h12.cell (i := 2) rfl
          have e3 := h12.cell (i := 3) rfl
          have e4 := h12.cell (i := 4) rfl
          have e5 := h12.cell (i := 5) rfl
          have e6 := h12.cell (i := 6) rfl
          have e7 := h12.cell (i := 7) rfl
          have le := h12.lt
          rw [← HR0.out] at h12
          have h13 := h12.of_eq (show _ = pts b0 (.cells #[.int .u32 0, .int .i64 0, .int .i64 0, .slice none 0 0, .slice none 0 0, .slice none 0 0, .slice none 0 0, .slice none 0 0] 28) * (pts (b0 + 1 + 1 + 1) (fontO (.slice (some ⟨g, 0, none⟩) 107 cc) (.slice (some ⟨bs, 0, none⟩) 3 3) (.slice (some ⟨b0 + 1 + 1, 0, none⟩) 1 1)) * (pts bs (.cells #[.int .u8 0, .int .u8 105, .int .u8 0, .int .u8 12, .int .u8 128, .int .u8 108, .int .u8 0, .int .u8 13, .int .u8 128, .int .u8 118, .int .u8 128, .int .u8 0] 36) * (rowC (.slice (some ⟨g, 0, none⟩) 107 cc) (((smallC 7).set 90 ⟨524288, 0, 0, 0, 1, 0⟩).set 85 ⟨524288, 0, 0, 0, 1, 2⟩) * (pts (b0 + 1 + 1) (.cells #[.int .i64 (-20000)] 3) * (pts (b0 + 1) noMet.box * (pts bl (.cells #[.int .u8 12, .int .u8 13, .int .u8 97, .int .u8 102, .int .u8 105, .int .u8 108, .int .u8 118] 5) * own w)))))) by ac_rfl)
          have d0 := h13.cell (i := 0) rfl
          have d1 := h13.cell (i := 1) rfl
          have d2 := h13.cell (i := 2) rfl
          have d3 := h13.cell (i := 3) rfl
          have d4 := h13.cell (i := 4) rfl
          have d5 := h13.cell (i := 5) rfl
          have d6 := h13.cell (i := 6) rfl
          have d7 := h13.cell (i := 7) rfl
          have ld := h13.lt
          have f0 := h13.free (i := 0)
          have f1 := h13.free (i := 1)
          have f2 := h13.free (i := 2)
          have f3 := h13.free (i := 3)
          have f4 := h13.free (i := 4)
          have f5 := h13.free (i := 5)
          have f6 := h13.free (i := 6)
          have f7 := h13.free (i := 7)
          have h14 := sat_set8 h13 rfl (.int .u32 0) (.int .i64 10485760) (.int .i64 12) (.slice (some ⟨g, 0, none⟩) 107 cc) (.slice (some ⟨bs, 0, none⟩) 3 3) (.slice (some ⟨b0 + 1 + 1, 0, none⟩) 1 1) (.slice none 0 0) (.slice none 0 0)
          have G := Lib.hid h14
          clear h12 h13 h14 HS7
          go_wp2
          clear d0 d1 d2 d3 d4 d5 d6 d7 e0 e1 e2 e3 e4 e5 e6 e7 f0 f1 f2 f3 f4 f5 f6 f7
          have d0 := G.out.cell (i := 0) rfl
          have d1 := G.out.cell (i := 1) rfl
          have d2 := G.out.cell (i := 2) rfl
          have d3 := G.out.cell (i := 3) rfl
          have d4 := G.out.cell (i := 4) rfl
          have d5 := G.out.cell (i := 5) rfl
          have d6 := G.out.cell (i := 6) rfl
          have d7 := G.out.cell (i := 7) rfl
          refine bodyPost_ret (v := smallF.val ⟨.slice (some ⟨g, 0, none⟩) 107 cc, .slice (some ⟨bs, 0, none⟩) 3 3, (.slice (some ⟨b0 + 1 + 1, 0, none⟩) 1 1), .slice none 0 0, .slice none 0 0⟩) (by unfold results smallF; go_simp) rfl ?_
          have hG := G.out.r.r
          exact ⟨_, rfl, small_rd (hG.of_eq (show _ = rowC (.slice (some ⟨g, 0, none⟩) 107 cc) (((smallC 7).set 90 ⟨524288, 0, 0, 0, 1, 0⟩).set 85 ⟨524288, 0, 0, 0, 1, 2⟩) * (pts bs (.cells #[.int .u8 0, .int .u8 105, .int .u8 0, .int .u8 12, .int .u8 128, .int .u8 108, .int .u8 0, .int .u8 13, .int .u8 128, .int .u8 118, .int .u8 128, .int .u8 0] 36) * (pts (b0 + 1 + 1) (.cells #[.int .i64 (-20000)] 3) * (pts (b0 + 1) noMet.box * (pts bl (.cells #[.int .u8 12, .int .u8 13, .int .u8 97, .int .u8 102, .int .u8 105, .int .u8 108, .int .u8 118] 5) * own w)))) by ac_rfl)), hG.r.r.r.r.r.toExt⟩
end Go.Proofs.Ytigjfbbgbiajbaa
