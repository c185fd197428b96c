/-
  A mark's steps, one by one (an iterator), and the step of two marks (a range over it). Conditions: those that each theorem names.
-/
import Derived.Test.YtigjfbbgbiajbaaLgA
import Derived.Test.YtigjfbbgbiajbaaRangeF
import Derived.Shelf.Abstract
import Derived.OwnWalkIn
import Derived.TacticsInMore
import Derived.RangeFuncBound
import Derived.LoopNIn
import Derived.LoopIn
import Derived.Sort.LoopGhostIn
namespace Go.Proofs.Ytigjfbbgbiajbaa
open Go.RowKit Go.Sp Go.Shelf
variable {w : World} {x : FV} {F : Fnt}
attribute [local go_sem] Oper.semAt_some

def stepsI (F : Fnt) : Nat → Int → List Stp
  | 0, _ => []
  | g + 1, a =>
    if 0 ≤ a ∧ a < F.steps.length then
      if 128 < (stpM F a.toNat).skip.toNat then [] else
      if (stpM F a.toNat).skip.toNat = 128 then [stpM F a.toNat] else stpM F a.toNat :: stepsI F g (a + ((stpM F a.toNat).skip.toNat + 1))
    else []
def stepsM (F : Fnt) (mark : Int) : List Stp := stepsI F (F.steps.length + 1) (beginM F mark)
def findM (F : Fnt) (x y : Int) : Option Stp :=
  let y := if y = 256 then edgeM F else y
  if y < 0 ∨ x = 256 then none else (stepsM F x).find? fun s => decide ((s.next.toNat : Int) = y)
theorem stepsI_mem (F : Fnt) : ∀ (g : Nat) (a : Int) (s : Stp), s ∈ stepsI F g a → ∃ k, k < F.steps.length ∧ s = stpM F k ∧ s.skip.toNat ≤ 128
  | 0, _, s, h => by simp [stepsI] at h
  | g + 1, a, s, h => by
    unfold stepsI at h
    split at h
    · rename_i ha
      split at h
      · cases h
      · split at h
        · rename_i h1 h2
          rw [List.mem_singleton] at h
          exact ⟨a.toNat, by omega, h, by rw [h]; omega⟩
        · rename_i h1 h2
          rcases List.mem_cons.1 h with h | h
          · exact ⟨a.toNat, by omega, h, by rw [h]; omega⟩
          · exact stepsI_mem F g _ s h
    · cases h
theorem findM_mem {F : Fnt} {x y : Int} {s : Stp} (h : findM F x y = some s) : ∃ k, k < F.steps.length ∧ s = stpM F k ∧ s.skip.toNat ≤ 128 := by
  unfold findM at h
  generalize (if y = 256 then edgeM F else y) = y2 at h
  simp only at h
  by_cases hc : y2 < 0 ∨ x = 256
  · rw [if_pos hc] at h; cases h
  · rw [if_neg hc] at h
    exact stepsI_mem F _ _ s (List.mem_of_find?_eq_some h)

abbrev intO (x : Int) : Obj := .cells #[.int .i64 x] 3
set_option maxRecDepth 100000 in
theorem steps_any (mark : Int) (w : World) : Calls Try.prog 28 #[F.pval x, .int .i64 mark] w fun e w' =>
    e = .returned (.func (.func 41) #[] #[.pointer (some ⟨w.heap.size, 0, none⟩), .pointer (some ⟨w.heap.size + 1, 0, none⟩)]) ∧ w' = (w.alloc (F.pbox x)).alloc (intO mark) := by
  go_enter Try.func28, Try.ntmps28
  go_wp2
  go_ret
  exact ⟨rfl, rfl⟩

/-- what the iterator owns -/
def stepsA (F : Fnt) (x : FV) (W : World) (bp bm : Nat) (mark : Int) : HProp := pts bp (F.pbox x) * (pts bm (intO mark) * own W)
set_option maxRecDepth 100000 in
set_option maxHeartbeats 4000000 in
theorem steps_seq {W : World} (h : RdF W x F) (hk : FOk F) {mark : Int} (hm : -1 ≤ mark ∧ mark ≤ 256) (bp bm : Nat) :
    SeqSatF Try.prog W 41 #[.pointer (some ⟨bp, 0, none⟩), .pointer (some ⟨bm, 0, none⟩)] (fun s : Stp => #[s.val]) (stepsM F mark) (stepsA F x W bp bm mark) := by
  intro l J K w hY h0
  unfold stepsA at hY h0 ⊢
  have HY := Lib.hid hY
  have H0 := Lib.hid h0
  have HRD := Lib.hid h
  have hE := (h0.of_eq (show _ = own W * (pts bp (F.pbox x) * (pts bm (intO mark) * J [])) by ac_rfl)).l.toExt
  have HB := Lib.hid (BoxP.of (h0.of_eq (show _ = pts bp (F.pbox x) * (pts bm (intO mark) * own W * J []) by ac_rfl)))
  have hm0 := (h0.of_eq (show _ = pts bm (intO mark) * (pts bp (F.pbox x) * own W * J []) by ac_rfl))
  have d0 := hm0.cell (i := 0) rfl
  have ld := hm0.lt
  have HBG := Lib.hid (begin_any (h.ext hE) hk mark hm)
  obtain ⟨a0, ha0⟩ : ∃ a0, beginM F mark = a0 := ⟨_, rfl⟩
  have hbi := beginM_in hk mark
  unfold stepsM at hY HY ⊢
  rw [ha0] at HBG hbi HY ⊢
  obtain ⟨XS, hXS⟩ : ∃ XS, stepsI F (F.steps.length + 1) a0 = XS := ⟨_, rfl⟩
  rw [hXS] at HY ⊢
  have HXS := Lib.hid hXS
  clear hXS
  have hls := hk.hs
  obtain ⟨ca, cc, sa, sc, ka, kc, pa, pc, ra, rc, rfl, -⟩ := h.vals
  clear hY h0 h hE hm0 ha0
  refine callsIn_of_wp Try.func41 rfl trivial ?_ rfl
  simp only [Try.ntmps41, List.size_toArray, List.length_cons, List.length_nil, Nat.reduceAdd, Nat.reduceSub, Array.replicate_succ, Array.replicate_zero, List.push_toArray, List.append_toArray, List.nil_append, List.cons_append]
  have b0 := HB.out.c0
  have b1 := HB.out.c1
  have b2 := HB.out.c2
  have b3 := HB.out.c3
  have b4 := HB.out.c4
  have b5 := HB.out.c5
  have b6 := HB.out.c6
  have b7 := HB.out.c7
  have b8 := HB.out.c8
  have lq := HB.out.lt
  clear HB
  gi_wp2
  refine ⟨trivial, callsIn_wide.2 ?_⟩
  with_reducible refine Calls.mono HBG.out ?_
  rintro e w2 ⟨rfl, hx⟩
  have H2 := Lib.hid (H0.out.ext hx)
  have HBI := Lib.hid hbi
  clear HBG H0 hx d0 ld b0 b1 b2 b3 b4 b5 b6 b7 b8 lq hbi
  gi_wp2
  gi_loopg [4] (F.steps.length + 1) (fun gg s4 wx => ∃ (g : Nat) (a : Int) (pre : List Stp), gg = g ∧ s4 = .int .i64 a ∧ (F.steps.length : Int) ≤ a + g ∧ -1 ≤ a ∧ a < F.steps.length + 1000 ∧ XS = pre ++ stepsI F g a ∧
    Sat W (pts bp (F.pbox ⟨.slice ca F.chars.length cc, .slice sa F.steps.length sc, .slice ka F.kerns.length kc, .slice pa F.pieces.length pc, .slice ra F.params.length rc⟩) * (pts bm (intO mark) * own W) * J pre) wx)
  case atStart => exact ⟨F.steps.length + 1, a0, [], rfl, rfl, by have := HBI.out; omega, by have := HBI.out; omega, by have := HBI.out; omega, HXS.out.symm, H2.out⟩
  case round =>
    obtain ⟨g, a, pre, hg, rfl, hn, ha, hab, hp, hx⟩ := hrel
    subst hg
    have HX := Lib.hid hx
    have HP := Lib.hid hp
    have HN := Lib.hid hn
    have HB := Lib.hid (BoxP.of (hx.of_eq (star_assoc _ _ _)))
    have b0 := HB.out.c0
    have b1 := HB.out.c1
    have b2 := HB.out.c2
    have b3 := HB.out.c3
    have b4 := HB.out.c4
    have b5 := HB.out.c5
    have b6 := HB.out.c6
    have b7 := HB.out.c7
    have b8 := HB.out.c8
    have lq := HB.out.lt
    clear hx hp hn H2 HB
    cases gk with
    | zero =>
      have hna : ¬ a < F.steps.length := by have := HN.out; omega
      have ha0 : 0 ≤ a := by have := HN.out; omega
      gi_wp2
      go_end0
      have hp := HP.out
      rw [show stepsI F 0 a = [] from rfl, List.append_nil] at hp
      have hx := HX.out
      rw [← hp] at hx
      exact ⟨⟨_, rfl⟩, .inl hx⟩
    | succ g =>
      have hp := HP.out
      rw [stepsI] at hp
      by_cases ha0 : 0 ≤ a
      · by_cases han : a < F.steps.length
        · rw [if_pos ⟨ha0, han⟩] at hp
          obtain ⟨k, rfl⟩ : ∃ k : Nat, a = k := ⟨a.toNat, by omega⟩
          rw [Int.toNat_natCast] at hp
          have hkn : k < F.steps.length := by omega
          have hE := (HX.out.of_eq (show _ = own W * (pts bp (F.pbox ⟨.slice ca F.chars.length cc, .slice sa F.steps.length sc, .slice ka F.kerns.length kc, .slice pa F.pieces.length pc, .slice ra F.params.length rc⟩) * (pts bm (intO mark) * J pre)) by ac_rfl)).l.toExt
          obtain ⟨b, off, rfl, c0, c1, c2, c3, lb⟩ := (HRD.out.ext hE).stp rfl hkn
          obtain ⟨s, hs⟩ : ∃ s, stpM F k = s := ⟨_, rfl⟩
          rw [hs] at c0 c1 c2 c3 hp
          have hsk := u8i s.skip
          by_cases k1 : 128 < s.skip.toNat
          · rw [if_pos k1, List.append_nil] at hp
            have k1i : (128 : Int) < s.skip.toNat := by omega
            have k1j : (128 : Int) ≤ s.skip.toNat := by omega
            have k1k : ¬ (s.skip.toNat : Int) ≤ 128 := by omega
            have HP2 := Lib.hid hp
            clear hp hs hE k1
            obtain ⟨s1, s2, s3, s4⟩ := s
            simp only at c0 c1 c2 c3 k1i k1j k1k hsk
            gi_wp2
            refine ⟨fun _ h => (by cases h), ?_⟩
            gi_wp2
            refine bodyPost_ret (results_none rfl _ _ _) rfl ?_
            have hx := HX.out
            rw [← HP2.out] at hx
            exact ⟨⟨_, rfl⟩, .inl hx.allocD⟩
          · rw [if_neg k1] at hp
            have k1i : (s.skip.toNat : Int) ≤ 128 := by omega
            have hal : Sat W (pts wr.heap.size s.box * (pts bp (F.pbox ⟨.slice ca F.chars.length cc, .slice (some ⟨b, off, none⟩) F.steps.length sc, .slice ka F.kerns.length kc, .slice pa F.pieces.length pc, .slice ra F.params.length rc⟩) * (pts bm (intO mark) * own W) * J pre)) (wr.alloc s.box) := HX.out.alloc s.box
            have hlx : XS = pre ++ s :: (if s.skip.toNat = 128 then [] else stepsI F g ((k : Int) + (s.skip.toNat + 1))) := by rw [hp]; split <;> rfl
            obtain ⟨fn, tmps, assign, body, hy, hR⟩ := HY.out (pts wr.heap.size s.box) pre s _ (wr.alloc s.box) hlx hal
            have HR := Lib.hid hR
            have HP2 := Lib.hid hp
            have HAL := Lib.hid hal
            have HLX := Lib.hid hlx
            clear hp hs hE k1 hR hal hlx
            obtain ⟨s1, s2, s3, s4⟩ := s
            simp only at c0 c1 c2 c3 k1i hsk hy
            gi_wp2
            refine HR.out.mono ?_
            clear c0 c1 c2 c3 lb b0 b1 b2 b3 b4 b5 b6 b7 b8 lq hy HR HX HAL
            rintro e w5 (⟨rfl, hs⟩ | ⟨rfl, hs⟩)
            · have HS := Lib.hid hs
              have d0 := hs.cell (i := 0) rfl
              have ld := hs.lt
              have HB := Lib.hid (BoxP.of (hs.r.of_eq (star_assoc _ _ _)))
              have b0 := HB.out.c0
              have b1 := HB.out.c1
              have b2 := HB.out.c2
              have b3 := HB.out.c3
              have b4 := HB.out.c4
              have b5 := HB.out.c5
              have b6 := HB.out.c6
              have b7 := HB.out.c7
              have b8 := HB.out.c8
              have lq := HB.out.lt
              clear hs HB
              by_cases k2 : s1.toNat = 128
              · have k2i : (s1.toNat : Int) = 128 := by omega
                have hlx := HLX.out
                rw [if_pos k2] at hlx
                have HLY := Lib.hid hlx
                clear hlx k2
                gi_wp2
                refine bodyPost_ret (results_none rfl _ _ _) rfl ?_
                rw [HLY.out]
                exact ⟨⟨_, rfl⟩, .inl HS.out.r⟩
              · have k2i : ¬ (128 : Int) ≤ s1.toNat := by omega
                have hlx := HLX.out
                rw [if_neg k2] at hlx
                have HLY := Lib.hid hlx
                clear hlx k2
                gi_wp2
                gi_roundg g
                case measure => omega
                case rel => exact ⟨g, (k : Int) + ((s1.toNat : Int) + 1), pre ++ [⟨s1, s2, s3, s4⟩], rfl, by first | rfl | go_num, by have := HN.out; omega, by omega, by omega, by rw [HLY.out]; simp, HS.out.r⟩
            · have HS := Lib.hid hs
              clear hs
              gi_wp2
              refine bodyPost_ret (results_none rfl _ _ _) rfl ?_
              exact ⟨⟨_, rfl⟩, .inr ⟨pre, ⟨s1, s2, s3, s4⟩, _, HLX.out, HS.out.r⟩⟩
        · rw [if_neg (fun h => han h.2), List.append_nil] at hp
          have HP2 := Lib.hid hp
          clear hp
          gi_wp2
          go_end0
          have hx := HX.out
          rw [← HP2.out] at hx
          exact ⟨⟨_, rfl⟩, .inl hx⟩
      · rw [if_neg (fun h => ha0 h.1), List.append_nil] at hp
        have HP2 := Lib.hid hp
        clear hp
        gi_wp2
        go_end0
        have hx := HX.out
        rw [← HP2.out] at hx
        exact ⟨⟨_, rfl⟩, .inl hx⟩

abbrev boolO (x : Bool) : Obj := .cells #[.bool x] 4
abbrev Stp.boxv (s : Stp) : Obj := .cells #[.int .u8 s.skip.toNat, .int .u8 s.next.toNat, .int .u8 s.op.toNat, .int .u8 s.rest.toNat] 36
/-- what find owns: its program, the mark, its results -/
def findG (F : Fnt) (x : FV) (bf : Nat) (y2 : Int) (s : Stp) (b : Bool) : HProp := pts bf (F.pbox x) * (pts (bf + 1) (intO y2) * (pts (bf + 1 + 1) s.boxv * pts (bf + 1 + 1 + 1) (boolO b)))
def findI (F : Fnt) (x : FV) (bf : Nat) (y2 : Int) (pre : List Stp) : HProp := fact (∀ s ∈ pre, ¬ ((s.next.toNat : Int) = y2)) (findG F x bf y2 stp0 false)
def findX (F : Fnt) (x : FV) (bf : Nat) (y2 : Int) (c : Code) (pre : List Stp) : HProp := ex fun s => fact (c = Code.ret ∧ pre.find? (fun s => decide ((s.next.toNat : Int) = y2)) = some s) (findG F x bf y2 s true)
set_option maxRecDepth 100000 in
set_option maxHeartbeats 8000000 in
theorem find_end {W : World} {y2 : Int} {bf : Nat} {s : Stp} {b : Bool} (A : HProp) (h : Sat W (findG F x bf y2 s b * A) w) :
    BoxP w bf F x ∧ w.cell? ⟨bf + 1, 0, none⟩ = some (.int .i64 y2) ∧ w.cell? ⟨bf + 1 + 1, 0, none⟩ = some (.int .u8 s.skip.toNat) ∧ w.cell? ⟨bf + 1 + 1, 1, none⟩ = some (.int .u8 s.next.toNat) ∧ w.cell? ⟨bf + 1 + 1, 2, none⟩ = some (.int .u8 s.op.toNat) ∧
      w.cell? ⟨bf + 1 + 1, 3, none⟩ = some (.int .u8 s.rest.toNat) ∧ w.cell? ⟨bf + 1 + 1 + 1, 0, none⟩ = some (.bool b) ∧ bf + 1 + 1 + 1 < w.heap.size ∧
      (w.frozen? ⟨bf + 1 + 1, 0, none⟩ = false ∧ w.frozen? ⟨bf + 1 + 1, 1, none⟩ = false ∧ w.frozen? ⟨bf + 1 + 1, 2, none⟩ = false ∧ w.frozen? ⟨bf + 1 + 1, 3, none⟩ = false ∧ w.frozen? ⟨bf + 1 + 1 + 1, 0, none⟩ = false) := by
  unfold findG at h
  have h1 := h.of_eq (show _ = pts bf (F.pbox x) * (pts (bf + 1) (intO y2) * (pts (bf + 1 + 1) s.boxv * (pts (bf + 1 + 1 + 1) (boolO b) * A))) by ac_rfl)
  have h2 := h1.r
  have h3 := h2.r
  have h4 := h3.r
  exact ⟨BoxP.of h1, h2.cell rfl, h3.cell rfl, h3.cell rfl, h3.cell rfl, h3.cell rfl, h4.cell rfl, h4.lt, h3.free, h3.free, h3.free, h3.free, h4.free⟩
theorem find_set {W : World} {y2 : Int} {bf : Nat} {s : Stp} {b : Bool} (A : HProp) (h : Sat W (findG F x bf y2 s b * A) w) (s' : Stp) (b' : Bool) :
    Sat W (findG F x bf y2 s' b' * A) (((((w.setCell ⟨bf + 1 + 1, 0, none⟩ (.int .u8 s'.skip.toNat)).setCell ⟨bf + 1 + 1, 1, none⟩ (.int .u8 s'.next.toNat)).setCell ⟨bf + 1 + 1, 2, none⟩ (.int .u8 s'.op.toNat)).setCell ⟨bf + 1 + 1, 3, none⟩ (.int .u8 s'.rest.toNat)).setCell ⟨bf + 1 + 1 + 1, 0, none⟩ (.bool b')) := by
  unfold findG at h ⊢
  have h1 := h.of_eq (show _ = pts (bf + 1 + 1) s.boxv * (pts bf (F.pbox x) * (pts (bf + 1) (intO y2) * (pts (bf + 1 + 1 + 1) (boolO b) * A))) by ac_rfl)
  have h2 := sat_set4 h1 (.int .u8 s'.skip.toNat) (.int .u8 s'.next.toNat) (.int .u8 s'.op.toNat) (.int .u8 s'.rest.toNat)
  have h3 := (h2.of_eq (show _ = pts (bf + 1 + 1 + 1) (boolO b) * (pts (bf + 1 + 1) s'.boxv * (pts bf (F.pbox x) * (pts (bf + 1) (intO y2) * A))) by ac_rfl)).set (i := 0) (v := .bool b')
  exact h3.of_eq (show pts (bf + 1 + 1 + 1) (boolO b') * _ = _ by ac_rfl)
set_option maxRecDepth 100000 in
set_option maxHeartbeats 8000000 in
theorem find_any (h : RdF w x F) (hk : FOk F) (m y : Int) (hm : -1 ≤ m ∧ m ≤ 256) :
    Calls Try.prog 17 #[F.pval x, .int .i64 m, .int .i64 y] w fun e w' => e = .returned (.tuple #[((findM F m y).getD stp0).val, .bool (findM F m y).isSome]) ∧ Ext w w' := by
  by_cases hy : y = 256
  · obtain ⟨y2, hy2⟩ : ∃ y2, (if y = 256 then edgeM F else y) = y2 := ⟨_, rfl⟩
    have hy3 : y2 = edgeM F := by rw [← hy2, if_pos hy]
    have HS := (((Sat.start w).alloc (F.pbox x)).alloc (intO y2)).alloc (stp0.boxv)
    have HSS := HS.alloc (boolO false)
    clear HS
    obtain ⟨W1, hW1⟩ : ∃ W1, ((((w.alloc (F.pbox x)).alloc (intO y2)).alloc stp0.boxv).alloc (boolO false)) = W1 := ⟨_, rfl⟩
    obtain ⟨bf, hbf⟩ : ∃ bf, w.heap.size = bf := ⟨_, rfl⟩
    simp only [World.size_alloc] at HSS
    rw [hW1, hbf] at HSS
    have hs1 := HSS.of_eq (show _ = findG F x bf y2 stp0 false * own w by unfold findG; ac_rfl)
    have HS1 := Lib.hid hs1
    have hst := fun bp bm => steps_seq h hk hm bp bm
    have HST := Lib.hid hst
    have HF := Lib.hid h
    obtain ⟨ca, cc, sa, sc, ka, kc, pa, pc, ra, rc, rfl, -⟩ := h.vals
    obtain ⟨r, hr⟩ : ∃ r, findM F m y = r := ⟨_, rfl⟩
    rw [hr]
    unfold findM at hr
    rw [hy2] at hr
    simp only at hr
    simp only [Fnt.pbox, intO, Stp.boxv, stp0, boolO, show ((UInt8.toNat 0 : Nat) : Int) = 0 from rfl] at hW1
    have HR := Lib.hid hr
    have HW1 := Lib.hid hW1
    have HBF := Lib.hid hbf
    clear hr hW1 hbf HSS hs1 hst h
    clear hy2
    have HY3 := Lib.hid hy3
    subst hy3
    refine calls_of_wp_range Try.func17 rfl ?_
    simp only [Try.ntmps17, List.size_toArray, List.length_cons, List.length_nil, Nat.reduceAdd, Nat.reduceSub, Array.replicate_succ, Array.replicate_zero, List.push_toArray, List.append_toArray, List.nil_append, List.cons_append]
    go_upto_region 3 with fail
    rw [HBF.out, HW1.out]
    clear HBF HW1
    obtain ⟨hbp, d0, e0, e1, e2, e3, e4, le, f0, f1, f2, f3, f4⟩ := find_end _ HS1.out
    have HB := Lib.hid hbp
    have le1 : bf + 1 + 1 < _ := Nat.lt_of_succ_lt le
    have le0 : bf + 1 < _ := Nat.lt_of_succ_lt le1
    clear hbp
    have b0 := HB.out.c0
    have b1 := HB.out.c1
    have b2 := HB.out.c2
    have b3 := HB.out.c3
    have b4 := HB.out.c4
    have b5 := HB.out.c5
    have b6 := HB.out.c6
    have b7 := HB.out.c7
    have b8 := HB.out.c8
    have lq := HB.out.lt
    clear HB
    by_cases n1 : (edgeM F) < 0
    · have hr := HR.out
      rw [if_pos (.inl n1)] at hr
      subst hr
      go_wp2
      have G := Lib.hid (find_set _ HS1.out stp0 false)
      clear d0 e0 e1 e2 e3 e4 le le1 le0 f0 f1 f2 f3 f4 b0 b1 b2 b3 b4 b5 b6 b7 b8 lq
      obtain ⟨-, -, e0, e1, e2, e3, e4, -, -⟩ := find_end _ G.out
      simp only [stp0, show ((UInt8.toNat 0 : Nat) : Int) = 0 from rfl] at e0 e1 e2 e3 e4 G
      refine post_ret (v := .tuple #[.agg #[.int .u8 0, .int .u8 0, .int .u8 0, .int .u8 0], .bool false]) rfl (by unfold results; go_simp) ⟨rfl, G.out.r.toExt⟩
    by_cases n2 : m = 256
    · have hr := HR.out
      rw [if_pos (.inr n2)] at hr
      subst hr
      go_wp2
      have G := Lib.hid (find_set _ HS1.out stp0 false)
      clear d0 e0 e1 e2 e3 e4 le le1 le0 f0 f1 f2 f3 f4 b0 b1 b2 b3 b4 b5 b6 b7 b8 lq
      obtain ⟨-, -, e0, e1, e2, e3, e4, -, -⟩ := find_end _ G.out
      simp only [stp0, show ((UInt8.toNat 0 : Nat) : Int) = 0 from rfl] at e0 e1 e2 e3 e4 G
      refine post_ret (v := .tuple #[.agg #[.int .u8 0, .int .u8 0, .int .u8 0, .int .u8 0], .bool false]) rfl (by unfold results; go_simp) ⟨rfl, G.out.r.toExt⟩
    have hr := HR.out
    rw [if_neg (fun h => h.elim n1 n2)] at hr
    clear HR
    have HR := Lib.hid hr
    clear hr
    have HP := Lib.hid (steps_any (F := F) (x := ⟨.slice ca F.chars.length cc, .slice sa F.steps.length sc, .slice ka F.kerns.length kc, .slice pa F.pieces.length pc, .slice ra F.params.length rc⟩) m W1)
    go_wp2_with fail
    with_reducible refine Calls.mono HP.out ?_
    rintro e w2 ⟨rfl, rfl⟩
    clear d0 e0 e1 e2 e3 e4 le le1 le0 f0 f1 f2 f3 f4 b0 b1 b2 b3 b4 b5 b6 b7 b8 lq
    clear HP
    go_wp2
    obtain ⟨bp, hbp⟩ : ∃ bp, W1.heap.size = bp := ⟨_, rfl⟩
    have h7 := (HS1.out.alloc (F.pbox ⟨.slice ca F.chars.length cc, .slice sa F.steps.length sc, .slice ka F.kerns.length kc, .slice pa F.pieces.length pc, .slice ra F.params.length rc⟩)).alloc (intO m)
    rw [World.size_alloc] at h7
    obtain ⟨W2, hW2⟩ : ∃ W2, (W1.alloc (F.pbox ⟨.slice ca F.chars.length cc, .slice sa F.steps.length sc, .slice ka F.kerns.length kc, .slice pa F.pieces.length pc, .slice ra F.params.length rc⟩)).alloc (intO m) = W2 := ⟨_, rfl⟩
    rw [hW2, hbp] at h7
    rw [show (W1.alloc (F.pbox ⟨.slice ca F.chars.length cc, .slice sa F.steps.length sc, .slice ka F.kerns.length kc, .slice pa F.pieces.length pc, .slice ra F.params.length rc⟩)).alloc (.cells #[.int .i64 m] 3) = W2 from hW2, hbp]
    have H7 := Lib.hid (show Sat w (stepsA F ⟨.slice ca F.chars.length cc, .slice sa F.steps.length sc, .slice ka F.kerns.length kc, .slice pa F.pieces.length pc, .slice ra F.params.length rc⟩ w bp (bp + 1) m * fact (∀ s ∈ ([] : List Stp), ¬ ((s.next.toNat : Int) = (edgeM F))) (findG F ⟨.slice ca F.chars.length cc, .slice sa F.steps.length sc, .slice ka F.kerns.length kc, .slice pa F.pieces.length pc, .slice ra F.params.length rc⟩ bf ((edgeM F)) stp0 false)) W2 from (Sat.fact_l_intro (by simp) (h7.of_eq (show _ = findG F ⟨.slice ca F.chars.length cc, .slice sa F.steps.length sc, .slice ka F.kerns.length kc, .slice pa F.pieces.length pc, .slice ra F.params.length rc⟩ bf ((edgeM F)) stp0 false * stepsA F ⟨.slice ca F.chars.length cc, .slice sa F.steps.length sc, .slice ka F.kerns.length kc, .slice pa F.pieces.length pc, .slice ra F.params.length rc⟩ w bp (bp + 1) m by unfold stepsA; ac_rfl))).comm)
    clear h7 hW2 hbp HS1
    refine wp_of_range (wp_rangeF (β := Nat) (gf := 41) (lb := #[.pointer (some ⟨bp, 0, none⟩), .pointer (some ⟨bp + 1, 0, none⟩)]) rfl (enters_of Try.func41 (by kernel_rfl) rfl)
      (HST.out bp (bp + 1)) (fun _ => rfl) (findI F ⟨.slice ca F.chars.length cc, .slice sa F.steps.length sc, .slice ka F.kerns.length kc, .slice pa F.pieces.length pc, .slice ra F.params.length rc⟩ bf ((edgeM F)))
      (fun pre z b => pts b z.boxv * findI F ⟨.slice ca F.chars.length cc, .slice sa F.steps.length sc, .slice ka F.kerns.length kc, .slice pa F.pieces.length pc, .slice ra F.params.length rc⟩ bf ((edgeM F)) pre)
      (findX F ⟨.slice ca F.chars.length cc, .slice sa F.steps.length sc, .slice ka F.kerns.length kc, .slice pa F.pieces.length pc, .slice ra F.params.length rc⟩ bf ((edgeM F))) H7.out (fun _ b t => t.setIfInBounds 8 (.pointer (some ⟨b, 0, none⟩))) ?assign ?body ?done ?stop)
    case assign =>
      rintro l pre ⟨s1, s2, s3, s4⟩ t R w1 - hs
      have HS := Lib.hid (hs.alloc (Stp.boxv ⟨s1, s2, s3, s4⟩))
      clear hs H7
      gi_wp2
      refine ⟨w1.heap.size, ?_, HS.out.of_eq (by ac_rfl)⟩
      go_simp
    case body =>
      rintro l pre ⟨s1, s2, s3, s4⟩ t b R w1 hxs hs
      unfold findI at hs
      have h8 := hs.of_eq (show _ = fact (∀ s ∈ pre, ¬ ((s.next.toNat : Int) = (edgeM F))) (findG F ⟨.slice ca F.chars.length cc, .slice sa F.steps.length sc, .slice ka F.kerns.length kc, .slice pa F.pieces.length pc, .slice ra F.params.length rc⟩ bf ((edgeM F)) stp0 false) * (pts b (Stp.boxv ⟨s1, s2, s3, s4⟩) * (R * stepsA F ⟨.slice ca F.chars.length cc, .slice sa F.steps.length sc, .slice ka F.kerns.length kc, .slice pa F.pieces.length pc, .slice ra F.params.length rc⟩ w bp (bp + 1) m)) by ac_rfl)
      obtain ⟨hpre, h9⟩ := h8.fact_l
      have HPRE := Lib.hid hpre
      have HS1 := Lib.hid h9
      have c0 := h9.r.cell (i := 0) rfl
      have c1 := h9.r.cell (i := 1) rfl
      have c2 := h9.r.cell (i := 2) rfl
      have c3 := h9.r.cell (i := 3) rfl
      have lc := h9.r.lt
      obtain ⟨hbp, d0, e0, e1, e2, e3, e4, le, f0, f1, f2, f3, f4⟩ := find_end _ HS1.out
      have HB := Lib.hid hbp
      have le1 : bf + 1 + 1 < _ := Nat.lt_of_succ_lt le
      have le0 : bf + 1 < _ := Nat.lt_of_succ_lt le1
      clear hbp
      have b0 := HB.out.c0
      have b1 := HB.out.c1
      have b2 := HB.out.c2
      have b3 := HB.out.c3
      have b4 := HB.out.c4
      have b5 := HB.out.c5
      have b6 := HB.out.c6
      have b7 := HB.out.c7
      have b8 := HB.out.c8
      have lq := HB.out.lt
      clear HB
      clear hs h8 h9 hpre H7 hxs
      have hb2 := u8i s2
      by_cases hn : (s2.toNat : Int) = (edgeM F)
      · have HN := Lib.hid hn
        have hn2 : ((s2.toNat : Int) == (edgeM F)) = true := by simp [hn]
        have hn3 : (((edgeM F) : Int) == (edgeM F)) = true := by simp
        clear hn
        gi_wp2
        have G := Lib.hid (find_set _ HS1.out ⟨s1, s2, s3, s4⟩ true)
        show Sat w ((R * stepsA F ⟨.slice ca F.chars.length cc, .slice sa F.steps.length sc, .slice ka F.kerns.length kc, .slice pa F.pieces.length pc, .slice ra F.params.length rc⟩ w bp (bp + 1) m) * findX F ⟨.slice ca F.chars.length cc, .slice sa F.steps.length sc, .slice ka F.kerns.length kc, .slice pa F.pieces.length pc, .slice ra F.params.length rc⟩ bf ((edgeM F)) Code.ret (pre ++ [(⟨s1, s2, s3, s4⟩ : Stp)])) _
        refine Sat.comm (Sat.ex_l_intro (P := fun s => fact (Code.ret = Code.ret ∧ (pre ++ [(⟨s1, s2, s3, s4⟩ : Stp)]).find? (fun s => decide ((s.next.toNat : Int) = (edgeM F))) = some s) (findG F ⟨.slice ca F.chars.length cc, .slice sa F.steps.length sc, .slice ka F.kerns.length kc, .slice pa F.pieces.length pc, .slice ra F.params.length rc⟩ bf ((edgeM F)) s true)) ⟨s1, s2, s3, s4⟩ (Sat.fact_l_intro ⟨rfl, ?_⟩ ((G.out.of_eq (show _ = pts b (Stp.boxv ⟨s1, s2, s3, s4⟩) * (findG F ⟨.slice ca F.chars.length cc, .slice sa F.steps.length sc, .slice ka F.kerns.length kc, .slice pa F.pieces.length pc, .slice ra F.params.length rc⟩ bf ((edgeM F)) ⟨s1, s2, s3, s4⟩ true * (R * stepsA F ⟨.slice ca F.chars.length cc, .slice sa F.steps.length sc, .slice ka F.kerns.length kc, .slice pa F.pieces.length pc, .slice ra F.params.length rc⟩ w bp (bp + 1) m)) by ac_rfl)).r)))
        rw [List.find?_append, List.find?_eq_none.2 (fun s hs => by simpa using HPRE.out s hs)]
        simp [HN.out]
      · have hn2 : ((s2.toNat : Int) == (edgeM F)) = false := beq_eq_false_iff_ne.2 hn
        have HN := Lib.hid hn
        clear hn
        gi_wp2
        show Sat w ((R * stepsA F ⟨.slice ca F.chars.length cc, .slice sa F.steps.length sc, .slice ka F.kerns.length kc, .slice pa F.pieces.length pc, .slice ra F.params.length rc⟩ w bp (bp + 1) m) * fact (∀ s ∈ pre ++ [(⟨s1, s2, s3, s4⟩ : Stp)], ¬ ((s.next.toNat : Int) = (edgeM F))) (findG F ⟨.slice ca F.chars.length cc, .slice sa F.steps.length sc, .slice ka F.kerns.length kc, .slice pa F.pieces.length pc, .slice ra F.params.length rc⟩ bf ((edgeM F)) stp0 false)) w1
        refine Sat.comm (Sat.fact_l_intro ?_ (HS1.out.of_eq (show _ = pts b (Stp.boxv ⟨s1, s2, s3, s4⟩) * (findG F ⟨.slice ca F.chars.length cc, .slice sa F.steps.length sc, .slice ka F.kerns.length kc, .slice pa F.pieces.length pc, .slice ra F.params.length rc⟩ bf ((edgeM F)) stp0 false * (R * stepsA F ⟨.slice ca F.chars.length cc, .slice sa F.steps.length sc, .slice ka F.kerns.length kc, .slice pa F.pieces.length pc, .slice ra F.params.length rc⟩ w bp (bp + 1) m)) by ac_rfl)).r)
        intro s hs
        rw [List.mem_append, List.mem_singleton] at hs
        rcases hs with hs | rfl
        · exact HPRE.out s hs
        · exact HN.out
    case done =>
      intro D w7 hs
      unfold findI at hs
      have h8 := hs.of_eq (show _ = fact (∀ s ∈ stepsM F m, ¬ ((s.next.toNat : Int) = (edgeM F))) (findG F ⟨.slice ca F.chars.length cc, .slice sa F.steps.length sc, .slice ka F.kerns.length kc, .slice pa F.pieces.length pc, .slice ra F.params.length rc⟩ bf ((edgeM F)) stp0 false) * (pts D (.deferred (some [])) * stepsA F ⟨.slice ca F.chars.length cc, .slice sa F.steps.length sc, .slice ka F.kerns.length kc, .slice pa F.pieces.length pc, .slice ra F.params.length rc⟩ w bp (bp + 1) m) by ac_rfl)
      obtain ⟨hpre, h9⟩ := h8.fact_l
      have hr := HR.out
      rw [List.find?_eq_none.2 (fun s hs => by simpa using hpre s hs)] at hr
      subst hr
      have HS1 := Lib.hid h9
      obtain ⟨hbp, d0, e0, e1, e2, e3, e4, le, f0, f1, f2, f3, f4⟩ := find_end _ HS1.out
      have HB := Lib.hid hbp
      have le1 : bf + 1 + 1 < _ := Nat.lt_of_succ_lt le
      have le0 : bf + 1 < _ := Nat.lt_of_succ_lt le1
      clear hbp
      have b0 := HB.out.c0
      have b1 := HB.out.c1
      have b2 := HB.out.c2
      have b3 := HB.out.c3
      have b4 := HB.out.c4
      have b5 := HB.out.c5
      have b6 := HB.out.c6
      have b7 := HB.out.c7
      have b8 := HB.out.c8
      have lq := HB.out.lt
      clear HB
      clear hs h8 h9 hpre H7
      go_wp2
      have G := find_set _ HS1.out stp0 false
      simp only [stp0, show ((UInt8.toNat 0 : Nat) : Int) = 0 from rfl] at G
      refine post_mark2 (v := .tuple #[.agg #[.int .u8 0, .int .u8 0, .int .u8 0, .int .u8 0], .bool false]) rfl (G.of_eq (show _ = pts D (.deferred (some [])) * (findG F ⟨.slice ca F.chars.length cc, .slice sa F.steps.length sc, .slice ka F.kerns.length kc, .slice pa F.pieces.length pc, .slice ra F.params.length rc⟩ bf ((edgeM F)) ⟨0, 0, 0, 0⟩ false * stepsA F ⟨.slice ca F.chars.length cc, .slice sa F.steps.length sc, .slice ka F.kerns.length kc, .slice pa F.pieces.length pc, .slice ra F.params.length rc⟩ w bp (bp + 1) m) by ac_rfl)) ?_
      intro w8 h8
      have G := Lib.hid h8
      clear d0 e0 e1 e2 e3 e4 le le1 le0 f0 f1 f2 f3 f4 b0 b1 b2 b3 b4 b5 b6 b7 b8 lq
      obtain ⟨-, -, e0, e1, e2, e3, e4, -, -⟩ := find_end _ h8
      simp only [show ((UInt8.toNat 0 : Nat) : Int) = 0 from rfl] at e0 e1 e2 e3
      clear h8 HS1
      exact ⟨by unfold results; go_simp, rfl, by have h9 := G.out; unfold stepsA at h9; exact (h9.of_eq (show _ = own w * (findG F ⟨.slice ca F.chars.length cc, .slice sa F.steps.length sc, .slice ka F.kerns.length kc, .slice pa F.pieces.length pc, .slice ra F.params.length rc⟩ bf ((edgeM F)) ⟨0, 0, 0, 0⟩ false * (pts bp (F.pbox ⟨.slice ca F.chars.length cc, .slice sa F.steps.length sc, .slice ka F.kerns.length kc, .slice pa F.pieces.length pc, .slice ra F.params.length rc⟩) * pts (bp + 1) (intO m))) by ac_rfl)).l.toExt⟩
    case stop =>
      rintro D c pre z t w7 hxs hs
      unfold findX at hs
      have h8 := Sat.ex_l (hs.of_eq (show _ = (ex fun s => fact (c = Code.ret ∧ (pre ++ [z]).find? (fun s => decide ((s.next.toNat : Int) = (edgeM F))) = some s) (findG F ⟨.slice ca F.chars.length cc, .slice sa F.steps.length sc, .slice ka F.kerns.length kc, .slice pa F.pieces.length pc, .slice ra F.params.length rc⟩ bf ((edgeM F)) s true)) * (pts D (.deferred (some [])) * stepsA F ⟨.slice ca F.chars.length cc, .slice sa F.steps.length sc, .slice ka F.kerns.length kc, .slice pa F.pieces.length pc, .slice ra F.params.length rc⟩ w bp (bp + 1) m) by generalize (ex fun s => fact (c = Code.ret ∧ (pre ++ [z]).find? (fun s => decide ((s.next.toNat : Int) = (edgeM F))) = some s) (findG F ⟨.slice ca F.chars.length cc, .slice sa F.steps.length sc, .slice ka F.kerns.length kc, .slice pa F.pieces.length pc, .slice ra F.params.length rc⟩ bf ((edgeM F)) s true)) = EE; ac_rfl))
      obtain ⟨s, h8⟩ := h8
      obtain ⟨⟨rfl, hfs⟩, h9⟩ := h8.fact_l
      have hr := HR.out
      rw [hxs, show pre ++ z :: t = (pre ++ [z]) ++ t by simp, List.find?_append, hfs] at hr
      simp only [Option.some_or] at hr
      subst hr
      clear hs h8 hfs hxs H7
      refine wpIn_ret ?_
      simp only [Exit.inBlock, Exit.then]
      refine post_mark2 (v := .tuple #[s.val, .bool true]) rfl (h9.of_eq (show _ = pts D (.deferred (some [])) * (findG F ⟨.slice ca F.chars.length cc, .slice sa F.steps.length sc, .slice ka F.kerns.length kc, .slice pa F.pieces.length pc, .slice ra F.params.length rc⟩ bf ((edgeM F)) s true * stepsA F ⟨.slice ca F.chars.length cc, .slice sa F.steps.length sc, .slice ka F.kerns.length kc, .slice pa F.pieces.length pc, .slice ra F.params.length rc⟩ w bp (bp + 1) m) by ac_rfl)) ?_
      intro w8 h8
      have G := Lib.hid h8
      obtain ⟨-, -, e0, e1, e2, e3, e4, -, -⟩ := find_end _ h8
      clear h8 h9
      exact ⟨by unfold results; go_simp, rfl, by have h9 := G.out; unfold stepsA at h9; exact (h9.of_eq (show _ = own w * (findG F ⟨.slice ca F.chars.length cc, .slice sa F.steps.length sc, .slice ka F.kerns.length kc, .slice pa F.pieces.length pc, .slice ra F.params.length rc⟩ bf ((edgeM F)) s true * (pts bp (F.pbox ⟨.slice ca F.chars.length cc, .slice sa F.steps.length sc, .slice ka F.kerns.length kc, .slice pa F.pieces.length pc, .slice ra F.params.length rc⟩) * pts (bp + 1) (intO m))) by ac_rfl)).l.toExt⟩
  · obtain ⟨y2, hy2⟩ : ∃ y2, (if y = 256 then edgeM F else y) = y2 := ⟨_, rfl⟩
    have hy3 : y2 = y := by rw [← hy2, if_neg hy]
    have HS := (((Sat.start w).alloc (F.pbox x)).alloc (intO y2)).alloc (stp0.boxv)
    have HSS := HS.alloc (boolO false)
    clear HS
    obtain ⟨W1, hW1⟩ : ∃ W1, ((((w.alloc (F.pbox x)).alloc (intO y2)).alloc stp0.boxv).alloc (boolO false)) = W1 := ⟨_, rfl⟩
    obtain ⟨bf, hbf⟩ : ∃ bf, w.heap.size = bf := ⟨_, rfl⟩
    simp only [World.size_alloc] at HSS
    rw [hW1, hbf] at HSS
    have hs1 := HSS.of_eq (show _ = findG F x bf y2 stp0 false * own w by unfold findG; ac_rfl)
    have HS1 := Lib.hid hs1
    have hst := fun bp bm => steps_seq h hk hm bp bm
    have HST := Lib.hid hst
    have HF := Lib.hid h
    obtain ⟨ca, cc, sa, sc, ka, kc, pa, pc, ra, rc, rfl, -⟩ := h.vals
    obtain ⟨r, hr⟩ : ∃ r, findM F m y = r := ⟨_, rfl⟩
    rw [hr]
    unfold findM at hr
    rw [hy2] at hr
    simp only at hr
    simp only [Fnt.pbox, intO, Stp.boxv, stp0, boolO, show ((UInt8.toNat 0 : Nat) : Int) = 0 from rfl] at hW1
    have HR := Lib.hid hr
    have HW1 := Lib.hid hW1
    have HBF := Lib.hid hbf
    clear hr hW1 hbf HSS hs1 hst h
    clear hy2
    subst hy3
    refine calls_of_wp_range Try.func17 rfl ?_
    simp only [Try.ntmps17, List.size_toArray, List.length_cons, List.length_nil, Nat.reduceAdd, Nat.reduceSub, Array.replicate_succ, Array.replicate_zero, List.push_toArray, List.append_toArray, List.nil_append, List.cons_append]
    go_upto_region 3 with fail
    rw [HBF.out, HW1.out]
    clear HBF HW1
    obtain ⟨hbp, d0, e0, e1, e2, e3, e4, le, f0, f1, f2, f3, f4⟩ := find_end _ HS1.out
    have HB := Lib.hid hbp
    have le1 : bf + 1 + 1 < _ := Nat.lt_of_succ_lt le
    have le0 : bf + 1 < _ := Nat.lt_of_succ_lt le1
    clear hbp
    have b0 := HB.out.c0
    have b1 := HB.out.c1
    have b2 := HB.out.c2
    have b3 := HB.out.c3
    have b4 := HB.out.c4
    have b5 := HB.out.c5
    have b6 := HB.out.c6
    have b7 := HB.out.c7
    have b8 := HB.out.c8
    have lq := HB.out.lt
    clear HB
    by_cases n1 : y2 < 0
    · have hr := HR.out
      rw [if_pos (.inl n1)] at hr
      subst hr
      go_wp2
      have G := Lib.hid (find_set _ HS1.out stp0 false)
      clear d0 e0 e1 e2 e3 e4 le le1 le0 f0 f1 f2 f3 f4 b0 b1 b2 b3 b4 b5 b6 b7 b8 lq
      obtain ⟨-, -, e0, e1, e2, e3, e4, -, -⟩ := find_end _ G.out
      simp only [stp0, show ((UInt8.toNat 0 : Nat) : Int) = 0 from rfl] at e0 e1 e2 e3 e4 G
      refine post_ret (v := .tuple #[.agg #[.int .u8 0, .int .u8 0, .int .u8 0, .int .u8 0], .bool false]) rfl (by unfold results; go_simp) ⟨rfl, G.out.r.toExt⟩
    by_cases n2 : m = 256
    · have hr := HR.out
      rw [if_pos (.inr n2)] at hr
      subst hr
      go_wp2
      have G := Lib.hid (find_set _ HS1.out stp0 false)
      clear d0 e0 e1 e2 e3 e4 le le1 le0 f0 f1 f2 f3 f4 b0 b1 b2 b3 b4 b5 b6 b7 b8 lq
      obtain ⟨-, -, e0, e1, e2, e3, e4, -, -⟩ := find_end _ G.out
      simp only [stp0, show ((UInt8.toNat 0 : Nat) : Int) = 0 from rfl] at e0 e1 e2 e3 e4 G
      refine post_ret (v := .tuple #[.agg #[.int .u8 0, .int .u8 0, .int .u8 0, .int .u8 0], .bool false]) rfl (by unfold results; go_simp) ⟨rfl, G.out.r.toExt⟩
    have hr := HR.out
    rw [if_neg (fun h => h.elim n1 n2)] at hr
    clear HR
    have HR := Lib.hid hr
    clear hr
    have HP := Lib.hid (steps_any (F := F) (x := ⟨.slice ca F.chars.length cc, .slice sa F.steps.length sc, .slice ka F.kerns.length kc, .slice pa F.pieces.length pc, .slice ra F.params.length rc⟩) m W1)
    go_wp2_with fail
    with_reducible refine Calls.mono HP.out ?_
    rintro e w2 ⟨rfl, rfl⟩
    clear d0 e0 e1 e2 e3 e4 le le1 le0 f0 f1 f2 f3 f4 b0 b1 b2 b3 b4 b5 b6 b7 b8 lq
    clear HP
    go_wp2
    obtain ⟨bp, hbp⟩ : ∃ bp, W1.heap.size = bp := ⟨_, rfl⟩
    have h7 := (HS1.out.alloc (F.pbox ⟨.slice ca F.chars.length cc, .slice sa F.steps.length sc, .slice ka F.kerns.length kc, .slice pa F.pieces.length pc, .slice ra F.params.length rc⟩)).alloc (intO m)
    rw [World.size_alloc] at h7
    obtain ⟨W2, hW2⟩ : ∃ W2, (W1.alloc (F.pbox ⟨.slice ca F.chars.length cc, .slice sa F.steps.length sc, .slice ka F.kerns.length kc, .slice pa F.pieces.length pc, .slice ra F.params.length rc⟩)).alloc (intO m) = W2 := ⟨_, rfl⟩
    rw [hW2, hbp] at h7
    rw [show (W1.alloc (F.pbox ⟨.slice ca F.chars.length cc, .slice sa F.steps.length sc, .slice ka F.kerns.length kc, .slice pa F.pieces.length pc, .slice ra F.params.length rc⟩)).alloc (.cells #[.int .i64 m] 3) = W2 from hW2, hbp]
    have H7 := Lib.hid (show Sat w (stepsA F ⟨.slice ca F.chars.length cc, .slice sa F.steps.length sc, .slice ka F.kerns.length kc, .slice pa F.pieces.length pc, .slice ra F.params.length rc⟩ w bp (bp + 1) m * fact (∀ s ∈ ([] : List Stp), ¬ ((s.next.toNat : Int) = y2)) (findG F ⟨.slice ca F.chars.length cc, .slice sa F.steps.length sc, .slice ka F.kerns.length kc, .slice pa F.pieces.length pc, .slice ra F.params.length rc⟩ bf (y2) stp0 false)) W2 from (Sat.fact_l_intro (by simp) (h7.of_eq (show _ = findG F ⟨.slice ca F.chars.length cc, .slice sa F.steps.length sc, .slice ka F.kerns.length kc, .slice pa F.pieces.length pc, .slice ra F.params.length rc⟩ bf (y2) stp0 false * stepsA F ⟨.slice ca F.chars.length cc, .slice sa F.steps.length sc, .slice ka F.kerns.length kc, .slice pa F.pieces.length pc, .slice ra F.params.length rc⟩ w bp (bp + 1) m by unfold stepsA; ac_rfl))).comm)
    clear h7 hW2 hbp HS1
    refine wp_of_range (wp_rangeF (β := Nat) (gf := 41) (lb := #[.pointer (some ⟨bp, 0, none⟩), .pointer (some ⟨bp + 1, 0, none⟩)]) rfl (enters_of Try.func41 (by kernel_rfl) rfl)
      (HST.out bp (bp + 1)) (fun _ => rfl) (findI F ⟨.slice ca F.chars.length cc, .slice sa F.steps.length sc, .slice ka F.kerns.length kc, .slice pa F.pieces.length pc, .slice ra F.params.length rc⟩ bf (y2))
      (fun pre z b => pts b z.boxv * findI F ⟨.slice ca F.chars.length cc, .slice sa F.steps.length sc, .slice ka F.kerns.length kc, .slice pa F.pieces.length pc, .slice ra F.params.length rc⟩ bf (y2) pre)
      (findX F ⟨.slice ca F.chars.length cc, .slice sa F.steps.length sc, .slice ka F.kerns.length kc, .slice pa F.pieces.length pc, .slice ra F.params.length rc⟩ bf (y2)) H7.out (fun _ b t => t.setIfInBounds 8 (.pointer (some ⟨b, 0, none⟩))) ?assign ?body ?done ?stop)
    case assign =>
      rintro l pre ⟨s1, s2, s3, s4⟩ t R w1 - hs
      have HS := Lib.hid (hs.alloc (Stp.boxv ⟨s1, s2, s3, s4⟩))
      clear hs H7
      gi_wp2
      refine ⟨w1.heap.size, ?_, HS.out.of_eq (by ac_rfl)⟩
      go_simp
    case body =>
      rintro l pre ⟨s1, s2, s3, s4⟩ t b R w1 hxs hs
      unfold findI at hs
      have h8 := hs.of_eq (show _ = fact (∀ s ∈ pre, ¬ ((s.next.toNat : Int) = y2)) (findG F ⟨.slice ca F.chars.length cc, .slice sa F.steps.length sc, .slice ka F.kerns.length kc, .slice pa F.pieces.length pc, .slice ra F.params.length rc⟩ bf (y2) stp0 false) * (pts b (Stp.boxv ⟨s1, s2, s3, s4⟩) * (R * stepsA F ⟨.slice ca F.chars.length cc, .slice sa F.steps.length sc, .slice ka F.kerns.length kc, .slice pa F.pieces.length pc, .slice ra F.params.length rc⟩ w bp (bp + 1) m)) by ac_rfl)
      obtain ⟨hpre, h9⟩ := h8.fact_l
      have HPRE := Lib.hid hpre
      have HS1 := Lib.hid h9
      have c0 := h9.r.cell (i := 0) rfl
      have c1 := h9.r.cell (i := 1) rfl
      have c2 := h9.r.cell (i := 2) rfl
      have c3 := h9.r.cell (i := 3) rfl
      have lc := h9.r.lt
      obtain ⟨hbp, d0, e0, e1, e2, e3, e4, le, f0, f1, f2, f3, f4⟩ := find_end _ HS1.out
      have HB := Lib.hid hbp
      have le1 : bf + 1 + 1 < _ := Nat.lt_of_succ_lt le
      have le0 : bf + 1 < _ := Nat.lt_of_succ_lt le1
      clear hbp
      have b0 := HB.out.c0
      have b1 := HB.out.c1
      have b2 := HB.out.c2
      have b3 := HB.out.c3
      have b4 := HB.out.c4
      have b5 := HB.out.c5
      have b6 := HB.out.c6
      have b7 := HB.out.c7
      have b8 := HB.out.c8
      have lq := HB.out.lt
      clear HB
      clear hs h8 h9 hpre H7 hxs
      have hb2 := u8i s2
      by_cases hn : (s2.toNat : Int) = y2
      · have HN := Lib.hid hn
        have hn2 : ((s2.toNat : Int) == y2) = true := by simp [hn]
        have hn3 : ((y2 : Int) == y2) = true := by simp
        clear hn
        gi_wp2
        have G := Lib.hid (find_set _ HS1.out ⟨s1, s2, s3, s4⟩ true)
        show Sat w ((R * stepsA F ⟨.slice ca F.chars.length cc, .slice sa F.steps.length sc, .slice ka F.kerns.length kc, .slice pa F.pieces.length pc, .slice ra F.params.length rc⟩ w bp (bp + 1) m) * findX F ⟨.slice ca F.chars.length cc, .slice sa F.steps.length sc, .slice ka F.kerns.length kc, .slice pa F.pieces.length pc, .slice ra F.params.length rc⟩ bf (y2) Code.ret (pre ++ [(⟨s1, s2, s3, s4⟩ : Stp)])) _
        refine Sat.comm (Sat.ex_l_intro (P := fun s => fact (Code.ret = Code.ret ∧ (pre ++ [(⟨s1, s2, s3, s4⟩ : Stp)]).find? (fun s => decide ((s.next.toNat : Int) = y2)) = some s) (findG F ⟨.slice ca F.chars.length cc, .slice sa F.steps.length sc, .slice ka F.kerns.length kc, .slice pa F.pieces.length pc, .slice ra F.params.length rc⟩ bf (y2) s true)) ⟨s1, s2, s3, s4⟩ (Sat.fact_l_intro ⟨rfl, ?_⟩ ((G.out.of_eq (show _ = pts b (Stp.boxv ⟨s1, s2, s3, s4⟩) * (findG F ⟨.slice ca F.chars.length cc, .slice sa F.steps.length sc, .slice ka F.kerns.length kc, .slice pa F.pieces.length pc, .slice ra F.params.length rc⟩ bf (y2) ⟨s1, s2, s3, s4⟩ true * (R * stepsA F ⟨.slice ca F.chars.length cc, .slice sa F.steps.length sc, .slice ka F.kerns.length kc, .slice pa F.pieces.length pc, .slice ra F.params.length rc⟩ w bp (bp + 1) m)) by ac_rfl)).r)))
        rw [List.find?_append, List.find?_eq_none.2 (fun s hs => by simpa using HPRE.out s hs)]
        simp [HN.out]
      · have hn2 : ((s2.toNat : Int) == y2) = false := beq_eq_false_iff_ne.2 hn
        have HN := Lib.hid hn
        clear hn
        gi_wp2
        show Sat w ((R * stepsA F ⟨.slice ca F.chars.length cc, .slice sa F.steps.length sc, .slice ka F.kerns.length kc, .slice pa F.pieces.length pc, .slice ra F.params.length rc⟩ w bp (bp + 1) m) * fact (∀ s ∈ pre ++ [(⟨s1, s2, s3, s4⟩ : Stp)], ¬ ((s.next.toNat : Int) = y2)) (findG F ⟨.slice ca F.chars.length cc, .slice sa F.steps.length sc, .slice ka F.kerns.length kc, .slice pa F.pieces.length pc, .slice ra F.params.length rc⟩ bf (y2) stp0 false)) w1
        refine Sat.comm (Sat.fact_l_intro ?_ (HS1.out.of_eq (show _ = pts b (Stp.boxv ⟨s1, s2, s3, s4⟩) * (findG F ⟨.slice ca F.chars.length cc, .slice sa F.steps.length sc, .slice ka F.kerns.length kc, .slice pa F.pieces.length pc, .slice ra F.params.length rc⟩ bf (y2) stp0 false * (R * stepsA F ⟨.slice ca F.chars.length cc, .slice sa F.steps.length sc, .slice ka F.kerns.length kc, .slice pa F.pieces.length pc, .slice ra F.params.length rc⟩ w bp (bp + 1) m)) by ac_rfl)).r)
        intro s hs
        rw [List.mem_append, List.mem_singleton] at hs
        rcases hs with hs | rfl
        · exact HPRE.out s hs
        · exact HN.out
    case done =>
      intro D w7 hs
      unfold findI at hs
      have h8 := hs.of_eq (show _ = fact (∀ s ∈ stepsM F m, ¬ ((s.next.toNat : Int) = y2)) (findG F ⟨.slice ca F.chars.length cc, .slice sa F.steps.length sc, .slice ka F.kerns.length kc, .slice pa F.pieces.length pc, .slice ra F.params.length rc⟩ bf (y2) stp0 false) * (pts D (.deferred (some [])) * stepsA F ⟨.slice ca F.chars.length cc, .slice sa F.steps.length sc, .slice ka F.kerns.length kc, .slice pa F.pieces.length pc, .slice ra F.params.length rc⟩ w bp (bp + 1) m) by ac_rfl)
      obtain ⟨hpre, h9⟩ := h8.fact_l
      have hr := HR.out
      rw [List.find?_eq_none.2 (fun s hs => by simpa using hpre s hs)] at hr
      subst hr
      have HS1 := Lib.hid h9
      obtain ⟨hbp, d0, e0, e1, e2, e3, e4, le, f0, f1, f2, f3, f4⟩ := find_end _ HS1.out
      have HB := Lib.hid hbp
      have le1 : bf + 1 + 1 < _ := Nat.lt_of_succ_lt le
      have le0 : bf + 1 < _ := Nat.lt_of_succ_lt le1
      clear hbp
      have b0 := HB.out.c0
      have b1 := HB.out.c1
      have b2 := HB.out.c2
      have b3 := HB.out.c3
      have b4 := HB.out.c4
      have b5 := HB.out.c5
      have b6 := HB.out.c6
      have b7 := HB.out.c7
      have b8 := HB.out.c8
      have lq := HB.out.lt
      clear HB
      clear hs h8 h9 hpre H7
      go_wp2
      have G := find_set _ HS1.out stp0 false
      simp only [stp0, show ((UInt8.toNat 0 : Nat) : Int) = 0 from rfl] at G
      refine post_mark2 (v := .tuple #[.agg #[.int .u8 0, .int .u8 0, .int .u8 0, .int .u8 0], .bool false]) rfl (G.of_eq (show _ = pts D (.deferred (some [])) * (findG F ⟨.slice ca F.chars.length cc, .slice sa F.steps.length sc, .slice ka F.kerns.length kc, .slice pa F.pieces.length pc, .slice ra F.params.length rc⟩ bf (y2) ⟨0, 0, 0, 0⟩ false * stepsA F ⟨.slice ca F.chars.length cc, .slice sa F.steps.length sc, .slice ka F.kerns.length kc, .slice pa F.pieces.length pc, .slice ra F.params.length rc⟩ w bp (bp + 1) m) by ac_rfl)) ?_
      intro w8 h8
      have G := Lib.hid h8
      clear d0 e0 e1 e2 e3 e4 le le1 le0 f0 f1 f2 f3 f4 b0 b1 b2 b3 b4 b5 b6 b7 b8 lq
      obtain ⟨-, -, e0, e1, e2, e3, e4, -, -⟩ := find_end _ h8
      simp only [show ((UInt8.toNat 0 : Nat) : Int) = 0 from rfl] at e0 e1 e2 e3
      clear h8 HS1
      exact ⟨by unfold results; go_simp, rfl, by have h9 := G.out; unfold stepsA at h9; exact (h9.of_eq (show _ = own w * (findG F ⟨.slice ca F.chars.length cc, .slice sa F.steps.length sc, .slice ka F.kerns.length kc, .slice pa F.pieces.length pc, .slice ra F.params.length rc⟩ bf (y2) ⟨0, 0, 0, 0⟩ false * (pts bp (F.pbox ⟨.slice ca F.chars.length cc, .slice sa F.steps.length sc, .slice ka F.kerns.length kc, .slice pa F.pieces.length pc, .slice ra F.params.length rc⟩) * pts (bp + 1) (intO m))) by ac_rfl)).l.toExt⟩
    case stop =>
      rintro D c pre z t w7 hxs hs
      unfold findX at hs
      have h8 := Sat.ex_l (hs.of_eq (show _ = (ex fun s => fact (c = Code.ret ∧ (pre ++ [z]).find? (fun s => decide ((s.next.toNat : Int) = y2)) = some s) (findG F ⟨.slice ca F.chars.length cc, .slice sa F.steps.length sc, .slice ka F.kerns.length kc, .slice pa F.pieces.length pc, .slice ra F.params.length rc⟩ bf (y2) s true)) * (pts D (.deferred (some [])) * stepsA F ⟨.slice ca F.chars.length cc, .slice sa F.steps.length sc, .slice ka F.kerns.length kc, .slice pa F.pieces.length pc, .slice ra F.params.length rc⟩ w bp (bp + 1) m) by generalize (ex fun s => fact (c = Code.ret ∧ (pre ++ [z]).find? (fun s => decide ((s.next.toNat : Int) = y2)) = some s) (findG F ⟨.slice ca F.chars.length cc, .slice sa F.steps.length sc, .slice ka F.kerns.length kc, .slice pa F.pieces.length pc, .slice ra F.params.length rc⟩ bf (y2) s true)) = EE; ac_rfl))
      obtain ⟨s, h8⟩ := h8
      obtain ⟨⟨rfl, hfs⟩, h9⟩ := h8.fact_l
      have hr := HR.out
      rw [hxs, show pre ++ z :: t = (pre ++ [z]) ++ t by simp, List.find?_append, hfs] at hr
      simp only [Option.some_or] at hr
      subst hr
      clear hs h8 hfs hxs H7
      refine wpIn_ret ?_
      simp only [Exit.inBlock, Exit.then]
      refine post_mark2 (v := .tuple #[s.val, .bool true]) rfl (h9.of_eq (show _ = pts D (.deferred (some [])) * (findG F ⟨.slice ca F.chars.length cc, .slice sa F.steps.length sc, .slice ka F.kerns.length kc, .slice pa F.pieces.length pc, .slice ra F.params.length rc⟩ bf (y2) s true * stepsA F ⟨.slice ca F.chars.length cc, .slice sa F.steps.length sc, .slice ka F.kerns.length kc, .slice pa F.pieces.length pc, .slice ra F.params.length rc⟩ w bp (bp + 1) m) by ac_rfl)) ?_
      intro w8 h8
      have G := Lib.hid h8
      obtain ⟨-, -, e0, e1, e2, e3, e4, -, -⟩ := find_end _ h8
      clear h8 h9
      exact ⟨by unfold results; go_simp, rfl, by have h9 := G.out; unfold stepsA at h9; exact (h9.of_eq (show _ = own w * (findG F ⟨.slice ca F.chars.length cc, .slice sa F.steps.length sc, .slice ka F.kerns.length kc, .slice pa F.pieces.length pc, .slice ra F.params.length rc⟩ bf (y2) s true * (pts bp (F.pbox ⟨.slice ca F.chars.length cc, .slice sa F.steps.length sc, .slice ka F.kerns.length kc, .slice pa F.pieces.length pc, .slice ra F.params.length rc⟩) * pts (bp + 1) (intO m))) by ac_rfl)).l.toExt⟩
end Go.Proofs.Ytigjfbbgbiajbaa
