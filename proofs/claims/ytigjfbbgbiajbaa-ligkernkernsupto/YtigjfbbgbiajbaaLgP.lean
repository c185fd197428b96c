/-
  What stands in the row at the end, told. Conditions: those that each theorem names.
-/
import Derived.Test.YtigjfbbgbiajbaaLgO
namespace Go.Proofs.Ytigjfbbgbiajbaa
open Go.RowKit Go.Sp
variable {w W : World} {x : FV} {F : Fnt} {A : HProp}

structure Pc where
  (kind char n size : Int)
  deriving DecidableEq
def Pc.cells (p : Pc) : List Value := [.int .i64 p.kind, .int .u8 p.char, .int .i64 p.n, .int .i64 p.size]
abbrev Pc.val (p : Pc) : Value := .agg #[.int .i64 p.kind, .int .u8 p.char, .int .i64 p.n, .int .i64 p.size]
theorem pc_len (x : Pc) : x.cells.length = 4 := rfl
theorem pc_one : ∀ (x : Pc), ∀ u ∈ x.cells, u.oneCell' = true := by
  intro x u hu
  simp only [Pc.cells, List.mem_cons, List.not_mem_nil, or_false] at hu
  rcases hu with rfl | rfl | rfl | rfl <;> rfl
def rowP (v : Value) (L : List Pc) : HProp := row v L.length 43 4 (L.flatMap Pc.cells)
theorem info_pc : (Try.prog.info? 43).map (fun i => (i.zero, i.size, i.bytes)) = some (some (.agg #[.int .i64 0, .int .u8 0, .int .i64 0, .int .i64 0]), 4, 32) := by kernel_rfl
theorem rowP_snoc {u : Value} {L : List Pc} {y : Pc} {n : Nat} (h : Sat W (row u n 43 4 (L.flatMap Pc.cells ++ y.cells) * A) w) (hn : n = L.length + 1) : Sat W (rowP u (L ++ [y]) * A) w := by
  unfold rowP
  rw [List.flatMap_append, List.length_append, List.length_singleton, ← hn, show List.flatMap Pc.cells [y] = y.cells by simp]
  exact h
theorem rowP_rd {v : Value} {L : List Pc} (h : Sat W (rowP v L * A) w) : RdL Pc.cells 4 w v L := by
  unfold rowP at h
  refine ⟨h.rd, ?_⟩
  obtain ⟨-, h2⟩ := h.row_cases
  rcases h2 with ⟨rfl, h0, -⟩ | ⟨g, cap, cur, rfl, h3, -⟩
  · exact ⟨none, 0, by rw [h0], by rw [h0]; exact Nat.le_refl _⟩
  · exact ⟨_, cap, rfl, h3⟩
def pieceM (m : Mk) : Pc := if m.space then ⟨8, 0, 0, m.kern⟩ else if m.made then ⟨2, m.c % 256, m.n, 0⟩ else ⟨1, m.c % 256, m.n, 0⟩
set_option maxRecDepth 100000 in
set_option maxHeartbeats 8000000 in
theorem told_any {v : Value} {L : List Mk} (hc : ∀ m ∈ L, m.c ≠ -1 ∧ m.c ≠ 256) (hlen : L.length ≤ 2000) (h : Sat W (rowK v L * A) w) :
    Calls Try.prog 21 #[v] w fun e w' => ∃ u, e = .returned (.tuple #[u, .int .i64 0]) ∧ Sat W (rowP u (L.map pieceM) * (rowK v L * A)) w' := by
  obtain ⟨va, vc, hv, -⟩ := (rowK_rd h).val
  subst hv
  have HC := Lib.hid hc
  have HS := Lib.hid (h.row_nil (e := 43) (size := 4))
  obtain ⟨i0, hi, hz0, hz1, hz2⟩ := info_parts3 info_pc
  have HI := Lib.hid hi
  have HZ0 := Lib.hid hz0
  have HZ1 := Lib.hid hz1
  have HZ2 := Lib.hid hz2
  clear hc h hi hz0 hz1 hz2
  go_enter Try.func21, Try.ntmps21
  go_wp2_with fail
  go_loopg [4, 9] L.length (fun gg s4 s9 wx => ∃ k : Nat, k ≤ L.length ∧ gg = L.length - k ∧ s9 = .int .i64 k ∧ Sat W (rowP s4 ((L.take k).map pieceM) * (rowK (.slice va L.length vc) L * A)) wx)
  case atStart => exact ⟨0, Nat.zero_le _, rfl, rfl, HS.out⟩
  case round =>
    obtain ⟨k, hk, hg, rfl, hs⟩ := hrel
    have HS2 := Lib.hid hs
    have HG := Lib.hid hg
    have hu4 := (rowP_rd hs).val
    rw [List.length_map] at hu4
    clear HS hs hg
    by_cases hkl : k < L.length
    · have hki : (k : Int) < L.length := by omega
      obtain ⟨g, o, rfl, hcc, lb⟩ := (rowK_rd (HS2.out.rot.of_eq (show _ = rowK (.slice va L.length vc) L * (rowP u4 ((L.take k).map pieceM) * A) from rfl))).at mk_len (by omega) hkl
      obtain ⟨c0, c1, c2, c3, c4⟩ := MkAt.mk' hcc
      have htk : L.take (k + 1) = L.take k ++ [L[k]] := List.take_succ_eq_append_getElem hkl
      have hyc := HC.out _ (List.getElem_mem hkl)
      obtain ⟨y, hy⟩ : ∃ y, L[k] = y := ⟨_, rfl⟩
      rw [hy] at c0 c1 c2 c3 c4 htk hyc
      have HTK := Lib.hid htk
      have h3 := HS2.out.alloc y.box
      obtain ⟨W3, hW3⟩ : ∃ W3, wr.alloc y.box = W3 := ⟨_, rfl⟩
      obtain ⟨b6, hb6⟩ : ∃ b6, wr.heap.size = b6 := ⟨_, rfl⟩
      rw [hW3, hb6] at h3
      have HS3 := Lib.hid (h3.of_eq (show _ = rowP u4 ((L.take k).map pieceM) * (pts b6 y.box * (rowK (.slice (some ⟨g, o, none⟩) L.length vc) L * A)) by ac_rfl))
      obtain ⟨ua, uc, hu, -⟩ := hu4
      have htl : (L.take k).length = k := by rw [List.length_take]; omega
      rw [htl] at hu
      obtain ⟨hyc1, hyc2⟩ := hyc
      obtain ⟨y1, y2, y3, y4, y5⟩ := y
      have HW3 := Lib.hid (show wr.alloc (.cells #[.int .i64 y1, .int .i64 y2, .bool y3, .int .i64 y4, .bool y5] 58) = W3 from hW3)
      have HB6 := Lib.hid hb6
      simp only at c0 c1 c2 c3 c4 hyc1 hyc2
      subst hu
      have hyc3 : (y1 == -1) = false := beq_eq_false_iff_ne.2 hyc1
      have hyc4 : (y1 == 256) = false := beq_eq_false_iff_ne.2 hyc2
      have hk2 : ((k : Int) == 2000) = false := beq_eq_false_iff_ne.2 (by omega)
      have j0 := h3.cell (i := 0) rfl
      have j1 := h3.cell (i := 1) rfl
      have j2 := h3.cell (i := 2) rfl
      have j3 := h3.cell (i := 3) rfl
      have j4 := h3.cell (i := 4) rfl
      have jl := h3.lt
      simp only at j0 j1 j2 j3 j4
      clear hcc htk hy h3 hW3 hb6 htl
      go_upto_region 5 with fail
      rw [HB6.out, HW3.out]
      clear c0 c1 c2 c3 c4 lb HB6 HW3
      cases y5 with
      | true =>
        have HPM := Lib.hid (show pieceM ⟨y1, y2, y3, y4, true⟩ = ⟨8, 0, 0, y4⟩ from rfl)
        have hsu := HS3.out
        obtain ⟨PL, hPL⟩ : ∃ PL, (L.take k).map pieceM = PL := ⟨_, rfl⟩
        have hpl : PL.length = k := by rw [← hPL, List.length_map, List.length_take]; omega
        rw [hPL] at hsu
        have HS4 := Lib.hid (show Sat W (row (.slice ua k uc) k 43 4 (PL.flatMap Pc.cells) * (pts b6 (Mk.box (⟨y1, y2, y3, y4, true⟩)) * (rowK (.slice (some ⟨g, o, none⟩) L.length vc) L * A))) W3 by unfold rowP at hsu; rw [hpl] at hsu; exact hsu)
        have HPL := Lib.hid hPL
        have HPN := Lib.hid hpl
        clear hsu HS3 hPL hpl
        have hkl2 : k ≤ 2000 := by omega
        go_wp2_with (at_builtin; refine wpList_append_sep rfl _ _ 39 rfl i0 _ 32 Try.underlying39 HI.out HZ0.out HZ1.out HZ2.out rfl rfl HS4.out.allocD ⟨_, 0, none⟩ 1 1 (Pc.cells (⟨8, 0, 0, y4⟩ : Pc)) rfl rfl (new_cells _ _ _) (pc_one _) (by simp only [maxLen]; omega) (by omega) ?_)
        intro v' w7 h7
        have h8 := rowP_snoc (L := PL) (y := (⟨8, 0, 0, y4⟩ : Pc)) h7 (by rw [HPN.out])
        have h9 : Sat W (rowP v' ((L.take (k + 1)).map pieceM) * (rowK (.slice (some ⟨g, o, none⟩) L.length vc) L * A)) w7 := by
          rw [HTK.out, List.map_append, List.map_singleton, HPM.out, HPL.out]
          exact (h8.of_eq (show _ = pts b6 (Mk.box (⟨y1, y2, y3, y4, true⟩)) * (rowP v' (PL ++ [(⟨8, 0, 0, y4⟩ : Pc)]) * (rowK (.slice (some ⟨g, o, none⟩) L.length vc) L * A)) by ac_rfl)).r
        have HS9 := Lib.hid h9
        clear h7 h8 h9 HS4 j0 j1 j2 j3 j4 jl
        go_wp2
        go_roundg (L.length - (k + 1))
        case measure => have := HG.out; omega
        case rel => exact ⟨k + 1, by omega, rfl, by go_num, HS9.out⟩
      | false =>
        cases y3 with
        | true =>
          have HPM := Lib.hid (show pieceM ⟨y1, y2, true, y4, false⟩ = ⟨2, y1 % 256, y2, 0⟩ from rfl)
          have hsu := HS3.out
          obtain ⟨PL, hPL⟩ : ∃ PL, (L.take k).map pieceM = PL := ⟨_, rfl⟩
          have hpl : PL.length = k := by rw [← hPL, List.length_map, List.length_take]; omega
          rw [hPL] at hsu
          have HS4 := Lib.hid (show Sat W (row (.slice ua k uc) k 43 4 (PL.flatMap Pc.cells) * (pts b6 (Mk.box (⟨y1, y2, true, y4, false⟩)) * (rowK (.slice (some ⟨g, o, none⟩) L.length vc) L * A))) W3 by unfold rowP at hsu; rw [hpl] at hsu; exact hsu)
          have HPL := Lib.hid hPL
          have HPN := Lib.hid hpl
          clear hsu HS3 hPL hpl
          have hkl2 : k ≤ 2000 := by omega
          go_wp2_with (at_builtin; refine wpList_append_sep rfl _ _ 39 rfl i0 _ 32 Try.underlying39 HI.out HZ0.out HZ1.out HZ2.out rfl rfl HS4.out.allocD ⟨_, 0, none⟩ 1 1 (Pc.cells (⟨2, y1 % 256, y2, 0⟩ : Pc)) rfl rfl (new_cells _ _ _) (pc_one _) (by simp only [maxLen]; omega) (by omega) ?_)
          intro v' w7 h7
          have h8 := rowP_snoc (L := PL) (y := (⟨2, y1 % 256, y2, 0⟩ : Pc)) h7 (by rw [HPN.out])
          have h9 : Sat W (rowP v' ((L.take (k + 1)).map pieceM) * (rowK (.slice (some ⟨g, o, none⟩) L.length vc) L * A)) w7 := by
            rw [HTK.out, List.map_append, List.map_singleton, HPM.out, HPL.out]
            exact (h8.of_eq (show _ = pts b6 (Mk.box (⟨y1, y2, true, y4, false⟩)) * (rowP v' (PL ++ [(⟨2, y1 % 256, y2, 0⟩ : Pc)]) * (rowK (.slice (some ⟨g, o, none⟩) L.length vc) L * A)) by ac_rfl)).r
          have HS9 := Lib.hid h9
          clear h7 h8 h9 HS4 j0 j1 j2 j3 j4 jl
          go_wp2
          go_roundg (L.length - (k + 1))
          case measure => have := HG.out; omega
          case rel => exact ⟨k + 1, by omega, rfl, by go_num, HS9.out⟩
        | false =>
          have HPM := Lib.hid (show pieceM ⟨y1, y2, false, y4, false⟩ = ⟨1, y1 % 256, y2, 0⟩ from rfl)
          have hsu := HS3.out
          obtain ⟨PL, hPL⟩ : ∃ PL, (L.take k).map pieceM = PL := ⟨_, rfl⟩
          have hpl : PL.length = k := by rw [← hPL, List.length_map, List.length_take]; omega
          rw [hPL] at hsu
          have HS4 := Lib.hid (show Sat W (row (.slice ua k uc) k 43 4 (PL.flatMap Pc.cells) * (pts b6 (Mk.box (⟨y1, y2, false, y4, false⟩)) * (rowK (.slice (some ⟨g, o, none⟩) L.length vc) L * A))) W3 by unfold rowP at hsu; rw [hpl] at hsu; exact hsu)
          have HPL := Lib.hid hPL
          have HPN := Lib.hid hpl
          clear hsu HS3 hPL hpl
          have hkl2 : k ≤ 2000 := by omega
          go_wp2_with (at_builtin; refine wpList_append_sep rfl _ _ 39 rfl i0 _ 32 Try.underlying39 HI.out HZ0.out HZ1.out HZ2.out rfl rfl HS4.out.allocD ⟨_, 0, none⟩ 1 1 (Pc.cells (⟨1, y1 % 256, y2, 0⟩ : Pc)) rfl rfl (new_cells _ _ _) (pc_one _) (by simp only [maxLen]; omega) (by omega) ?_)
          intro v' w7 h7
          have h8 := rowP_snoc (L := PL) (y := (⟨1, y1 % 256, y2, 0⟩ : Pc)) h7 (by rw [HPN.out])
          have h9 : Sat W (rowP v' ((L.take (k + 1)).map pieceM) * (rowK (.slice (some ⟨g, o, none⟩) L.length vc) L * A)) w7 := by
            rw [HTK.out, List.map_append, List.map_singleton, HPM.out, HPL.out]
            exact (h8.of_eq (show _ = pts b6 (Mk.box (⟨y1, y2, false, y4, false⟩)) * (rowP v' (PL ++ [(⟨1, y1 % 256, y2, 0⟩ : Pc)]) * (rowK (.slice (some ⟨g, o, none⟩) L.length vc) L * A)) by ac_rfl)).r
          have HS9 := Lib.hid h9
          clear h7 h8 h9 HS4 j0 j1 j2 j3 j4 jl
          go_wp2
          go_roundg (L.length - (k + 1))
          case measure => have := HG.out; omega
          case rel => exact ⟨k + 1, by omega, rfl, by go_num, HS9.out⟩
    · obtain rfl : k = L.length := by omega
      have hs := HS2.out
      rw [List.take_length] at hs
      have HS3 := Lib.hid hs
      clear hkl hs HS2 hu4
      go_wp2
      go_ret2
      exact ⟨u4, rfl, HS3.out⟩
end Go.Proofs.Ytigjfbbgbiajbaa
