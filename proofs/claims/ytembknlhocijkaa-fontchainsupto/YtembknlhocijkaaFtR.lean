
/-
  A font's reader: the other tables, of one element or of none. Conditions: those that each theorem names.
-/
import Derived.Test.YtembknlhocijkaaFtQ
namespace Go.Proofs.Ytembknlhocijkaa
open Go.RowKit Go.Sp
variable {w w' W : World} {A : HProp}

set_option maxRecDepth 100000 in
set_option maxHeartbeats 4000000 in
theorem tab4_nil (v : Value) (w : World) : Calls Try.prog 41 #[.int .i64 0, v] w fun e w' => e = .returned (.slice none 0 0) ∧ w' = w := by
  go_enter Try.func41, Try.ntmps41
  go_wp2_with fail
  go_loopg [5, 7] 0 (fun gg s5 s7 wx => gg = 0 ∧ s5 = .slice none 0 0 ∧ s7 = .int .i64 0 ∧ wx = w)
  case atStart => exact ⟨rfl, rfl, rfl, rfl⟩
  case round =>
    obtain ⟨hg, rfl, rfl, rfl⟩ := hrel
    clear hg
    go_wp2
    go_ret
    exact ⟨rfl, rfl⟩
set_option maxRecDepth 100000 in
set_option maxHeartbeats 4000000 in
theorem tabS_nil (v : Value) (w : World) : Calls Try.prog 43 #[.int .i64 0, v] w fun e w' => e = .returned (.slice none 0 0) ∧ w' = w := by
  go_enter Try.func43, Try.ntmps43
  go_wp2_with fail
  go_loopg [5, 7] 0 (fun gg s5 s7 wx => gg = 0 ∧ s5 = .slice none 0 0 ∧ s7 = .int .i64 0 ∧ wx = w)
  case atStart => exact ⟨rfl, rfl, rfl, rfl⟩
  case round =>
    obtain ⟨hg, rfl, rfl, rfl⟩ := hrel
    clear hg
    go_wp2
    go_ret
    exact ⟨rfl, rfl⟩
abbrev ptB (br : Nat) : Obj := .cells #[.pointer (some ⟨br, 0, none⟩)] 70
set_option maxRecDepth 100000 in
set_option maxHeartbeats 4000000 in
theorem read1_any {v : Value} {l : List UInt8} {a b c d : UInt8} {br c2 : Nat} (hA : ∀ w', Sat W A w' → Ext W w') (hr : RdA W v (a :: b :: c :: d :: l)) (h : Sat W (pts br (rdB v) * (pts c2 (ptB br) * A)) w) :
    Calls Try.prog 42 #[.pointer (some ⟨c2, 0, none⟩)] w fun e w' => e = .returned (Pce.val ⟨a, b, c, d⟩) ∧ ∃ v', RdA W v' l ∧ Sat W (pts br (rdB v') * (pts c2 (ptB br) * A)) w' := by
  have h1 := h.alloc (.cells #[.int .u8 0, .int .u8 0, .int .u8 0, .int .u8 0] 65)
  obtain ⟨b1, hb1⟩ : ∃ b1, w.heap.size = b1 := ⟨_, rfl⟩
  rw [hb1] at h1
  have HB := Lib.hid (bytes_any (n := 4) (by simp) hr (h1.of_eq (show _ = pts br (rdB v) * (pts b1 (.cells #[.int .u8 0, .int .u8 0, .int .u8 0, .int .u8 0] 65) * (pts c2 (ptB br) * A)) by ac_rfl)))
  have HA := Lib.hid hA
  have HB1 := Lib.hid hb1
  have p0 : (w.alloc (.cells #[.int .u8 0, .int .u8 0, .int .u8 0, .int .u8 0] 65)).cell? ⟨c2, 0, none⟩ = some (.pointer (some ⟨br, 0, none⟩)) := h1.r.r.cell (i := 0) rfl
  have pl := h1.r.r.lt
  clear hr h hA h1 hb1
  go_enter Try.func42, Try.ntmps42
  go_wp2_with fail
  with_reducible refine Calls.mono HB.out ?_
  rintro e w2 ⟨u, rfl, hu, v', hv, hs⟩
  have HX := Lib.hid (HA.out _ hs.r.r.r)
  have HV := Lib.hid hv
  obtain ⟨ub_, uo, uc_, rfl, hcell, lb⟩ := hu.at
  have c0 := HX.out.cell (hcell 0 a rfl)
  have c1 := HX.out.cell (hcell 1 b rfl)
  have c2' := HX.out.cell (hcell 2 c rfl)
  have c3 := HX.out.cell (hcell 3 d rfl)
  replace lb := HX.out.lt lb
  simp only [List.take_succ_cons, List.take_zero, List.length_cons, List.length_nil, Nat.zero_add, Nat.reduceAdd]
  rw [Nat.add_zero] at c0
  have hs2 := hs.of_eq (show _ = pts b1 (.cells #[.int .u8 0, .int .u8 0, .int .u8 0, .int .u8 0] 65) * (pts br (rdB v') * (pts c2 (ptB br) * A)) by ac_rfl)
  have e0 := hs2.cell (i := 0) rfl
  have e1 := hs2.cell (i := 1) rfl
  have e2 := hs2.cell (i := 2) rfl
  have e3 := hs2.cell (i := 3) rfl
  have f0 := hs2.free (i := 0)
  have f1 := hs2.free (i := 1)
  have f2 := hs2.free (i := 2)
  have f3 := hs2.free (i := 3)
  have le := hs2.lt
  have HS2 := Lib.hid hs2
  clear hs hv hu hcell HB hs2 p0 pl
  have G := Lib.hid (sat_set4 HS2.out (.int .u8 a.toNat) (.int .u8 b.toNat) (.int .u8 c.toNat) (.int .u8 d.toNat))
  rw [HB1.out]
  go_wp2
  rename_i hK
  refine hK _ _ ?_
  clear hK
  go_simp
  go_wp2
  clear e0 e1 e2 e3 f0 f1 f2 f3 le HS2
  have d0 := G.out.cell (i := 0) rfl
  have d1 := G.out.cell (i := 1) rfl
  have d2 := G.out.cell (i := 2) rfl
  have d3 := G.out.cell (i := 3) rfl
  refine bodyPost_ret (v := Pce.val ⟨a, b, c, d⟩) (by unfold results; go_simp) rfl ?_
  exact ⟨rfl, v', HV.out, G.out.r⟩
def row4 (v : Value) (L : List Pce) : HProp := row v L.length 65 4 (L.flatMap Pce.cells)
theorem info_p4 : (Try.prog.info? 65).map (fun i => (i.zero, i.size, i.bytes)) = some (some (.agg #[.int .u8 0, .int .u8 0, .int .u8 0, .int .u8 0]), 4, 4) := by kernel_rfl
theorem row4_rd {v : Value} {L : List Pce} (h : Sat W (row4 v L * A) w) : RdL Pce.cells 4 w v L := by
  unfold row4 at h
  refine ⟨h.rd, ?_⟩
  obtain ⟨-, h2⟩ := h.row_cases
  rcases h2 with ⟨rfl, h0, -⟩ | ⟨g, cap, cur, rfl, h3, -⟩
  · exact ⟨none, 0, by rw [h0], by rw [h0]; exact Nat.le_refl _⟩
  · exact ⟨_, cap, rfl, h3⟩
set_option maxRecDepth 100000 in
set_option maxHeartbeats 4000000 in
theorem tab4_one {v : Value} {l : List UInt8} {a b c d : UInt8} {br c2 : Nat} (hA : ∀ w', Sat W A w' → Ext W w') (hr : RdA W v (a :: b :: c :: d :: l)) (h : Sat W (pts br (rdB v) * (pts c2 (ptB br) * A)) w) :
    Calls Try.prog 41 #[.int .i64 1, .func (.func 42) #[] #[.pointer (some ⟨c2, 0, none⟩)]] w fun e w' => ∃ u, e = .returned u ∧ ∃ v', RdA W v' l ∧ Sat W (row4 u [⟨a, b, c, d⟩] * (pts br (rdB v') * (pts c2 (ptB br) * A))) w' := by
  have HC := Lib.hid (fun w (h : Sat W (pts br (rdB v) * (pts c2 (ptB br) * A)) w) => read1_any hA hr h)
  have HS := Lib.hid h
  obtain ⟨i0, hi, hz0, hz1, hz2⟩ := info_parts3 info_p4
  have HI := Lib.hid hi
  have HZ0 := Lib.hid hz0
  have HZ1 := Lib.hid hz1
  have HZ2 := Lib.hid hz2
  clear hA h hr hi hz0 hz1 hz2
  go_enter Try.func41, Try.ntmps41
  go_wp2_with fail
  go_loopg [5, 7] 1 (fun gg s5 s7 wx => ∃ k : Nat, k ≤ 1 ∧ gg = 1 - k ∧ s7 = .int .i64 k ∧ ((k = 0 ∧ s5 = .slice none 0 0 ∧ Sat W (pts br (rdB v) * (pts c2 (ptB br) * A)) wx) ∨ (k = 1 ∧ ∃ v', RdA W v' l ∧ Sat W (row4 s5 [⟨a, b, c, d⟩] * (pts br (rdB v') * (pts c2 (ptB br) * A))) wx)))
  case atStart => exact ⟨0, Nat.zero_le _, rfl, rfl, .inl ⟨rfl, rfl, HS.out⟩⟩
  case round =>
    obtain ⟨k, hk, hg, rfl, hrel⟩ := hrel
    have HG := Lib.hid hg
    clear hg HS
    rcases hrel with ⟨rfl, rfl, hs⟩ | ⟨rfl, v', hv, hs⟩
    · have HC2 := Lib.hid (HC.out _ hs)
      clear hs
      go_wp2_with fail
      with_reducible refine Calls.mono HC2.out ?_
      rintro e w9 ⟨rfl, v2, hv2, h9⟩
      have HV2 := Lib.hid hv2
      have HS9 := Lib.hid (h9.row_nil (e := 65) (size := 4))
      clear hv2 h9 HC2 HC
      go_wp2_with (at_builtin; refine wpList_append_sep rfl _ _ 33 rfl i0 _ 4 Try.underlying33 HI.out HZ0.out HZ1.out HZ2.out rfl rfl HS9.out.allocD ⟨_, 0, none⟩ 1 1 (Pce.cells ⟨a, b, c, d⟩) rfl rfl (new_cells _ _ _) (by intro u hu; simp only [Pce.cells, List.mem_cons, List.not_mem_nil, or_false] at hu; rcases hu with rfl | rfl | rfl | rfl <;> rfl) (by simp only [maxLen]; omega) (by omega) ?_)
      intro v' w7 h7
      have H8 := Lib.hid (show Sat W (row4 v' [⟨a, b, c, d⟩] * (pts br (rdB v2) * (pts c2 (ptB br) * A))) w7 from h7)
      clear h7 HS9
      go_wp2
      go_roundg 0
      case measure => have := HG.out; omega
      case rel => exact ⟨1, by omega, rfl, rfl, .inr ⟨rfl, v2, HV2.out, H8.out⟩⟩
    · have HS1 := Lib.hid hs
      have HV1 := Lib.hid hv
      clear hs hv
      go_wp2
      go_ret
      exact ⟨_, rfl, v', HV1.out, HS1.out⟩
end Go.Proofs.Ytembknlhocijkaa
