
/-
  Bytes that a font's writer makes grow. Conditions: those that each theorem names.
-/
import Derived.Test.YtembknlhocijkaaFtH
import Derived.Test.YtembknlhocijkaaFtG
import Derived.Test.YtembknlhocijkaaAppRd
import Derived.Test.YtembknlhocijkaaRowM
namespace Go.Proofs.Ytembknlhocijkaa
open Go.RowKit Go.Sp
variable {w W : World} {A : HProp}

def u8 (x : Int) : UInt8 := UInt8.ofNat (x % 256).toNat
theorem u8_nat (x : Int) : ((u8 x).toNat : Int) = x % 256 := by
  unfold u8
  rw [UInt8.toNat_ofNat']
  omega
def halfB (x : Int) : List UInt8 := [u8 (x / 256), u8 x]
def wordB (x : Int) : List UInt8 := [u8 (x / 16777216), u8 (x / 65536), u8 (x / 256), u8 x]
def rowY (v : Value) (L : List UInt8) : HProp := row v L.length 5 1 (L.flatMap byteC)
theorem info_by : (Try.prog.info? 5).map (fun i => (i.zero, i.size, i.bytes)) = some (some (.int .u8 0), 1, 1) := by kernel_rfl
theorem byte_one (L : List UInt8) : ∀ u ∈ L.flatMap byteC, u.oneCell' = true :=
  flatMap_one (fun x u hu => by simp only [byteC, List.mem_singleton] at hu; rw [hu]; rfl) L
theorem rowY_rd {v : Value} {L : List UInt8} (h : Sat W (rowY v L * A) w) : RdL byteC 1 w v L := by
  unfold rowY at h
  refine ⟨h.rd, ?_⟩
  obtain ⟨-, h2⟩ := h.row_cases
  rcases h2 with ⟨rfl, h0, -⟩ | ⟨g, cap, cur, rfl, h3, -⟩
  · exact ⟨none, 0, by rw [h0], by rw [h0]; exact Nat.le_refl _⟩
  · exact ⟨_, cap, rfl, h3⟩
theorem rowY_app {u : Value} {L M : List UInt8} {n : Nat} {cs : List Value} (h : Sat W (row u n 5 1 (L.flatMap byteC ++ cs) * A) w) (hn : n = L.length + M.length) (hc : cs = M.flatMap byteC) : Sat W (rowY u (L ++ M) * A) w := by
  unfold rowY
  rw [List.flatMap_append, List.length_append, ← hn, ← hc]
  exact h
abbrev wrB (v : Value) : Obj := .cells #[v] 59
theorem half_cells (n : Int) : [Value.int .u8 (n / 256 % 256), .int .u8 (n % 256)] = (halfB n).flatMap byteC := by
  simp only [halfB, byteC, List.flatMap_cons, List.flatMap_nil, List.append_nil, List.cons_append, List.nil_append, u8_nat]
theorem word_cells (n : Int) : [Value.int .u8 (n / 16777216 % 256), .int .u8 (n / 65536 % 256), .int .u8 (n / 256 % 256), .int .u8 (n % 256)] = (wordB n).flatMap byteC := by
  simp only [wordB, byteC, List.flatMap_cons, List.flatMap_nil, List.append_nil, List.cons_append, List.nil_append, u8_nat]
set_option maxRecDepth 100000 in
set_option maxHeartbeats 4000000 in
theorem half_any {v : Value} {L : List UInt8} {bw : Nat} (n : Int) (hL : L.length ≤ 100000) (h : Sat W (pts bw (wrB v) * (rowY v L * A)) w) :
    Calls Try.prog 22 #[.pointer (some ⟨bw, 0, none⟩), .int .i64 n] w fun e w' => e = .returned (.tuple #[]) ∧ ∃ v', Sat W (pts bw (wrB v') * (rowY v' (L ++ halfB n) * A)) w' := by
  obtain ⟨va, vc, hv, -⟩ := (rowY_rd h.r).val
  subst hv
  obtain ⟨m, hm⟩ : ∃ m, L.length = m := ⟨_, rfl⟩
  have hs := h.of_eq (show _ = row (.slice va L.length vc) L.length 5 1 (L.flatMap byteC) * (pts bw (wrB (.slice va L.length vc)) * A) from by unfold rowY; ac_rfl)
  rw [hm] at hs hL
  have HM := Lib.hid hm
  have HS := Lib.hid hs
  have c0 := h.cell (i := 0) rfl
  have lb := h.lt
  rw [hm] at c0
  obtain ⟨i0, hi, hz0, hz1, hz2⟩ := info_parts3 info_by
  have HI := Lib.hid hi
  have HZ0 := Lib.hid hz0
  have HZ1 := Lib.hid hz1
  have HZ2 := Lib.hid hz2
  clear hi hz0 hz1 hz2 hs h hm
  go_enter Try.func22, Try.ntmps22
  go_wp2_with (at_builtin; refine wpList_append_sep rfl _ _ 36 rfl i0 _ 1 Try.underlying36 HI.out HZ0.out HZ1.out HZ2.out rfl rfl HS.out.allocD ⟨_, 0, none⟩ 2 2 [.int .u8 (n / 256 % 256), .int .u8 (n % 256)] rfl rfl (new_cells _ _ _) (by rw [half_cells]; exact byte_one _) (by simp only [maxLen]; omega) (by omega) ?_)
  intro v' w7 h7
  have h8 := rowY_app (L := L) h7 (by rw [HM.out]; rfl) (half_cells n)
  obtain ⟨wa, wc, hv, -⟩ := (rowY_rd h8).val
  rw [List.length_append, HM.out] at hv
  subst hv
  have H8 := Lib.hid (h8.of_eq (show _ = pts bw (wrB (.slice va m vc)) * (rowY (.slice wa (m + 2) wc) _ * A) by ac_rfl))
  have d0 := H8.out.cell (i := 0) rfl
  have f0 := H8.out.free (i := 0)
  have ld := H8.out.lt
  clear h7 h8 HS c0 lb
  go_wp2
  go_end0
  exact ⟨rfl, _, H8.out.set (i := 0) (v := .slice wa (m + 2) wc)⟩
set_option maxRecDepth 100000 in
set_option maxHeartbeats 4000000 in
theorem word_any {v : Value} {L : List UInt8} {bw : Nat} (n : Int) (hL : L.length ≤ 100000) (h : Sat W (pts bw (wrB v) * (rowY v L * A)) w) :
    Calls Try.prog 23 #[.pointer (some ⟨bw, 0, none⟩), .int .i64 n] w fun e w' => e = .returned (.tuple #[]) ∧ ∃ v', Sat W (pts bw (wrB v') * (rowY v' (L ++ wordB n) * A)) w' := by
  obtain ⟨va, vc, hv, -⟩ := (rowY_rd h.r).val
  subst hv
  obtain ⟨m, hm⟩ : ∃ m, L.length = m := ⟨_, rfl⟩
  have hs := h.of_eq (show _ = row (.slice va L.length vc) L.length 5 1 (L.flatMap byteC) * (pts bw (wrB (.slice va L.length vc)) * A) from by unfold rowY; ac_rfl)
  rw [hm] at hs hL
  have HM := Lib.hid hm
  have HS := Lib.hid hs
  have c0 := h.cell (i := 0) rfl
  have lb := h.lt
  rw [hm] at c0
  obtain ⟨i0, hi, hz0, hz1, hz2⟩ := info_parts3 info_by
  have HI := Lib.hid hi
  have HZ0 := Lib.hid hz0
  have HZ1 := Lib.hid hz1
  have HZ2 := Lib.hid hz2
  clear hi hz0 hz1 hz2 hs h hm
  go_enter Try.func23, Try.ntmps23
  go_wp2_with (at_builtin; refine wpList_append_sep rfl _ _ 36 rfl i0 _ 1 Try.underlying36 HI.out HZ0.out HZ1.out HZ2.out rfl rfl HS.out.allocD ⟨_, 0, none⟩ 4 4 [.int .u8 (n / 16777216 % 256), .int .u8 (n / 65536 % 256), .int .u8 (n / 256 % 256), .int .u8 (n % 256)] rfl rfl (new_cells _ _ _) (by rw [word_cells]; exact byte_one _) (by simp only [maxLen]; omega) (by omega) ?_)
  intro v' w7 h7
  have h8 := rowY_app (L := L) h7 (by rw [HM.out]; rfl) (word_cells n)
  obtain ⟨wa, wc, hv, -⟩ := (rowY_rd h8).val
  rw [List.length_append, HM.out] at hv
  subst hv
  have H8 := Lib.hid (h8.of_eq (show _ = pts bw (wrB (.slice va m vc)) * (rowY (.slice wa (m + 4) wc) _ * A) by ac_rfl))
  have d0 := H8.out.cell (i := 0) rfl
  have f0 := H8.out.free (i := 0)
  have ld := H8.out.lt
  clear h7 h8 HS c0 lb
  go_wp2
  go_end0
  exact ⟨rfl, _, H8.out.set (i := 0) (v := .slice wa (m + 4) wc)⟩
end Go.Proofs.Ytembknlhocijkaa
