
/-
  A font's reader: tables. Conditions: those that each theorem names.
-/
import Derived.Test.YtembknlhocijkaaFtP
namespace Go.Proofs.Ytembknlhocijkaa
open Go.RowKit Go.Sp
variable {w w' W : World} {A : HProp}

set_option maxRecDepth 100000 in
set_option maxHeartbeats 4000000 in
theorem tabI_any {v : Value} {br n : Nat} (K : Nat) (bd : Array Value) (rem : Nat → List UInt8) (vals : Nat → Int) (hn : n ≤ 1000) (hA : ∀ w', Sat W A w' → Ext W w')
    (hent : ∀ w, (callFunc K (bd ++ #[])).run Try.prog w = .ok (.enter K (bd ++ #[])) w)
    (hcall : ∀ k, k < n → ∀ w v (B : HProp), (∀ w', Sat W B w' → Ext W w') → RdA W v (rem k) → Sat W (pts br (rdB v) * B) w → Calls Try.prog K (bd ++ #[]) w fun e w' => e = .returned (.int .i64 (vals k)) ∧ ∃ v', RdA W v' (rem (k + 1)) ∧ Sat W (pts br (rdB v') * B) w')
    (hr : RdA W v (rem 0)) (h : Sat W (pts br (rdB v) * A) w) :
    Calls Try.prog 36 #[.int .i64 n, .func (.func K) bd #[]] w fun e w' => ∃ u, e = .returned u ∧ ∃ v', RdA W v' (rem n) ∧ Sat W (rowJ u ((List.range n).map vals) * (pts br (rdB v') * A)) w' := by
  have HCALL := Lib.hid hcall
  have HENT := Lib.hid hent
  have HA := Lib.hid hA
  have HS := Lib.hid (h.row_nil (e := 3) (size := 1))
  have HR := Lib.hid hr
  obtain ⟨i0, hi, hz0, hz1, hz2⟩ := info_parts3 info_in
  have HI := Lib.hid hi
  have HZ0 := Lib.hid hz0
  have HZ1 := Lib.hid hz1
  have HZ2 := Lib.hid hz2
  have hni : (n : Int) ≤ 1000 := by omega
  clear hcall hent hA h hr hi hz0 hz1 hz2
  go_enter Try.func36, Try.ntmps36
  go_wp2_with fail
  go_loopg [5, 7] n (fun gg s5 s7 wx => ∃ k : Nat, k ≤ n ∧ gg = n - k ∧ s7 = .int .i64 k ∧ ∃ v', RdA W v' (rem k) ∧ Sat W (rowJ s5 ((List.range k).map vals) * (pts br (rdB v') * A)) wx)
  case atStart => exact ⟨0, Nat.zero_le _, rfl, rfl, v, HR.out, HS.out⟩
  case round =>
    obtain ⟨k, hk, hg, rfl, v1, hv1, hs⟩ := hrel
    have HG := Lib.hid hg
    have HS1 := Lib.hid hs
    have HV1 := Lib.hid hv1
    clear hg HS HR
    by_cases hkn : k < n
    · have hki : (k : Int) < n := by omega
      obtain ⟨ua, uc, hu, -⟩ := (rowJ_rd hs).val
      rw [List.length_map, List.length_range] at hu
      subst hu
      have HC := Lib.hid (HCALL.out k hkn wr v1 (rowJ (.slice ua k uc) ((List.range k).map vals) * A) (fun w' h => HA.out _ h.r) HV1.out (hs.of_eq (by ac_rfl)))
      have hent := HENT.out
      simp only [Array.append_empty] at hent
      have HC2 := Lib.hid (show Calls Try.prog K bd wr fun e w' => e = .returned (.int .i64 (vals k)) ∧ ∃ v', RdA W v' (rem (k + 1)) ∧ Sat W (pts br (rdB v') * (rowJ (.slice ua k uc) ((List.range k).map vals) * A)) w' by have h := HC.out; rwa [Array.append_empty] at h)
      clear hs hv1 HC
      go_wp2_with fail
      with_reducible refine Calls.mono HC2.out ?_
      rintro e w9 ⟨rfl, v2, hv2, h9⟩
      have HV2 := Lib.hid hv2
      have HS9 := Lib.hid (h9.of_eq (show _ = row (.slice ua k uc) k 3 1 (((List.range k).map vals).flatMap intC) * (pts br (rdB v2) * A) from by unfold rowJ; rw [List.length_map, List.length_range]; ac_rfl))
      clear hv2 h9 HC2 hent HS1 HV1
      go_wp2_with (at_builtin; refine wpList_append_sep rfl _ _ 32 rfl i0 _ 8 Try.underlying32 HI.out HZ0.out HZ1.out HZ2.out rfl rfl HS9.out.allocD ⟨_, 0, none⟩ 1 1 [.int .i64 (vals k)] rfl rfl (new_cells _ _ _) (by intro u hu; rw [List.mem_singleton] at hu; rw [hu]; rfl) (by simp only [maxLen]; omega) (by omega) ?_)
      intro v' w7 h7
      have h8 := rowJ_snoc (L := (List.range k).map vals) (y := vals k) h7 (by rw [List.length_map, List.length_range])
      have H8 := Lib.hid (show Sat W (rowJ v' ((List.range (k + 1)).map vals) * (pts br (rdB v2) * A)) w7 by rw [List.range_succ, List.map_append]; exact h8)
      clear h7 h8 HS9
      go_wp2
      go_roundg (n - (k + 1))
      case measure => have := HG.out; omega
      case rel => exact ⟨k + 1, by omega, rfl, by go_num, v2, HV2.out, H8.out⟩
    · obtain rfl : k = n := by omega
      clear hkn hs hv1
      go_wp2
      go_ret
      exact ⟨_, rfl, v1, HV1.out, HS1.out⟩
end Go.Proofs.Ytembknlhocijkaa
