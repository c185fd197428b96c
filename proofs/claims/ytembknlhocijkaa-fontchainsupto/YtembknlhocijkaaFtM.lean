
/-
  The law's small font; its values, as the writer makes them. Conditions: those that each theorem names.
-/
import Derived.Test.YtembknlhocijkaaFtL
namespace Go.Proofs.Ytembknlhocijkaa
open Go.RowKit Go.Sp
variable {w W : World} {A : HProp} {x : FV}

def smM : Met := ⟨524288, 262144, 0, 0, 0, 0⟩
def smallF : Fnt := ⟨7, 10485760, 97, [smM], [], [], [], [0, 262144]⟩
theorem small_check : checkE smallF = 0 := by kernel_rfl
/-- what 'values' keeps of the one character -/
def keptM (z : Bool) (fv : Int) : List Int := if z || !decide (fv = 0) then [fv] else []
theorem kept_len (z : Bool) (fv : Int) : (keptM z fv).length ≤ 1 := by unfold keptM; split <;> simp
theorem small_vals (h : RdF w x smallF) : ∃ cb co cc sa sc ka kc pa pc rb ro rc, x = ⟨.slice (some ⟨cb, co, none⟩) 1 cc, .slice sa 0 sc, .slice ka 0 kc, .slice pa 0 pc, .slice (some ⟨rb, ro, none⟩) 2 rc⟩ ∧
    ∀ w', Ext w w' → w'.cell? ⟨cb, co, none⟩ = some (.int .i64 524288) ∧ w'.cell? ⟨cb, co + 1, none⟩ = some (.int .i64 262144) ∧ w'.cell? ⟨cb, co + 2, none⟩ = some (.int .i64 0) ∧ w'.cell? ⟨cb, co + 3, none⟩ = some (.int .i64 0) ∧ w'.cell? ⟨cb, co + 4, none⟩ = some (.int .i64 0) ∧ w'.cell? ⟨cb, co + 5, none⟩ = some (.int .i64 0) ∧ cb < w'.heap.size := by
  obtain ⟨ca, cc, sa, sc, ka, kc, pa, pc, ra, rc, rfl, -⟩ := h.vals
  have h0 : (0 : Nat) < smallF.chars.length := by decide
  have h1 : (0 : Nat) < smallF.params.length := by decide
  obtain ⟨rb, ro, rfl, -, -⟩ := h.rr.int rfl h1
  obtain ⟨cb, co, rfl, c0, c1, c2, c3, c4, c5, lb⟩ := h.chr rfl h0
  exact ⟨cb, co, cc, sa, sc, ka, kc, pa, pc, rb, ro, rc, rfl, fun w' k => ⟨k.cell c0, k.cell c1, k.cell c2, k.cell c3, k.cell c4, k.cell c5, k.lt lb⟩⟩
set_option maxRecDepth 100000 in
set_option maxHeartbeats 8000000 in
theorem values_any (z : Bool) (K : Nat) (fv : Int) (hent : ∀ v w, (callFunc K (#[v] ++ #[])).run Try.prog w = .ok (.enter K (#[v] ++ #[])) w) (hcall : ∀ w, Calls Try.prog K (#[smM.val] ++ #[]) w fun e w' => e = .returned (.int .i64 fv) ∧ Ext w w') (h : RdF w x smallF) :
    Calls Try.prog 17 #[smallF.val x, .bool z, .func (.func K) #[] #[]] w fun e w' => ∃ u, e = .returned u ∧ RdL intC 1 w' u (0 :: keptM z fv) ∧ Ext w w' := by
  have HS := (Sat.start w).alloc (smallF.box x)
  obtain ⟨W1, hW1⟩ : ∃ W1, w.alloc (smallF.box x) = W1 := ⟨_, rfl⟩
  obtain ⟨bf, hbf⟩ : ∃ bf, w.heap.size = bf := ⟨_, rfl⟩
  rw [hW1, hbf] at HS
  have HB := Lib.hid (BoxF.of HS)
  have HE1 := Lib.hid HS.r.toExt
  have HN := Lib.hid ((Sat.start W1).row_nil (e := 3) (size := 1))
  obtain ⟨cb, co, cc, sa, sc, ka, kc, pa, pc, rb, ro, rc, rfl, hcell⟩ := small_vals (h.ext HS.r.toExt)
  have HCELL := Lib.hid hcell
  simp only [Fnt.box] at hW1
  have HENT := Lib.hid hent
  have HCALL := Lib.hid (show ∀ w, Calls Try.prog K #[.agg #[.int .i64 524288, .int .i64 262144, .int .i64 0, .int .i64 0, .int .i64 0, .int .i64 0]] w fun e w' => e = .returned (.int .i64 fv) ∧ Ext w w' from hcall)
  have HW1 := Lib.hid hW1
  have HBF := Lib.hid hbf
  obtain ⟨i0, hi, hz0, hz1, hz2⟩ := info_parts3 info_in
  have HI := Lib.hid hi
  have HZ0 := Lib.hid hz0
  have HZ1 := Lib.hid hz1
  have HZ2 := Lib.hid hz2
  clear HS hW1 hbf hi hz0 hz1 hz2 hent hcall hcell h
  go_enter Try.func17, Try.ntmps17
  go_upto_region 1 with fail
  rw [HBF.out, HW1.out]
  clear HBF HW1
  have b0 := HB.out.c0
  have b1 := HB.out.c1
  have b2 := HB.out.c2
  have b3 := HB.out.c3
  have b4 := HB.out.c4
  have b5 := HB.out.c5
  have b6 := HB.out.c6
  have b7 := HB.out.c7
  have lq := HB.out.lt
  go_wp2_with fail
  go_loopg [7, 13] 1 (fun gg s7 s13 wx => ∃ k : Nat, k ≤ 1 ∧ gg = 1 - k ∧ s13 = .int .i64 k ∧ Sat W1 (rowJ s7 (if k = 0 then [] else keptM z fv) * own W1) wx)
  case atStart => exact ⟨0, by omega, rfl, rfl, HN.out⟩
  case round =>
    obtain ⟨k, hk, hg, rfl, hs⟩ := hrel
    have HG := Lib.hid hg
    have HS := Lib.hid hs
    by_cases hk0 : k = 0
    · subst hk0
      rw [if_pos rfl] at hs
      obtain ⟨ua, uc, hu, -⟩ := (rowJ_rd hs).val
      subst hu
      have HS := Lib.hid hs
      have hs2 := HS.out.alloc smM.box
      obtain ⟨b9, hb9⟩ : ∃ b9, wr.heap.size = b9 := ⟨_, rfl⟩
      obtain ⟨W9, hW9⟩ : ∃ W9, wr.alloc smM.box = W9 := ⟨_, rfl⟩
      rw [hb9, hW9] at hs2
      obtain ⟨c0, c1, c2, c3, c4, c5, lb⟩ := HCELL.out _ hs.r.toExt
      have HW9 := Lib.hid (show wr.alloc (.cells #[.int .i64 524288, .int .i64 262144, .int .i64 0, .int .i64 0, .int .i64 0, .int .i64 0] 41) = W9 from hW9)
      have HB9 := Lib.hid hb9
      have HS2 := Lib.hid hs2
      have d0 := hs2.cell (i := 0) rfl
      have d1 := hs2.cell (i := 1) rfl
      have d2 := hs2.cell (i := 2) rfl
      have d3 := hs2.cell (i := 3) rfl
      have d4 := hs2.cell (i := 4) rfl
      have d5 := hs2.cell (i := 5) rfl
      have ld := hs2.lt
      simp only [smM] at d0 d1 d2 d3 d4 d5
      have HM := Lib.hid (show smM.val = .agg #[.int .i64 524288, .int .i64 262144, .int .i64 0, .int .i64 0, .int .i64 0, .int .i64 0] from rfl)
      clear hs hs2 hb9 hW9 hg
      go_upto_region 5 with fail
      rw [HB9.out, HW9.out]
      clear HB9 HW9 c0 c1 c2 c3 c4 c5 lb
      have hent := HENT.out
      simp only [Array.append_empty] at hent
      cases z with
      | true =>
        go_wp2_with fail
        with_reducible refine Calls.mono (HCALL.out _) ?_
        rintro e w5 ⟨rfl, h5⟩
        have hs5 := HS2.out.ext h5
        have HS5 := Lib.hid (hs5.of_eq (show _ = row (.slice ua 0 uc) 0 3 1 [] * (own W1 * pts b9 smM.box) from by unfold rowJ; ac_rfl))
        clear hs5 h5 HS2 d0 d1 d2 d3 d4 d5 ld hent HS
        go_wp2_with (at_builtin; refine wpList_append_sep rfl _ _ 32 rfl i0 _ 8 Try.underlying32 HI.out HZ0.out HZ1.out HZ2.out rfl rfl HS5.out.allocD ⟨_, 0, none⟩ 1 1 [.int .i64 fv] rfl rfl (new_cells _ _ _) (by intro u hu; rw [List.mem_singleton] at hu; rw [hu]; rfl) (by simp only [maxLen]; omega) (by omega) ?_)
        intro v' w7 h7
        have h8 := rowJ_snoc (L := []) (y := fv) h7 rfl
        have H8 := Lib.hid (show Sat W1 (rowJ v' (if (1 : Nat) = 0 then [] else keptM _ fv) * own W1) w7 by rw [if_neg (by decide), (show keptM true fv = [fv] from rfl)]; exact (h8.of_eq (show _ = pts b9 smM.box * (rowJ v' ([] ++ [fv]) * own W1) by ac_rfl)).r)
        clear h7 h8 HS5
        go_wp2
        go_roundg 0
        case measure => have := HG.out; omega
        case rel => exact ⟨1, by omega, rfl, rfl, H8.out⟩
      | false =>
        go_wp2_with fail
        with_reducible refine Calls.mono (HCALL.out _) ?_
        rintro e w5 ⟨rfl, h5⟩
        by_cases hf : fv = 0
        · have HK := Lib.hid (show keptM false fv = [] by unfold keptM; rw [decide_eq_true hf]; rfl)
          have hs5 := HS2.out.ext h5
          have H8 := Lib.hid (show Sat W1 (rowJ (.slice ua 0 uc) (if (1 : Nat) = 0 then [] else keptM false fv) * own W1) w5 by rw [if_neg (by decide), HK.out]; exact hs5.r)
          have hf2 : (fv != 0) = false := by rw [hf]; rfl
          clear hs5 h5 HS2 d0 d1 d2 d3 d4 d5 ld hent HS
          go_wp2
          go_roundg 0
          case measure => have := HG.out; omega
          case rel => exact ⟨1, by omega, rfl, rfl, H8.out⟩
        · have HK := Lib.hid (show keptM false fv = [fv] by unfold keptM; rw [decide_eq_false hf]; rfl)
          have hs5 := HS2.out.ext h5
          have HS6 := Lib.hid hs5
          have e0 := hs5.cell (i := 0) rfl
          have e1 := hs5.cell (i := 1) rfl
          have e2 := hs5.cell (i := 2) rfl
          have e3 := hs5.cell (i := 3) rfl
          have e4 := hs5.cell (i := 4) rfl
          have e5 := hs5.cell (i := 5) rfl
          have le := hs5.lt
          simp only [smM] at e0 e1 e2 e3 e4 e5
          have hf2 : (fv != 0) = true := by rw [bne_iff_ne]; exact hf
          clear hs5 h5 HS2 d0 d1 d2 d3 d4 d5 ld
          go_wp2_with fail
          with_reducible refine Calls.mono (HCALL.out _) ?_
          rintro e w6 ⟨rfl, h5⟩
          have HS2 := Lib.hid HS6.out
          have d0 := e0
          have d1 := e1
          have d2 := e2
          have d3 := e3
          have d4 := e4
          have d5 := e5
          have ld := le
          clear e0 e1 e2 e3 e4 e5 le HS6
          have hs5 := HS2.out.ext h5
          have HS5 := Lib.hid (hs5.of_eq (show _ = row (.slice ua 0 uc) 0 3 1 [] * (own W1 * pts b9 smM.box) from by unfold rowJ; ac_rfl))
          clear hs5 h5 HS2 d0 d1 d2 d3 d4 d5 ld hent HS
          go_wp2_with (at_builtin; refine wpList_append_sep rfl _ _ 32 rfl i0 _ 8 Try.underlying32 HI.out HZ0.out HZ1.out HZ2.out rfl rfl HS5.out.allocD ⟨_, 0, none⟩ 1 1 [.int .i64 fv] rfl rfl (new_cells _ _ _) (by intro u hu; rw [List.mem_singleton] at hu; rw [hu]; rfl) (by simp only [maxLen]; omega) (by omega) ?_)
          intro v' w7 h7
          have h8 := rowJ_snoc (L := []) (y := fv) h7 rfl
          have H8 := Lib.hid (show Sat W1 (rowJ v' (if (1 : Nat) = 0 then [] else keptM _ fv) * own W1) w7 by rw [if_neg (by decide), HK.out]; exact (h8.of_eq (show _ = pts b9 smM.box * (rowJ v' ([] ++ [fv]) * own W1) by ac_rfl)).r)
          clear h7 h8 HS5
          go_wp2
          go_roundg 0
          case measure => have := HG.out; omega
          case rel => exact ⟨1, by omega, rfl, rfl, H8.out⟩
    · obtain rfl : k = 1 := by omega
      simp only [if_neg (show ¬ (1 : Nat) = 0 by decide)] at hs
      obtain ⟨X, hX⟩ : ∃ X, keptM z fv = X := ⟨_, rfl⟩
      have hXl : X.length ≤ 1 := by rw [← hX]; exact kept_len z fv
      rw [hX] at hs
      have HXX := Lib.hid hX
      obtain ⟨n, hn⟩ : ∃ n, X.length = n := ⟨_, rfl⟩
      obtain ⟨ua, uc, hu, -⟩ := (rowJ_rd hs).val
      rw [hn] at hXl hu
      subst hu
      have HN1 := Lib.hid hn
      have HSO := Lib.hid (sort_one (w := wr) (a := ua) (c := uc) hXl)
      have HCO := Lib.hid (fun w => compact_one (w := w) (a := ua) (c := uc) hXl)
      have hz := hs.alloc (.cells #[.int .i64 0] 3)
      have HZ := Lib.hid (Sat.row_whole (size := 1) 1 hz (by simp only [maxLen]; omega) rfl)
      have HR := Lib.hid (rowJ_rd hz.r)
      have HXE := Lib.hid hs.r.toExt
      clear hs hz hn hX HS hg HG HCALL HENT HCELL
      go_wp2_with fail
      with_reducible refine Calls.mono HSO.out ?_
      rintro e w5 ⟨rfl, rfl⟩
      go_wp2_with fail
      with_reducible refine Calls.mono (HCO.out _) ?_
      rintro e w6 ⟨rfl, rfl⟩
      go_wp2_with (at_builtin; refine wpList_append_rd rfl _ _ 32 rfl i0 _ 8 Try.underlying32 HI.out HZ0.out HZ1.out HZ2.out rfl (by omega) rfl HZ.out (.slice ua n uc) n (X.flatMap intC) rfl (by have h := HR.out.1; rw [HN1.out] at h; exact h) (int_one X) (by simp only [maxLen]; omega) (by omega) ?_)
      intro v' w7 h7
      have h8 : Sat W1 (rowJ v' (0 :: X) * (rowJ (.slice ua n uc) X * own W1)) w7 := by
        unfold rowJ
        rw [List.length_cons, HN1.out, Nat.add_comm n 1, List.flatMap_cons]
        unfold rowJ at h7
        rw [HN1.out] at h7
        exact h7
      have H8 := Lib.hid h8
      clear h7 h8 HZ
      go_wp2
      go_ret
      exact ⟨v', rfl, by rw [HXX.out]; exact rowJ_rd H8.out, HE1.out.trans H8.out.r.r.toExt⟩
end Go.Proofs.Ytembknlhocijkaa
