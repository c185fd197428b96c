/-
  The law's own small functions: num, pieces. Conditions: those that each theorem names.
-/
import Derived.Test.YtigjfbbgbiajbaaLgT
namespace Go.Proofs.Ytigjfbbgbiajbaa
open Go.RowKit Go.Sp
variable {w W : World} {x : FV} {F : Fnt} {A : HProp}

theorem num_any (a : Int) (w : World) : Calls Try.prog 5 #[.int .i64 a] w fun e w' => e = .returned (.int .i64 a) ∧ w' = w := by
  go_enter Try.func5, Try.ntmps5
  go_wp2
  go_ret
  exact ⟨rfl, rfl⟩

theorem eqA_pc (w : World) (a b : Pc) : (Op.equalIn 10000 43 a.val b.val).run Try.prog w = .ok (decide (a = b)) w := by
  obtain ⟨a1, a2, a3, a4⟩ := a
  obtain ⟨b1, b2, b3, b4⟩ := b
  have e : decide (Pc.mk a1 a2 a3 a4 = ⟨b1, b2, b3, b4⟩) = (a1 == b1 && (a2 == b2) && (a3 == b3) && (a4 == b4)) := by
    rw [Bool.eq_iff_iff]
    simp only [Pc.mk.injEq, decide_eq_true_eq, Bool.and_eq_true, beq_iff_eq]
    constructor
    · rintro ⟨rfl, rfl, rfl, rfl⟩; simp
    · rintro ⟨⟨⟨rfl, rfl⟩, rfl⟩, rfl⟩; simp
  rw [e]
  go_simp
  by_cases h1 : a1 = b1 <;> by_cases h2 : a2 = b2 <;> by_cases h3 : a3 = b3 <;> by_cases h4 : a4 = b4 <;> simp [h1, h2, h3, h4]
theorem run_neq_pc (w : World) (a b : Pc) : (binOp .neq 43 a.val b.val).run Try.prog w = .ok (.bool (!decide (a = b))) w := by
  simp only [binOp, Op.equal, Op.maxDepth, Sem.run_bind, eqA_pc, Result.andThen_ok, Sem.run_pure]

theorem take_eq_succP {U V : List Pc} {k : Nat} (h : U.take k = V.take k) (hx : k < U.length) (hy : k < V.length) (he : U[k] = V[k]) : U.take (k + 1) = V.take (k + 1) := by
  rw [List.take_succ_eq_append_getElem hx, List.take_succ_eq_append_getElem hy, h, he]
theorem PcAt.mk' {w : World} {b o : Nat} {m : Pc} (h : ∀ j u, m.cells[j]? = some u → w.cell? ⟨b, o + j, none⟩ = some u) :
    w.cell? ⟨b, o, none⟩ = some (.int .i64 m.kind) ∧ w.cell? ⟨b, o + 1, none⟩ = some (.int .u8 m.char) ∧ w.cell? ⟨b, o + 2, none⟩ = some (.int .i64 m.n) ∧ w.cell? ⟨b, o + 3, none⟩ = some (.int .i64 m.size) :=
  ⟨h 0 _ rfl, h 1 _ rfl, h 2 _ rfl, h 3 _ rfl⟩
set_option maxRecDepth 100000 in
set_option maxHeartbeats 4000000 in
theorem lpieces_any {u v : Value} {U V : List Pc} (hu : RdL Pc.cells 4 w u U) (hv : RdL Pc.cells 4 w v V) :
    Calls Try.prog 11 #[u, v] w fun e w' => e = .returned (.bool (decide (U = V))) ∧ Ext w w' := by
  have lu := hu.le
  have lv := hv.le
  obtain ⟨ua, uc, rfl, -⟩ := hu.val
  obtain ⟨va, vc, rfl, -⟩ := hv.val
  obtain ⟨n, hn⟩ : ∃ n, U.length = n := ⟨_, rfl⟩
  have HN := Lib.hid hn
  have HU := Lib.hid hu
  have HV := Lib.hid hv
  rw [hn] at lu ⊢
  by_cases hl : V.length = n
  · have HM := Lib.hid hl
    rw [hl]
    clear hn hl hu hv lv
    go_enter Try.func11, Try.ntmps11
    go_wp2_with fail
    go_loopg [5] n (fun gg s5 wx => ∃ k : Nat, k ≤ n ∧ gg = n - k ∧ s5 = .int .i64 k ∧ U.take k = V.take k ∧ Ext w wx)
    case atStart => exact ⟨0, Nat.zero_le _, rfl, rfl, rfl, Ext.refl w⟩
    case round =>
      obtain ⟨k, hk, hg, rfl, he, hx⟩ := hrel
      have HE := Lib.hid he
      have HG := Lib.hid hg
      by_cases hlt : k < n
      · have hki : (k : Int) < n := by omega
        have hkU : k < U.length := by rw [HN.out]; exact hlt
        have hkV : k < V.length := by rw [HM.out]; exact hlt
        have hx9 := hx.drew
        obtain ⟨W9, hW9⟩ : ∃ W9, wr.drew = W9 := ⟨_, rfl⟩
        rw [hW9] at hx9
        have hU := HU.out.ext hx9
        have hV := HV.out.ext hx9
        rw [HN.out.symm] at hlt
        obtain ⟨b, o, rfl, hcu, lb⟩ := hU.at pc_len (by omega) hkU
        obtain ⟨c, q, rfl, hcv, lc⟩ := hV.at pc_len (by omega) hkV
        have HX := Lib.hid hx9
        have HK := Lib.hid (show U[k] = V[k] → U.take (k + 1) = V.take (k + 1) from take_eq_succP he hkU hkV)
        have HK2 := Lib.hid (show ¬ U[k] = V[k] → U ≠ V from fun h h2 => h (by subst h2; rfl))
        generalize U[k] = m at *
        generalize V[k] = m' at *
        obtain ⟨c0, c1, c2, c3⟩ := PcAt.mk' hcu
        obtain ⟨d0, d1, d2, d3⟩ := PcAt.mk' hcv
        have hrun := fun w => run_neq_pc w m m'
        obtain ⟨m1, m2, m3, m4⟩ := m
        obtain ⟨n1, n2, n3, n4⟩ := m'
        simp only [Pc.val] at c0 c1 c2 c3 d0 d1 d2 d3 hrun
        clear hcu hcv hU hV hx hx9 he hg hkU hkV hlt
        by_cases hq : (⟨m1, m2, m3, m4⟩ : Pc) = ⟨n1, n2, n3, n4⟩
        · have hs := HK.out hq
          have HS := Lib.hid hs
          simp only [hq, decide_true, Bool.not_true] at hrun
          clear hs hq
          go_wp2_with fail
          refine wp_region_tail (fun w' => w' = W9) 8 (by kernel_rfl) (by kernel_rfl) hW9 ?_
          clear hW9
          simp only [List.take_succ_cons, List.take_zero, List.drop_succ_cons, List.drop_zero]
          iterate 8
            with_reducible refine wpQuiet_step ?_
            intro K hK
            go_simp
            first
              | (with_reducible refine hK _ ?_
                 clear hK K)
              | (rw [if_neg (by intro h; cases h)]
                 with_reducible refine hK _ ?_
                 clear hK K)
              | (refine Exists.intro _ ⟨fun w9 hw9 => ?_, ?_⟩
                 rotate_left 1
                 with_reducible refine hK _ ?_
                 clear hK K
                 rotate_left 1
                 · subst hw9; go_simp; try with_reducible rfl)
          refine wpQuiet_nil ?_
          rintro w17 rfl
          go_wp2
          go_roundg (n - (k + 1))
          case measure => have := HG.out; omega
          case rel => exact ⟨k + 1, by omega, rfl, by go_num, HS.out, HX.out⟩
        · have hs := HK2.out hq
          have HS := Lib.hid hs
          simp only [hq, decide_false, Bool.not_false] at hrun
          clear hs hq
          go_wp2_with fail
          refine wp_region_tail (fun w' => w' = W9) 8 (by kernel_rfl) (by kernel_rfl) hW9 ?_
          clear hW9
          simp only [List.take_succ_cons, List.take_zero, List.drop_succ_cons, List.drop_zero]
          iterate 8
            with_reducible refine wpQuiet_step ?_
            intro K hK
            go_simp
            first
              | (with_reducible refine hK _ ?_
                 clear hK K)
              | (rw [if_neg (by intro h; cases h)]
                 with_reducible refine hK _ ?_
                 clear hK K)
              | (refine Exists.intro _ ⟨fun w9 hw9 => ?_, ?_⟩
                 rotate_left 1
                 with_reducible refine hK _ ?_
                 clear hK K
                 rotate_left 1
                 · subst hw9; go_simp; try with_reducible rfl)
          refine wpQuiet_nil ?_
          rintro w17 rfl
          go_wp2
          go_ret
          exact ⟨by rw [decide_eq_false HS.out]; rfl, HX.out⟩
      · obtain rfl : k = n := by omega
        have HX := Lib.hid hx
        clear hx he hg
        go_wp2
        go_ret
        have he := HE.out
        rw [List.take_of_length_le (by rw [HN.out]; omega), List.take_of_length_le (by rw [HM.out]; omega)] at he
        exact ⟨by rw [decide_eq_true he]; rfl, HX.out⟩
  · have hne : U ≠ V := fun h => hl (by rw [← h]; exact hn)
    rw [decide_eq_false hne]
    obtain ⟨m, hm⟩ : ∃ m, V.length = m := ⟨_, rfl⟩
    rw [hm] at hl ⊢
    have hle : ¬ (n : Int) = m := by omega
    clear hn hm hl hu hv hne HU HV HN
    go_enter Try.func11, Try.ntmps11
    go_wp2
    go_ret
    exact ⟨rfl, Ext.refl w⟩
end Go.Proofs.Ytigjfbbgbiajbaa
