/-
  The law MacrosTogether: its small functions. Conditions: those that each theorem names.
-/
import Derived.Test.YtlbebcioabfbgaaMacAF
import Derived.Test.YtlbebcioabfbgaaMacAD
namespace Go.Proofs.Ytlbebcioabfbgaa
open Go.RowKit Go.Sp
variable {W w w' : World} {F : HProp}

/-- 's[m:]', be it at the capacity's end -/
theorem RdT.dropI {a : Option Addr} {n c m : Nat} {L : List Tok} (h : RdT w (.slice a n c) L) (hm : m ≤ L.length) : RdT w (sliced a m n c 3) (L.drop m) := by
  obtain ⟨hn, hc⟩ := h.cap
  subst hn
  rcases Nat.lt_or_ge m L.length with h1 | h1
  · obtain ⟨b, off, rfl, -⟩ := h.at h1
    have h2 := h.drop hm
    have e : c ≠ m := by omega
    simpa [sliced, e, Addr.add_lit] using h2
  · have e : m = L.length := by omega
    subst e
    rw [List.drop_length]
    unfold sliced
    rw [Nat.sub_self]
    exact RdT.empty _ _ _

theorem RdT.midI {a : Option Addr} {n c l m : Nat} {L : List Tok} (h : RdT w (.slice a n c) L) (hl : l ≤ m) (hm : m ≤ L.length) : RdT w (sliced a l m c 3) ((L.drop l).take (m - l)) := by
  obtain ⟨hn, hc⟩ := h.cap
  have h2 := (h.dropI (m := l) (by omega))
  unfold sliced at h2 ⊢
  exact RdT.take h2 (by rw [List.length_drop]; omega)

theorem from_any (L D : List Tok) (v u : Value) (w : World) (hv : RdT w v L) (hu : RdT w u D) :
    Calls Try.prog 30 #[v, u] w fun e w' => e = .returned (.bool (D.isPrefixOf L)) ∧ ∃ q, w.drewN q = w' := by
  obtain ⟨n, hn⟩ : ∃ n, L.length = n := ⟨_, rfl⟩
  obtain ⟨m, hm⟩ : ∃ m, D.length = m := ⟨_, rfl⟩
  obtain ⟨a, c, rfl, hc⟩ := hv.capd
  obtain ⟨a', c', rfl, hc'⟩ := hu.capd
  have ln := hv.le
  have lm := hu.le
  have HPT := Lib.hid (prefix_take D L)
  rw [hn, hm] at HPT
  rw [hn] at hv hc ln ⊢
  rw [hm] at hu hc' lm ⊢
  by_cases hle : m ≤ n
  · have q1 : (m : Int) ≤ (n : Int) := by omega
    have q2 : (m : Int) ≤ (c : Int) := by omega
    have HT := Lib.hid (hv.take (m := m) (by omega))
    have HU := Lib.hid hu
    have HD := Lib.hid (show D.isPrefixOf L = decide (L.take m = D) by rw [HPT.out]; simp [hle])
    clear hv hu hle hn hm
    go_enter Try.func30, Try.ntmps30
    go_wp2_with fail
    refine Calls.mono (sameT_any (L.take m) D _ _ _ HT.out HU.out) ?_
    rintro e w' ⟨rfl, q, rfl⟩
    go_wp2
    go_ret
    exact ⟨by rw [HD.out]; rfl, q, rfl⟩
  · have q1 : ¬ (m : Int) ≤ (n : Int) := by omega
    have HD := Lib.hid (show D.isPrefixOf L = false by rw [HPT.out]; simp [hle])
    clear hv hu hle hn hm
    rw [HD.out]
    go_enter Try.func30, Try.ntmps30
    go_wp2
    go_ret
    exact ⟨rfl, 0, rfl⟩

theorem from_is {b : Bool} {L D : List Tok} (hb : D.isPrefixOf L = b) (v u : Value) (w : World) (hv : RdT w v L) (hu : RdT w u D) :
    Calls Try.prog 30 #[v, u] w fun e w' => e = .returned (.bool b) ∧ Ext w w' := by
  refine Calls.mono (from_any L D v u w hv hu) ?_
  rintro e w' ⟨rfl, q, rfl⟩
  exact ⟨by rw [hb], (Ext.refl _).drewN⟩
theorem from_qis {b : Bool} {L D : List Tok} (hb : D.isPrefixOf L = b) (v u : Value) (w : World) (hv : RdT w v L) (hu : RdT w u D) :
    Calls Try.prog 30 #[v, u] w fun e w' => e = .returned (.bool b) ∧ ∃ q, w.drewN q = w' := hb ▸ from_any L D v u w hv hu
theorem balR_b {b : Bool} {L : List Tok} (hb : bal L = b) (v : Value) (w : World) (hv : RdT w v L) : Calls Try.prog 28 #[v] w fun e w' => e = .returned (.bool b) ∧ Ext w w' := hb ▸ balR_any L v w hv

set_option maxRecDepth 100000 in
set_option maxHeartbeats 8000000 in
theorem shorter_no (S D : List Tok) (v u : Value) (w : World) (h : NoShorter S D) (hv : RdT w v S) (hu : RdT w u D) (hS : S.length ≤ 4000000000) (hD : D.length ≤ 4000000000) :
    Calls Try.prog 31 #[v, u] w fun e w' => e = .returned (.bool false) ∧ Ext w w' := by
  obtain ⟨n, hn⟩ : ∃ n, S.length = n := ⟨_, rfl⟩
  obtain ⟨m, hm⟩ : ∃ m, D.length = m := ⟨_, rfl⟩
  obtain ⟨a, c, rfl, hc⟩ := hv.capd
  obtain ⟨a', c', rfl, hc'⟩ := hu.capd
  rw [hn] at hv hc hS ⊢
  rw [hm] at hu hc' hD ⊢
  have HV := Lib.hid hv
  have HU := Lib.hid hu
  have HN := Lib.hid hn
  have HM := Lib.hid hm
  have HH := Lib.hid h
  clear hv hu h hn hm
  go_enter Try.func31, Try.ntmps31
  go_wp2
  go_loopw [5] (fun i wr => ∃ k : Nat, k ≤ n ∧ i = .int .i64 k ∧ Ext w wr) (fun i _ => n - (intOf i).toNat)
  case atStart => exact ⟨0, by omega, rfl, Ext.refl _⟩
  case round =>
    obtain ⟨k, hk, rfl, hx⟩ := hrel
    have HX := Lib.hid hx
    clear hx
    by_cases hlt : k + m < n
    · have lt1 : (k : Int) + (m : Int) < (n : Int) := by omega
      have lt2 : (k : Int) ≤ (c : Int) := by omega
      have lt3 : (k : Int) ≤ (n : Int) := by omega
      have HT := Lib.hid ((HV.out.ext HX.out).take (m := k) (by rw [HN.out]; omega))
      have HDr := Lib.hid ((HV.out.ext HX.out).dropI (m := k) (by rw [HN.out]; omega))
      have e1 : c ≠ k := by omega
      obtain ⟨b0, hb0⟩ : ∃ b0, bal (S.take k) = b0 := ⟨_, rfl⟩
      have HB := Lib.hid (balR_b hb0 _ _ HT.out)
      have HF := Lib.hid (show b0 = true → D.isPrefixOf (S.drop k) = false from fun h => HH.out k (by rw [HM.out, HN.out]; exact hlt) (by rw [hb0]; exact h))
      clear hb0
      go_wp2_with fail
      refine Calls.mono HB.out ?_
      rintro e w1 ⟨rfl, hx⟩
      cases b0
      · have HX1 := Lib.hid (HX.out.trans hx)
        clear hx
        go_wp2
        go_roundw
        case rel => exact ⟨k + 1, by omega, by go_num, HX1.out⟩
        case measure => simp [intOf]; omega
      · have HX1 := Lib.hid (HX.out.trans hx)
        have HFR := Lib.hid (from_is (HF.out rfl) _ _ _ (HDr.out.ext hx) (HU.out.ext HX1.out))
        clear hx
        go_wp2_with fail
        refine Calls.mono (by simpa [sliced, e1] using HFR.out) ?_
        rintro e w2 ⟨rfl, hx⟩
        have HX2 := Lib.hid (HX1.out.trans hx)
        clear hx
        go_wp2
        go_roundw
        case rel => exact ⟨k + 1, by omega, by go_num, HX2.out⟩
        case measure => simp [intOf]; omega
    · have lt1 : ¬ (k : Int) + (m : Int) < (n : Int) := by omega
      go_wp2
      go_ret
      exact ⟨rfl, HX.out⟩

/-- the parts of a pattern: what stands ahead of the first place, and each place's delimiters -/
def partsL (P : List Tok) : List (List Tok) := (parts P).1 :: (parts P).2

/-- what the last part and the rest of the pattern make -/
def partsAt (A : List (List Tok)) (X : List Tok) (P : List Tok) : List (List Tok) := A ++ (X ++ (parts P).1) :: (parts P).2

theorem partsAt_plain {A : List (List Tok)} {X P : List Tok} {k : Nat} (h : k < P.length) (hc : P[k].cat ≠ 17) : partsAt A X (P.drop k) = partsAt A (X ++ [P[k]]) (P.drop (k + 1)) := by
  unfold partsAt
  rw [parts_plain k h hc]
  simp
theorem partsAt_place {A : List (List Tok)} {X P : List Tok} {k : Nat} (h : k < P.length) (hc : P[k].cat = 17) : partsAt A X (P.drop k) = partsAt (A ++ [X]) [] (P.drop (k + 1)) := by
  unfold partsAt
  rw [parts_place k h hc]
  simp
theorem partsAt_end {A : List (List Tok)} {X P : List Tok} {k : Nat} (h : P.length ≤ k) : partsAt A X (P.drop k) = A ++ [X] := by
  unfold partsAt
  rw [List.drop_of_length_le h]
  simp [parts]

theorem rowT_none : rowT (.slice none 0 0) [] = emp := row_nil_eq

set_option maxRecDepth 100000 in
set_option maxHeartbeats 8000000 in
theorem parts_any (P : List Tok) (vp vb : Value) (long : Bool) (w : World) (hp : RdT w vp P) (hnP : P.length ≤ 1048576) :
    Calls Try.prog 29 #[.agg #[vp, vb, .bool long]] w fun e w' => ∃ v us, e = .returned v ∧ us.length = (partsL P).length ∧ Sat w (rowUU v us (partsL P) * own w) w' := by
  obtain ⟨i0, hi, hz0, hz1, hz2⟩ := info_parts info_tok
  obtain ⟨j0, hj, hy0, hy1, hy2⟩ := info_parts info_sl
  have HI := Lib.hid hi
  have HZ0 := Lib.hid hz0
  have HZ1 := Lib.hid hz1
  have HZ2 := Lib.hid hz2
  have HJ := Lib.hid hj
  have HY0 := Lib.hid hy0
  have HY1 := Lib.hid hy1
  have HY2 := Lib.hid hy2
  clear hi hz0 hz1 hz2 hj hy0 hy1 hy2
  obtain ⟨np, hnp⟩ : ∃ np, P.length = np := ⟨_, rfl⟩
  obtain ⟨ap, cp, hvp, hcp⟩ := hp.capd
  rw [hnp] at hvp hnP hcp
  subst hvp
  have HP := Lib.hid hp
  have NP := Lib.hid hnp
  clear hp hnp
  obtain ⟨mo, hmo⟩ : ∃ mo : Obj, mo = .cells #[.slice ap np cp, vb, .bool long] 29 := ⟨_, rfl⟩
  have h1 := ((Sat.start w).alloc (.cells #[.slice ap np cp, vb, .bool long] 29)).alloc (.cells #[.slice none 0 0] 22)
  have e1 : (w.alloc (.cells #[.slice ap np cp, vb, .bool long] 29)).heap.size = w.heap.size + 1 := by simp
  rw [e1] at h1
  obtain ⟨bm, hbm⟩ : ∃ bm, w.heap.size = bm := ⟨_, rfl⟩
  have H1 := Lib.hid (show Sat w (row (.slice (some ⟨w.heap.size + 1, 0, none⟩) 1 1) ([] ++ [([] : List Tok)]).length 22 1 ([] ++ [.slice none 0 0]) * (rowT (.slice none 0 0) [] * (rows [] [] * (pts w.heap.size (.cells #[.slice ap np cp, vb, .bool long] 29 (0, 0)) * own w)))) ((w.alloc (.cells #[.slice ap np cp, vb, .bool long] 29)).alloc (.cells #[.slice none 0 0] 22)) from by
    rw [rowT_none, emp_star]
    show Sat w (_ * (emp * _)) _
    rw [emp_star]
    exact h1.row_whole 1 (size := 1) (by simp [maxLen]) (by simp))
  clear h1 e1 hbm hmo
  go_enter Try.func29, Try.ntmps29
  go_wp2
  go_loopw [3, 4] (fun o i wr => ∃ (k : Nat) (A : List (List Tok)) (X : List Tok) (us : List Value) (u ov : Value), k ≤ np ∧ A.length ≤ k ∧ X.length ≤ k ∧ us.length = A.length ∧ ov = o ∧ i = .int .i64 k ∧ partsAt A X (P.drop k) = partsL P ∧
    Sat w (row o (A ++ [X]).length 22 1 (us ++ [u]) * (rowT u X * (rows us A * (pts w.heap.size (.cells #[.slice ap np cp, vb, .bool long] 29 (0, 0)) * own w)))) wr) (fun _ i _ => np - (intOf i).toNat)
  case atStart => exact ⟨0, [], [], [], .slice none 0 0, _, by omega, by simp, by simp, rfl, rfl, rfl, by simp [partsAt, partsL], H1.out⟩
  case round =>
    obtain ⟨k, A, X, us, u, o, hk, hA, hX, hul, rfl, rfl, ha, hx⟩ := hrel
    have HA := Lib.hid ha
    have HX := Lib.hid hx
    have HUL := Lib.hid hul
    have hst := HX.out.r.r.r
    have m0 := hst.cell (i := 0) rfl
    have lm := hst.lt
    obtain ⟨na, hna⟩ : ∃ na, A.length = na := ⟨_, rfl⟩
    have HNA := Lib.hid hna
    have hr := HX.out.row_cases.2
    obtain ⟨nb, hnb⟩ : ∃ nb, na + 1 = nb := ⟨_, rfl⟩
    obtain ⟨go, co, rfl, hcc⟩ : ∃ go co, o = .slice (some ⟨go, 0, none⟩) nb co ∧ nb ≤ co := by
      rcases hr with ⟨_, h0, _⟩ | ⟨g, cap, cur, h1, h2, _⟩
      · simp at h0
      · rw [List.length_append, hna, List.length_singleton, hnb] at h1 h2
        exact ⟨g, cap, h1, h2⟩
    have hlen : (A ++ [X]).length = nb := by rw [List.length_append, hna, List.length_singleton, hnb]
    have HLEN := Lib.hid hlen
    rw [hlen] at HX
    rw [hna] at hA hul
    have hnb2 : nb ≤ k + 1 := by omega
    have hna1 : na + 1 ≤ nb := by omega
    have hna2 : nb ≤ na + 1 := by omega
    clear hlen hnb hna
    clear ha hx hst hr
    by_cases hlt : k < np
    · have hlt' : k < P.length := by rw [NP.out]; exact hlt
      obtain ⟨b', off, hab, ⟨c0, c1, c2⟩, hb'⟩ := (HP.out.ext HX.out.r.r.r.r.toExt).at hlt'
      cases hab
      have lt1 : (k : Int) < (np : Int) := by omega
      by_cases h17 : P[k].cat = 17
      · have q1 : (P[k].cat == 17) = true := by simp [h17]
        have HAN := Lib.hid ((partsAt_place (A := A) (X := X) hlt' h17).symm.trans HA.out)
        generalize P[k] = t at *
        clear h17
        go_wp2_with (at_builtin; refine wpList_append_rd rfl _ _ 39 rfl j0 _ 24 Try.underlying39 HJ.out HY0.out HY1.out HY2.out rfl (by omega) rfl HX.out.allocD _ 1 [.slice none 0 0] rfl (rd_new _ _ _) (by simp [Value.oneCell']) ?_ ?_ ?_)
        · simp [maxLen]; omega
        · omega
        intro v' w1 h6
        have H6 := Lib.hid h6
        clear h6 m0 lm
        go_wp2
        go_roundw
        case rel =>
          refine ⟨k + 1, A ++ [X], [], us ++ [u], .slice none 0 0, _, by omega, by simp [HNA.out]; omega, by simp, by simp [HUL.out], rfl, by go_num, HAN.out, ?_⟩
          have h := H6.out
          have e1 : (A ++ [X] ++ [([] : List Tok)]).length = nb + 1 := by rw [List.length_append, HLEN.out]; rfl
          rw [rows_snoc us A u X HUL.out, rowT_none, emp_star, e1]
          simp only [List.append_assoc, List.cons_append, List.nil_append] at h ⊢
          exact h.of_eq (by ac_rfl)
        case measure => simp [intOf]; omega
      · have q1 : (P[k].cat == 17) = false := by simp [h17]
        have HAN := Lib.hid ((partsAt_plain (A := A) (X := X) hlt' h17).symm.trans HA.out)
        generalize P[k] = t at *
        clear h17
        have hnb9 : nb ≤ 4000000000 := by omega
        have n1 : 0 ≤ (nb : Int) - 1 := by omega
        have n1' : 1 ≤ (nb : Int) := by omega
        have n2 : (nb : Int) - 1 < (nb : Int) := by omega
        have n3 : ((nb : Int) - 1).toNat = na := by omega
        have hcu : wr.cell? ⟨go, na, none⟩ = some u := HX.out.row_cell (xs := us ++ [u]) (by rw [List.getElem?_append_right (by rw [HUL.out, HNA.out]; omega), HUL.out, HNA.out]; simp)
        have hfu : wr.frozen? ⟨go, na, none⟩ = false := HX.out.row_free
        have hlo : go < wr.heap.size := World.block_lt_of_cell? wr _ hcu
        obtain ⟨ua, uc, rfl, -⟩ := (rowT_rd HX.out.r).capd
        obtain ⟨nx, hnx⟩ : ∃ nx, X.length = nx := ⟨_, rfl⟩
        have HNX := Lib.hid hnx
        have HS8 := Lib.hid (show ∀ q, Sat w (row (.slice ua nx uc) nx 46 3 (flat X) * (row (.slice (some ⟨go, 0, none⟩) nb co) nb 22 1 (us ++ [.slice ua nx uc]) * (rows us A * (pts w.heap.size (.cells #[.slice (some ⟨b', off, none⟩) np cp, vb, .bool long] 29 (0, 0)) * own w)))) (wr.drewN q) from fun q => by
          have h := HX.out.rot.drewN (n := q)
          rw [hnx] at h
          unfold rowT at h
          rw [hnx] at h
          exact h)
        rw [hnx] at hcu hX
        clear hnx
        go_wp2_with fail
        go_region_law
          (refine step_append_rd rfl _ _ 22 rfl i0 _ 32 Try.underlying22 HI.out HZ0.out HZ1.out HZ2.out rfl (by omega) rfl (HS8.out 1).allocD _ 1 (flat [t]) rfl (rdT_new _ [t] _ _ _ rfl rfl rfl (by simp)).1 (flat_one [t]) ?_ ?_ ?_
           · simp [maxLen]; omega
           · omega
           intro v1 w1 h7 _
           obtain ⟨ya, yc, rfl, -⟩ := h7.row_val
           have H7 := Lib.hid h7
           have c41 : w1.cell? ⟨go, na, none⟩ = some (.slice ua nx uc) := h7.r.row_cell (xs := us ++ [.slice ua nx uc]) (by rw [List.getElem?_append_right (by rw [HUL.out, HNA.out]; omega), HUL.out, HNA.out]; simp)
           have f41 : w1.frozen? ⟨go, na, none⟩ = false := h7.r.row_free
           have l41 : go < w1.heap.size := World.block_lt_of_cell? w1 _ c41
           clear h7)
        all_goals
          go_wp2
          go_roundw
          case rel =>
            refine ⟨k + 1, A, X ++ [t], us, .slice ya (nx + 1) yc, _, by omega, by rw [HNA.out]; omega, by simp; rw [HNX.out]; omega, HUL.out, rfl, by go_num, HAN.out, ?_⟩
            have h := H7.out.rot.row_set (i := na) (u := .slice ya (nx + 1) yc)
            have e : (us ++ [Value.slice ua nx uc]).set na (.slice ya (nx + 1) yc) = us ++ [.slice ya (nx + 1) yc] := by
              rw [List.set_append_right _ _ (by rw [HUL.out, HNA.out]; omega), HUL.out, HNA.out]; simp
            rw [e] at h
            have h2 := h.rot
            have h3 := (rowT_app (acc := X) (X := [t]) h2 (by rw [HNX.out]; rfl)).rot
            have e2 : (A ++ [X ++ [t]]).length = nb := by rw [← HLEN.out]; simp
            rw [e2]
            exact h3
          case measure => simp [intOf]; omega
    · have hkn : np = k := by omega
      subst hkn
      have HE := Lib.hid (show A ++ [X] = partsL P by rw [← HA.out]; exact (partsAt_end (by rw [NP.out]; exact Nat.le_refl _)).symm)
      go_wp2
      go_ret
      refine ⟨_, us ++ [u], rfl, by rw [← HE.out]; simp [HUL.out], ?_⟩
      rw [← HE.out]
      have h := HX.out
      unfold rowUU
      rw [rows_snoc us A u X HUL.out, HLEN.out]
      generalize (Obj.cells #[.slice ap np cp, vb, .bool long] 29 (0, 0)) = mo at h
      exact (h.of_eq (show _ = pts w.heap.size mo * (row (.slice (some ⟨go, 0, none⟩) nb co) nb 22 1 (us ++ [u]) * (rows us A * rowT u X) * own w) by ac_rfl)).r

end Go.Proofs.Ytlbebcioabfbgaa
