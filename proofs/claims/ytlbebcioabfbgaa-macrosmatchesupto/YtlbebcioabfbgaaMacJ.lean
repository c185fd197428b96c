/-
  Define of the program. Conditions: those that the theorem names.
-/
import Derived.Test.YtlbebcioabfbgaaMacI
namespace Go.Proofs.Ytlbebcioabfbgaa
open Go.RowKit Go.Sp
variable {W w w' : World} {F : HProp}

theorem nil2 (h : Sat w (own w) w') : Sat w (rowT (.slice none 0 0) [] * (rowT (.slice none 0 0) [] * own w)) w' := h.row_nil.row_nil

theorem rowT_snoc {v : Value} {acc : List Tok} {t : Tok} {n : Nat} {xs : List Value} (h : Sat W (row v n 46 3 xs * F) w) (hn : n = acc.length + 1) (hx : xs = flat acc ++ t.cells) : Sat W (rowT v (acc ++ [t]) * F) w := by
  subst hn hx
  have e : flat (acc ++ [t]) = flat acc ++ t.cells := by rw [flat_append]; simp [flat]
  unfold rowT
  rw [e, List.length_append]
  exact h

abbrev Z25 : Obj := .cells #[.slice none 0 0, .slice none 0 0, .bool false] 25

theorem any_drop (L : List Tok) (f : Tok → Bool) (k : Nat) (h : k < L.length) : (L.drop k).any f = (f L[k] || (L.drop (k + 1)).any f) := by
  rw [List.drop_eq_getElem_cons h, List.any_cons]
theorem all_drop (L : List Tok) (f : Tok → Bool) (k : Nat) (h : k < L.length) : (L.drop k).all f = (f L[k] && (L.drop (k + 1)).all f) := by
  rw [List.drop_eq_getElem_cons h, List.all_cons]

theorem define_6 {P B : List Tok} {long : Bool} (h : ¬ (P.length ≤ 20000 ∧ B.length ≤ 20000)) : define P B long = .no 6 := by simp only [define, if_pos h]
theorem define_160 {P B : List Tok} {long : Bool} (h : P.length ≤ 20000 ∧ B.length ≤ 20000) (h2 : (P.all rightB && B.all rightB) = false) : define P B long = .no 160 := by
  rw [define, if_neg (by simpa using h), if_pos h2]
theorem define_173 {P B : List Tok} {long : Bool} (h : P.length ≤ 20000 ∧ B.length ≤ 20000) (h2 : (P.all rightB && B.all rightB) = true) (h3 : P.any isBrace = true ∨ bal B = false) : define P B long = .no 173 := by
  rw [define, if_neg (by simpa using h), if_neg (by rw [h2]; simp)]
  by_cases h4 : P.any isBrace = true
  · rw [if_pos h4]
  · rw [if_neg h4, if_pos (by rcases h3 with h3 | h3; exact absurd h3 h4; exact h3)]
theorem define_rest {P B : List Tok} {long : Bool} (h : P.length ≤ 20000 ∧ B.length ≤ 20000) (h2 : (P.all rightB && B.all rightB) = true) (h3 : P.any isBrace = false) (h4 : bal B = true) :
    define P B long = match defP 0 P with
    | none => .no 170
    | some x => match defB x.2.1 B with
      | none => .no 170
      | some B' => if 20000 < (bodyO x.2.2 B').length then .no 6 else ⟨x.1, bodyO x.2.2 B', long, 0⟩ := by
  rw [define, if_neg (by simpa using h), if_neg (by rw [h2]; simp), if_neg (by rw [h3]; simp), if_neg (by rw [h4]; simp)]
  rfl

theorem new_cells1 (w : World) (o : Obj) (cs : Array Value) (e : TypeId) : ∀ (j : Nat) (u : Value), cs.toList[j]? = some u → ((w.alloc o).alloc (.cells cs e)).cell? ((⟨w.heap.size + 1, 0, none⟩ : Addr).add j) = some u := by
  have h := new_cells (w.alloc o) cs e
  rw [show (w.alloc o).heap.size = w.heap.size + 1 by simp] at h
  exact h

theorem digit_at (L : List Tok) (v : Value) (i : Nat) (j : Int) (w : World) (hj : j = (i : Nat)) (hv : RdT w v L) : Calls Try.prog 40 #[v, .int .i64 j] w fun e w' => e = .returned (.int .i64 (digitAt L i)) ∧ w = w' := by
  subst hj
  exact digit_any L v i w hv

/-- what the call leaves -/
def DefPost (P B : List Tok) (long : Bool) (w : World) (e : Ending) (w' : World) : Prop :=
  ∃ u v, e = .returned (.tuple #[.agg #[u, v, .bool (define P B long).long], .int .i64 (define P B long).e]) ∧ Sat w (rowT u (define P B long).P * (rowT v (define P B long).B * own w)) w'

theorem DefPost.no {P B : List Tok} {long : Bool} {k : Int} (h : define P B long = .no k) (hs : Sat w (own w) w') : DefPost P B long w (.returned (.tuple #[.agg #[.slice none 0 0, .slice none 0 0, .bool false], .int .i64 k])) w' :=
  ⟨.slice none 0 0, .slice none 0 0, by rw [h]; rfl, by rw [h]; exact nil2 hs⟩





set_option maxRecDepth 100000 in
set_option maxHeartbeats 8000000 in
theorem define_any (P B : List Tok) (vp vb : Value) (long : Bool) (w : World) (hp : RdT w vp P) (hb : RdT w vb B) (hnP : P.length ≤ 4000000000) (hnB : B.length ≤ 4000000000) :
    Calls Try.prog 12 #[vp, vb, .bool long] w (DefPost P B long w) := by
  obtain ⟨i0, hi, hz0, hz1, hz2⟩ := info_parts info_tok
  have HI := Lib.hid hi
  have HZ0 := Lib.hid hz0
  have HZ1 := Lib.hid hz1
  have HZ2 := Lib.hid hz2
  clear hi hz0 hz1 hz2
  obtain ⟨np, hnp⟩ : ∃ np, P.length = np := ⟨_, rfl⟩
  obtain ⟨nb, hnb⟩ : ∃ nb, B.length = nb := ⟨_, rfl⟩
  have HP := Lib.hid hp
  have HB := Lib.hid hb
  obtain ⟨ap, cp, hvp, hcp⟩ := hp.capd
  obtain ⟨ab, cb, hvb, hcb⟩ := hb.capd
  rw [hnp] at hvp hnP hcp
  rw [hnb] at hvb hnB hcb
  subst hvp hvb
  have NP := Lib.hid hnp
  have NB := Lib.hid hnb
  clear hp hb hnp hnb
  have h1 := (Sat.start w).alloc Z25
  by_cases hbig : np ≤ 20000 ∧ nb ≤ 20000
  · have HSZ := Lib.hid (show P.length ≤ 20000 ∧ B.length ≤ 20000 by rw [NP.out, NB.out]; exact hbig)
    obtain ⟨hb1, hb2⟩ := hbig
    have hb1' : ((np : Int) ≤ 20000) := by omega
    have hb2' : ((nb : Int) ≤ 20000) := by omega
    have h2 := h1.alloc (.cells #[.slice ap np cp, .slice ab nb cb] 22)
    rw [show (w.alloc Z25).heap.size = w.heap.size + 1 by simp] at h2
    go_enter Try.func12, Try.ntmps12
    go_wp2
    generalize hrr : w.heap.size = rr at *
    obtain ⟨q, hq⟩ : ∃ q, rr + 1 = q := ⟨_, rfl⟩
    rw [hq] at h2 ⊢
    clear hrr hq h1
    go_loopw [9, 37] (fun l i wr => ∃ k : Nat, k ≤ 2 ∧ i = .int .i64 k ∧ (1 ≤ k → P.all rightB = true) ∧ (2 ≤ k → B.all rightB = true) ∧ Sat w (pts q (.cells #[.slice ap np cp, .slice ab nb cb] 22 (0, 0)) * (pts rr Z25 * own w)) wr) (fun _ i _ => 2 - (intOf i).toNat)
    case atStart => exact ⟨0, by omega, rfl, by omega, by omega, h2⟩
    case round =>
      obtain ⟨k, hk, rfl, hr1, hr2, hx⟩ := hrel
      have HR1 := Lib.hid hr1
      have HR2 := Lib.hid hr2
      have HX := Lib.hid hx
      clear hr1 hr2 hx
      by_cases hlt : k < 2
      · have hX : ∃ (X : List Tok) (ax : Option Addr) (nx cx : Nat), RdT w (.slice ax nx cx) X ∧ X.length = nx ∧ nx ≤ 20000 ∧ wr.cell? ⟨q, k, none⟩ = some (.slice ax nx cx) ∧ (X.all rightB = true → (1 ≤ k + 1 → P.all rightB = true) ∧ (2 ≤ k + 1 → B.all rightB = true)) ∧ (X.all rightB = false → (P.all rightB && B.all rightB) = false) := by
          rcases (by omega : k = 0 ∨ k = 1) with rfl | rfl
          · exact ⟨P, ap, np, cp, HP.out, NP.out, hb1, HX.out.cell rfl, fun h => ⟨fun _ => h, by omega⟩, fun h => by rw [h]; rfl⟩
          · exact ⟨B, ab, nb, cb, HB.out, NB.out, hb2, HX.out.cell rfl, fun h => ⟨fun _ => HR1.out (by omega), fun _ => h⟩, fun h => by rw [h]; simp⟩
        obtain ⟨X, ax, nx, cx, hX1, hX2, hX3, m0, hX4, hX5⟩ := hX
        have HXR := Lib.hid hX1
        have NX := Lib.hid hX2
        have HX4 := Lib.hid hX4
        have HX5 := Lib.hid hX5
        clear hX1 hX2 hX4 hX5
        have lt1 : (k : Int) < 2 := by omega
        have hqb := HX.out.lt
        obtain ⟨wo, rfl⟩ : ∃ wo : World, wo = wr := ⟨_, rfl⟩
        go_wp2
        go_loopw [43] (fun i wr => ∃ j : Nat, j ≤ nx ∧ i = .int .i64 j ∧ (X.drop j).all rightB = X.all rightB ∧ Sat w (pts q (.cells #[.slice ap np cp, .slice ab nb cb] 22 (0, 0)) * (pts rr Z25 * own w)) wr) (fun i _ => nx - (intOf i).toNat)
        case atStart => exact ⟨0, by omega, rfl, rfl, HX.out⟩
        case round =>
          obtain ⟨j, hj, rfl, ha, hx⟩ := hrel
          have HA := Lib.hid ha
          have HXX := Lib.hid hx
          clear ha hx
          by_cases hlt2 : j < nx
          · obtain ⟨b, off, hab, ⟨c0, c1, c2⟩, hb⟩ := (HXR.out.ext HXX.out.r.extR).at (i := j) (by rw [NX.out]; exact hlt2)
            cases hab
            have HT := Lib.hid (all_drop X rightB j (by rw [NX.out]; exact hlt2))
            generalize X[j]'(by rw [NX.out]; exact hlt2) = t at *
            have lt2 : (j : Int) < (nx : Int) := by omega
            have r0 := HXX.out.rot.cell (i := 0) rfl
            have r1 := HXX.out.rot.cell (i := 1) rfl
            have r2 := HXX.out.rot.cell (i := 2) rfl
            have f0 := HXX.out.rot.free (i := 0)
            have f1 := HXX.out.rot.free (i := 1)
            have f2 := HXX.out.rot.free (i := 2)
            have lr := HXX.out.rot.lt
            cases hrt : rightB t
            · have HE := Lib.hid (define_160 (long := long) HSZ.out (HX5.out (by rw [← HA.out, HT.out, hrt]; rfl)))
              go_wp2_with (go_at_call 38; with_reducible refine Calls.mono (right_any _ _) ?_; rintro e w' ⟨rfl, rfl⟩)
              (try simp only [Exit.inBlock, Exit.then])
              refine bodyPost_ret (v := .tuple #[.agg #[.slice none 0 0, .slice none 0 0, .bool false], .int .i64 160]) (by unfold results; go_simp) rfl ?_
              exact DefPost.no HE.out ((((HXX.out.rot.set (i := 0)).set (i := 1)).set (i := 2)).r.r.allocD.allocD)
            · go_wp2_with (go_at_call 38; with_reducible refine Calls.mono (right_any _ _) ?_; rintro e w' ⟨rfl, rfl⟩)
              go_roundw
              case rel => exact ⟨j + 1, by omega, by go_num, by rw [← HA.out, HT.out, hrt, Bool.true_and], HXX.out.allocD.allocD⟩
              case measure => simp [intOf]; omega
          · obtain rfl : j = nx := by omega
            have hall : X.all rightB = true := by rw [← HA.out, List.drop_of_length_le (by rw [NX.out]; omega)]; rfl
            have HA4 := Lib.hid (HX4.out hall)
            clear hall
            go_wp2
            go_roundw
            case rel => exact ⟨k + 1, by omega, by go_num, HA4.out.1, HA4.out.2, HXX.out⟩
            case measure => simp [intOf]; omega
      · obtain rfl : k = 2 := by omega
        have HRR := Lib.hid (show (P.all rightB && B.all rightB) = true by rw [HR1.out (by omega), HR2.out (by omega)]; rfl)
        have HG := Lib.hid HX.out.r
        obtain ⟨wo, rfl⟩ : ∃ wo : World, wo = wr := ⟨_, rfl⟩
        go_wp2
        go_loopw [55] (fun i wr => ∃ j : Nat, j ≤ np ∧ i = .int .i64 j ∧ (P.drop j).any isBrace = P.any isBrace ∧ Sat w (pts rr Z25 * own w) wr) (fun i _ => np - (intOf i).toNat)
        case atStart => exact ⟨0, by omega, rfl, rfl, HG.out⟩
        case round =>
          obtain ⟨j, hj, rfl, ha, hx⟩ := hrel
          have HA := Lib.hid ha
          have HXX := Lib.hid hx
          clear ha hx
          have r0 := HXX.out.cell (i := 0) rfl
          have r1 := HXX.out.cell (i := 1) rfl
          have r2 := HXX.out.cell (i := 2) rfl
          have f0 := HXX.out.free (i := 0)
          have f1 := HXX.out.free (i := 1)
          have f2 := HXX.out.free (i := 2)
          have lr := HXX.out.lt
          by_cases hlt2 : j < np
          · obtain ⟨b, off, hab, ⟨c0, c1, c2⟩, hb⟩ := (HP.out.ext HXX.out.extR).at (i := j) (by rw [NP.out]; exact hlt2)
            cases hab
            have HT := Lib.hid (any_drop P isBrace j (by rw [NP.out]; exact hlt2))
            generalize P[j]'(by rw [NP.out]; exact hlt2) = t at *
            have lt2 : (j : Int) < (np : Int) := by omega
            by_cases ht1 : t.cat = 1
            · have HE := Lib.hid (define_173 (long := long) HSZ.out HRR.out (.inl (by rw [← HA.out, HT.out]; simp [isBrace, ht1])))
              have e1 : (t.cat == 1) = true := by simp [ht1]
              clear ht1
              go_wp2
              (try simp only [Exit.inBlock, Exit.then])
              refine bodyPost_ret (v := .tuple #[.agg #[.slice none 0 0, .slice none 0 0, .bool false], .int .i64 173]) (by unfold results; go_simp) rfl ?_
              exact DefPost.no HE.out ((((HXX.out.set (i := 0)).set (i := 1)).set (i := 2)).r.allocD)
            · by_cases ht2 : t.cat = 2
              · have HE := Lib.hid (define_173 (long := long) HSZ.out HRR.out (.inl (by rw [← HA.out, HT.out]; simp [isBrace, ht2])))
                have e1 : (t.cat == 1) = false := by simp [ht2]
                have e2 : (t.cat == 2) = true := by simp [ht2]
                clear ht1 ht2
                go_wp2
                (try simp only [Exit.inBlock, Exit.then])
                refine bodyPost_ret (v := .tuple #[.agg #[.slice none 0 0, .slice none 0 0, .bool false], .int .i64 173]) (by unfold results; go_simp) rfl ?_
                exact DefPost.no HE.out ((((HXX.out.set (i := 0)).set (i := 1)).set (i := 2)).r.allocD)
              · have HT2 := Lib.hid (show (P.drop j).any isBrace = (P.drop (j + 1)).any isBrace by rw [HT.out]; simp [isBrace, ht1, ht2])
                have e1 : (t.cat == 1) = false := by simp [ht1]
                have e2 : (t.cat == 2) = false := by simp [ht2]
                clear ht1 ht2
                go_wp2
                go_roundw
                case rel => exact ⟨j + 1, by omega, by go_num, by rw [← HT2.out, HA.out], HXX.out.allocD⟩
                case measure => simp [intOf]; omega
          · obtain rfl : j = np := by omega
            have HNB := Lib.hid (show P.any isBrace = false by rw [← HA.out, List.drop_of_length_le (by rw [NP.out]; omega)]; rfl)
            obtain ⟨wo2, rfl⟩ : ∃ wo2 : World, wo2 = wr := ⟨_, rfl⟩
            have HBX := Lib.hid (HB.out.ext HXX.out.extR)
            have HB4 := Lib.hid (show B.length ≤ 4000000000 by rw [NB.out]; omega)
            clear r0 r1 r2 f0 f1 f2 lr
            cases hbal : bal B
            · have HE := Lib.hid (define_173 (long := long) HSZ.out HRR.out (.inr hbal))
              go_wp2_with (go_at_call 39; refine (bal_any B _ _ HB4.out HBX.out).mono ?_; rintro e w' ⟨rfl, hx2⟩; (have HF := Lib.hid (HXX.out.ext hx2); clear hx2; rw [hbal]; have r0 := HF.out.cell (i := 0) rfl; have r1 := HF.out.cell (i := 1) rfl; have r2 := HF.out.cell (i := 2) rfl; have f0 := HF.out.free (i := 0); have f1 := HF.out.free (i := 1); have f2 := HF.out.free (i := 2); have lr := HF.out.lt))
              (try simp only [Exit.inBlock, Exit.then])
              refine bodyPost_ret (v := .tuple #[.agg #[.slice none 0 0, .slice none 0 0, .bool false], .int .i64 173]) (by unfold results; go_simp) rfl ?_
              exact DefPost.no HE.out ((((HF.out.set (i := 0)).set (i := 1)).set (i := 2)).r)
            · have HD := Lib.hid (define_rest (long := long) HSZ.out HRR.out HNB.out hbal)
              go_wp2_with (go_at_call 39; refine (bal_any B _ _ HB4.out HBX.out).mono ?_; rintro e w' ⟨rfl, hx2⟩; (have HF := Lib.hid (HXX.out.ext hx2); clear hx2; rw [hbal]))
              have h4 := (HF.out.alloc (.cells #[.slice none 0 0, .slice none 0 0, .bool long] 25)).alloc (.cells #[.int .i64 1, .int .u8 123, .string ByteArray.empty] 46)
              rw [show (w'.alloc (.cells #[.slice none 0 0, .slice none 0 0, .bool long] 25)).heap.size = w'.heap.size + 1 by simp] at h4
              generalize hmm : w'.heap.size = mm at *
              obtain ⟨bb, hbb⟩ : ∃ bb, mm + 1 = bb := ⟨_, rfl⟩
              rw [hbb] at h4 ⊢
              clear hbb
              have h5 := Sat.rot h4
              go_loopw [16, 17, 18] (fun pl op i wr => ∃ (k n : Nat) (o : Bool) (acc : List Tok) (u : Value), k ≤ j ∧ n ≤ 9 ∧ acc.length ≤ k ∧ pl = .int .i64 n ∧ op = .bool o ∧ i = .int .i64 k ∧ finP acc o (defP n (P.drop k)) = defP 0 P ∧
                Sat w (pts mm (.cells #[u, .slice none 0 0, .bool long] 25 (0, 0)) * (rowT u acc * (pts bb (.cells #[.int .i64 1, .int .u8 123, .string ByteArray.empty] 46 (0, 0)) * (pts rr Z25 * own w)))) wr) (fun _ _ i _ => j - (intOf i).toNat)
              case atStart => exact ⟨0, 0, false, [], .slice none 0 0, by omega, by omega, by simp, rfl, rfl, rfl, by rw [List.drop_zero, finP_0], (Sat.row_nil (Sat.rot h4)).rot⟩
              case round =>
                obtain ⟨k, n, o, acc, u, hk, hn9, hal, rfl, rfl, rfl, ha, hx⟩ := hrel
                have HWA := Lib.hid ha
                have HW := Lib.hid hx
                clear ha hx
                obtain ⟨ua, uc, rfl, _⟩ := (rowT_rd HW.out.r).capd
                by_cases hlt : k < j
                · obtain ⟨b, off, hab, ⟨c0, c1, c2⟩, hb⟩ := (HP.out.ext HW.out.r.r.r.extR).at (i := k) (by rw [NP.out]; exact hlt)
                  cases hab
                  have lt1 : (k : Int) < (j : Int) := by omega
                  have m0 := HW.out.cell (i := 0) rfl
                  have g0 := HW.out.free (i := 0)
                  have lm := HW.out.lt
                  by_cases h6 : (P[k]'(by rw [NP.out]; exact hlt)).cat = 6
                  · have e1 : ((P[k]'(by rw [NP.out]; exact hlt)).cat == 6) = true := by simpa using h6
                    have HPW := Lib.hid (HP.out.ext HW.out.r.r.r.extR)
                    by_cases hl : k + 1 = j
                    · have HN := Lib.hid (defP_last (P := P) (n := n) (acc := acc) (o := o) (by rw [NP.out]; exact hl) h6)
                      clear h6
                      generalize P[k]'(by rw [NP.out]; exact hlt) = t at *
                      have e2 : ((k : Int) == (j : Int) - 1) = true := by simp; omega
                      have b0 := HW.out.r.r.cell (i := 0) rfl
                      have b1 := HW.out.r.r.cell (i := 1) rfl
                      have b2 := HW.out.r.r.cell (i := 2) rfl
                      have lb := HW.out.r.r.lt
                      go_wp2_with (first
                        | (go_at_call 40; with_reducible refine Calls.mono (digit_at P _ (k + 1) _ _ (by push_cast; rfl) (HPW.out.ext (Ext.refl _).alloc)) ?_; rintro e w' ⟨rfl, rfl⟩)
                        | (at_builtin; refine wpList_append_sep rfl _ _ 22 rfl i0 _ 32 Try.underlying22 HI.out HZ0.out HZ1.out HZ2.out rfl rfl HW.out.rot.allocD.allocD ⟨wr.heap.size + 1, 0, none⟩ 1 1 [.int .i64 1, .int .u8 123, .string ByteArray.empty] rfl rfl ?_ ?_ ?_ ?_ ?_))
                      · exact new_cells1 _ _ _ _
                      · simp [Value.oneCell']
                      · simp [maxLen]; omega
                      · omega
                      intro v' w1 h6
                      obtain ⟨va, vc, rfl, -⟩ := h6.row_val
                      have m0 := h6.rot.cell (i := 0) rfl
                      have g0 := h6.rot.free (i := 0)
                      have lm := h6.rot.lt
                      have HS := Lib.hid h6
                      clear h6
                      go_wp2
                      go_roundw
                      case rel => exact ⟨k + 1, n, true, acc ++ [brace], _, by omega, hn9, by simp; omega, rfl, rfl, by go_num, by rw [← HN.out, HWA.out], (rowT_snoc (t := brace) (HS.out.rot.set (i := 0)).rot rfl rfl).rot⟩
                      case measure => simp [intOf]; omega
                    · have hk1 : k + 1 < j := by omega
                      have e2 : ((k : Int) == (j : Int) - 1) = false := by simp; omega
                      have hda := digitAt_in (P := P) (k := k + 1) (by rw [NP.out]; exact hk1)
                      by_cases hd : digitT (P[k + 1]'(by rw [NP.out]; exact hk1)) = n + 1
                      · have HN := Lib.hid (defP_place (acc := acc) (o := o) (by rw [NP.out]; exact hk1) h6 hd)
                        have hn8 : n + 1 ≤ 9 := by rw [← hd]; exact digitT_le _
                        have hd2 : ((digitAt P (k + 1) : Nat) : Int) = (n : Int) + 1 := by rw [hda, hd]; push_cast; rfl
                        have HTK := Lib.hid (show [Value.int .i64 17, .int .u8 ((n : Int) + 1), .string ByteArray.empty] = (placeT (n + 1)).cells by
                          have := placeT_chr hn8
                          simp only [Tok.cells, this]
                          push_cast
                          rfl)
                        clear h6 hd hda
                        generalize P[k]'(by rw [NP.out]; exact hlt) = t at *
                        have hn256 : (n : Int) + 1 < 256 := by omega
                        go_wp2_with (first
                          | (go_at_call 40; with_reducible refine Calls.mono (digit_at P _ (k + 1) _ _ (by push_cast; rfl) (HPW.out.ext (Ext.refl _).alloc)) ?_; rintro e w' ⟨rfl, rfl⟩)
                          | (at_builtin; refine wpList_append_sep rfl _ _ 22 rfl i0 _ 32 Try.underlying22 HI.out HZ0.out HZ1.out HZ2.out rfl rfl HW.out.rot.allocD.allocD ⟨wr.heap.size + 1, 0, none⟩ 1 1 [.int .i64 17, .int .u8 ((n : Int) + 1), .string ByteArray.empty] rfl rfl ?_ ?_ ?_ ?_ ?_))
                        · exact new_cells1 _ _ _ _
                        · simp [Value.oneCell']
                        · simp [maxLen]; omega
                        · omega
                        intro v' w1 h6
                        obtain ⟨va, vc, rfl, -⟩ := h6.row_val
                        have m0 := h6.rot.cell (i := 0) rfl
                        have g0 := h6.rot.free (i := 0)
                        have lm := h6.rot.lt
                        have HS := Lib.hid h6
                        clear h6
                        go_wp2
                        go_roundw
                        case rel => exact ⟨k + 2, n + 1, o, acc ++ [placeT (n + 1)], _, by omega, hn8, by simp; omega, by go_num, rfl, by go_num, by rw [← HN.out, HWA.out], (rowT_snoc (t := placeT (n + 1)) (HS.out.rot.set (i := 0)).rot rfl (by rw [HTK.out])).rot⟩
                        case measure => simp [intOf]; omega
                      · have HE := Lib.hid (show define P B long = .no 170 by rw [HD.out, ← HWA.out, defP_bad (by rw [NP.out]; exact hk1) h6 hd])
                        have e3 : (((digitAt P (k + 1) : Nat) : Int) == (n : Int) + 1) = false := by rw [hda]; simp; omega
                        clear h6 hd hda
                        generalize P[k]'(by rw [NP.out]; exact hlt) = t at *
                        have r0 := HW.out.r.r.r.cell (i := 0) rfl
                        have r1 := HW.out.r.r.r.cell (i := 1) rfl
                        have r2 := HW.out.r.r.r.cell (i := 2) rfl
                        have f0 := HW.out.r.r.r.free (i := 0)
                        have f1 := HW.out.r.r.r.free (i := 1)
                        have f2 := HW.out.r.r.r.free (i := 2)
                        have lr := HW.out.r.r.r.lt
                        go_wp2_with (go_at_call 40; with_reducible refine Calls.mono (digit_at P _ (k + 1) _ _ (by push_cast; rfl) (HPW.out.ext (Ext.refl _).alloc)) ?_; rintro e w' ⟨rfl, rfl⟩)
                        (try simp only [Exit.inBlock, Exit.then])
                        refine bodyPost_ret (v := .tuple #[.agg #[.slice none 0 0, .slice none 0 0, .bool false], .int .i64 170]) (by unfold results; go_simp) rfl ?_
                        exact DefPost.no HE.out ((((HW.out.r.r.r.set (i := 0)).set (i := 1)).set (i := 2)).r.allocD)
                  · have HN := Lib.hid (defP_plain (n := n) (acc := acc) (o := o) (by rw [NP.out]; exact hlt) h6)
                    have e1 : ((P[k]'(by rw [NP.out]; exact hlt)).cat == 6) = false := by simpa using h6
                    clear h6
                    generalize P[k]'(by rw [NP.out]; exact hlt) = t at *
                    go_wp2_with (at_builtin; refine wpList_append_sep rfl _ _ 22 rfl i0 _ 32 Try.underlying22 HI.out HZ0.out HZ1.out HZ2.out rfl rfl HW.out.rot.allocD.allocD ⟨wr.heap.size + 1, 0, none⟩ 1 1 [.int .i64 t.cat, .int .u8 t.chr.toNat, .string t.name] rfl rfl ?_ ?_ ?_ ?_ ?_)
                    · exact new_cells1 _ _ _ _
                    · simp [Value.oneCell']
                    · simp [maxLen]; omega
                    · omega
                    intro v' w1 h6
                    obtain ⟨va, vc, rfl, -⟩ := h6.row_val
                    have m0 := h6.rot.cell (i := 0) rfl
                    have g0 := h6.rot.free (i := 0)
                    have lm := h6.rot.lt
                    have HS := Lib.hid h6
                    clear h6
                    go_wp2
                    go_roundw
                    case rel => exact ⟨k + 1, n, o, acc ++ [t], _, by omega, hn9, by simp; omega, rfl, rfl, by go_num, by rw [← HN.out, HWA.out], (rowT_snoc (HS.out.rot.set (i := 0)).rot rfl rfl).rot⟩
                    case measure => simp [intOf]; omega
                · obtain rfl : k = j := by omega
                  have HDP := Lib.hid (show defP 0 P = some (acc, n, o) by rw [← HWA.out, List.drop_of_length_le (by rw [NP.out]; omega)]; simp [defP, finP])
                  have HD2 := Lib.hid (show define P B long = match defB n B with
                      | none => .no 170
                      | some B' => if 20000 < (bodyO o B').length then .no 6 else ⟨acc, bodyO o B', long, 0⟩ by rw [HD.out, HDP.out])
                  obtain ⟨wo3, rfl⟩ : ∃ wo3 : World, wo3 = wr := ⟨_, rfl⟩
                  have h6 := (Sat.row_nil (e := 46) (size := 3) HW.out).rot.of_eq (show _ = pts mm (.cells #[.slice ua acc.length uc, .slice none 0 0, .bool long] 25 (0, 0)) * (rowT (.slice none 0 0) [] * (rowT (.slice ua acc.length uc) acc * (pts bb (.cells #[.int .i64 1, .int .u8 123, .string ByteArray.empty] 46 (0, 0)) * (pts rr Z25 * own w)))) from rfl)
                  go_wp2
                  go_loopw [21] (fun i wr => ∃ (k2 : Nat) (accB : List Tok) (u : Value), k2 ≤ nb ∧ accB.length ≤ k2 ∧ i = .int .i64 k2 ∧ finB accB (defB n (B.drop k2)) = defB n B ∧
                    Sat w (pts mm (.cells #[.slice ua acc.length uc, u, .bool long] 25 (0, 0)) * (rowT u accB * (rowT (.slice ua acc.length uc) acc * (pts bb (.cells #[.int .i64 1, .int .u8 123, .string ByteArray.empty] 46 (0, 0)) * (pts rr Z25 * own w))))) wr) (fun i _ => nb - (intOf i).toNat)
                  case atStart => exact ⟨0, [], .slice none 0 0, by omega, by simp, rfl, by rw [List.drop_zero, finB_0], h6⟩
                  case round =>
                    obtain ⟨k2, accB, ub, hk2, hal2, rfl, ha, hx⟩ := hrel
                    have HVA := Lib.hid ha
                    have HV := Lib.hid hx
                    clear ha hx h6
                    obtain ⟨va, vc, rfl, _⟩ := (rowT_rd HV.out.r).capd
                    by_cases hlt3 : k2 < nb
                    · obtain ⟨b, off, hab, ⟨c0, c1, c2⟩, hb⟩ := (HB.out.ext HV.out.r.r.r.r.extR).at (i := k2) (by rw [NB.out]; exact hlt3)
                      cases hab
                      have lt3 : (k2 : Int) < (nb : Int) := by omega
                      have m1 := HV.out.cell (i := 1) rfl
                      have g1 := HV.out.free (i := 1)
                      have lm := HV.out.lt
                      by_cases h6 : (B[k2]'(by rw [NB.out]; exact hlt3)).cat = 6
                      · have e1 : ((B[k2]'(by rw [NB.out]; exact hlt3)).cat == 6) = true := by simpa using h6
                        have HPW := Lib.hid (HB.out.ext HV.out.r.r.r.r.extR)
                        by_cases hl : k2 + 1 = nb
                        · have HE := Lib.hid (show define P B long = .no 170 by rw [HD2.out, ← HVA.out, defB_last (by rw [NB.out]; exact hl) h6])
                          have hda : digitAt B (k2 + 1) = 0 := digitAt_out (by rw [NB.out]; omega)
                          have e2 : ¬ ((k2 : Int) + 1 < (nb : Int)) := by omega
                          clear h6
                          generalize B[k2]'(by rw [NB.out]; exact hlt3) = t at *
                          have r0 := HV.out.r.r.r.r.cell (i := 0) rfl
                          have r1 := HV.out.r.r.r.r.cell (i := 1) rfl
                          have r2 := HV.out.r.r.r.r.cell (i := 2) rfl
                          have f0 := HV.out.r.r.r.r.free (i := 0)
                          have f1 := HV.out.r.r.r.r.free (i := 1)
                          have f2 := HV.out.r.r.r.r.free (i := 2)
                          have lr := HV.out.r.r.r.r.lt
                          go_wp2_with (go_at_call 40; with_reducible refine Calls.mono (digit_at B _ (k2 + 1) _ _ (by push_cast; rfl) (HPW.out.ext (Ext.refl _).alloc)) ?_; rintro e w' ⟨rfl, rfl⟩; rw [hda])
                          (try simp only [Exit.inBlock, Exit.then])
                          refine bodyPost_ret (v := .tuple #[.agg #[.slice none 0 0, .slice none 0 0, .bool false], .int .i64 170]) (by unfold results; go_simp) rfl ?_
                          exact DefPost.no HE.out ((((HV.out.r.r.r.r.set (i := 0)).set (i := 1)).set (i := 2)).r.allocD)
                        · have hk1 : k2 + 1 < nb := by omega
                          have e2 : ((k2 : Int) + 1 < (nb : Int)) := by omega
                          have hda := digitAt_in (P := B) (k := k2 + 1) (by rw [NB.out]; exact hk1)
                          obtain ⟨b', off', hab, ⟨d0, d1, d2⟩, hb'⟩ := HPW.out.at (i := k2 + 1) (by rw [NB.out]; exact hk1)
                          cases hab
                          by_cases h7 : (B[k2 + 1]'(by rw [NB.out]; exact hk1)).cat = 6
                          · have HN := Lib.hid (defB_hash (n := n) (acc := accB) (by rw [NB.out]; exact hk1) h6 h7)
                            have e3 : ((B[k2 + 1]'(by rw [NB.out]; exact hk1)).cat == 6) = true := by simpa using h7
                            clear h6 h7 hda
                            generalize B[k2]'(by rw [NB.out]; exact hlt3) = t at *
                            generalize B[k2 + 1]'(by rw [NB.out]; exact hk1) = u at *
                            go_wp2_with (first
                              | (go_at_call 40; with_reducible refine Calls.mono (digit_at B _ (k2 + 1) _ _ (by push_cast; rfl) (HPW.out.ext (Ext.refl _).alloc)) ?_; rintro e w' ⟨rfl, rfl⟩)
                              | (at_builtin; refine wpList_append_sep rfl _ _ 22 rfl i0 _ 32 Try.underlying22 HI.out HZ0.out HZ1.out HZ2.out rfl rfl HV.out.rot.allocD.allocD ⟨wr.heap.size + 1, 0, none⟩ 1 1 [.int .i64 u.cat, .int .u8 u.chr.toNat, .string u.name] rfl rfl ?_ ?_ ?_ ?_ ?_))
                            · exact new_cells1 _ _ _ _
                            · simp [Value.oneCell']
                            · simp [maxLen]; omega
                            · omega
                            intro v' w1 h6
                            obtain ⟨va, vc, rfl, -⟩ := h6.row_val
                            have m1 := h6.rot.cell (i := 1) rfl
                            have g1 := h6.rot.free (i := 1)
                            have lm := h6.rot.lt
                            have HS := Lib.hid h6
                            clear h6
                            go_wp2
                            go_roundw
                            case rel => exact ⟨k2 + 2, accB ++ [u], _, by omega, by simp; omega, by go_num, by rw [← HN.out, HVA.out], (rowT_snoc (t := u) (HS.out.rot.set (i := 1)).rot rfl rfl).rot⟩
                            case measure => simp [intOf]; omega
                          · have e3 : ((B[k2 + 1]'(by rw [NB.out]; exact hk1)).cat == 6) = false := by simpa using h7
                            by_cases hd : 1 ≤ digitT (B[k2 + 1]'(by rw [NB.out]; exact hk1)) ∧ digitT (B[k2 + 1]'(by rw [NB.out]; exact hk1)) ≤ n
                            · have HN := Lib.hid (defB_place (acc := accB) (by rw [NB.out]; exact hk1) h6 h7 hd)
                              rw [← hda] at HN hd
                              have hn8 : digitAt B (k2 + 1) ≤ 9 := by rw [hda]; exact digitT_le _
                              have HTK := Lib.hid (show [Value.int .i64 17, .int .u8 (digitAt B (k2 + 1) : Nat), .string ByteArray.empty] = (placeT (digitAt B (k2 + 1))).cells by
                                have := placeT_chr hn8
                                simp only [Tok.cells, this]
                                rfl)
                              clear h6 h7 hda
                              have HDG := Lib.hid (show ∀ w, RdT w (.slice (some ⟨b, off, none⟩) nb cb) B → Calls Try.prog 40 #[.slice (some ⟨b, off, none⟩) nb cb, .int .i64 ((k2 : Int) + 1)] w fun e w' => e = .returned (.int .i64 (digitAt B (k2 + 1))) ∧ w = w' from fun w hv => digit_at B _ (k2 + 1) _ _ (by push_cast; rfl) hv)
                              generalize digitAt B (k2 + 1) = dg at *
                              generalize B[k2]'(by rw [NB.out]; exact hlt3) = t at *
                              generalize B[k2 + 1]'(by rw [NB.out]; exact hk1) = u at *
                              obtain ⟨hd1, hd2⟩ := hd
                              have q1 : (0 : Int) < (dg : Int) := by omega
                              have q2 : (dg : Int) ≤ (n : Int) := by omega
                              have q3 : (dg : Int) < 256 := by omega
                              go_wp2_with (first
                                | (go_at_call 40; with_reducible refine Calls.mono (HDG.out _ (HPW.out.ext (Ext.refl _).alloc)) ?_; rintro e w' ⟨rfl, rfl⟩)
                                | (at_builtin; refine wpList_append_sep rfl _ _ 22 rfl i0 _ 32 Try.underlying22 HI.out HZ0.out HZ1.out HZ2.out rfl rfl HV.out.rot.allocD.allocD ⟨wr.heap.size + 1, 0, none⟩ 1 1 [.int .i64 17, .int .u8 (dg : Nat), .string ByteArray.empty] rfl rfl ?_ ?_ ?_ ?_ ?_))
                              · exact new_cells1 _ _ _ _
                              · simp [Value.oneCell']
                              · simp [maxLen]; omega
                              · omega
                              intro v' w1 h6
                              obtain ⟨va, vc, rfl, -⟩ := h6.row_val
                              have m1 := h6.rot.cell (i := 1) rfl
                              have g1 := h6.rot.free (i := 1)
                              have lm := h6.rot.lt
                              have HS := Lib.hid h6
                              clear h6
                              go_wp2
                              go_roundw
                              case rel => exact ⟨k2 + 2, accB ++ [placeT dg], _, by omega, by simp; omega, by go_num, by rw [← HN.out, HVA.out], (rowT_snoc (t := placeT dg) (HS.out.rot.set (i := 1)).rot rfl (by rw [HTK.out])).rot⟩
                              case measure => simp [intOf]; omega
                            · have HE := Lib.hid (show define P B long = .no 170 by rw [HD2.out, ← HVA.out, defB_bad (by rw [NB.out]; exact hk1) h6 h7 hd])
                              rw [← hda] at hd
                              clear h6 h7 hda
                              generalize B[k2]'(by rw [NB.out]; exact hlt3) = t at *
                              generalize B[k2 + 1]'(by rw [NB.out]; exact hk1) = u at *
                              have r0 := HV.out.r.r.r.r.cell (i := 0) rfl
                              have r1 := HV.out.r.r.r.r.cell (i := 1) rfl
                              have r2 := HV.out.r.r.r.r.cell (i := 2) rfl
                              have f0 := HV.out.r.r.r.r.free (i := 0)
                              have f1 := HV.out.r.r.r.r.free (i := 1)
                              have f2 := HV.out.r.r.r.r.free (i := 2)
                              have lr := HV.out.r.r.r.r.lt
                              by_cases q1 : (0 : Int) < ((digitAt B (k2 + 1) : Nat) : Int)
                              · have q2 : ¬ (((digitAt B (k2 + 1) : Nat) : Int) ≤ (n : Int)) := by omega
                                clear hd
                                go_wp2_with (go_at_call 40; with_reducible refine Calls.mono (digit_at B _ (k2 + 1) _ _ (by push_cast; rfl) (HPW.out.ext (Ext.refl _).alloc)) ?_; rintro e w' ⟨rfl, rfl⟩)
                                (try simp only [Exit.inBlock, Exit.then])
                                refine bodyPost_ret (v := .tuple #[.agg #[.slice none 0 0, .slice none 0 0, .bool false], .int .i64 170]) (by unfold results; go_simp) rfl ?_
                                exact DefPost.no HE.out ((((HV.out.r.r.r.r.set (i := 0)).set (i := 1)).set (i := 2)).r.allocD)
                              · clear hd
                                go_wp2_with (go_at_call 40; with_reducible refine Calls.mono (digit_at B _ (k2 + 1) _ _ (by push_cast; rfl) (HPW.out.ext (Ext.refl _).alloc)) ?_; rintro e w' ⟨rfl, rfl⟩)
                                (try simp only [Exit.inBlock, Exit.then])
                                refine bodyPost_ret (v := .tuple #[.agg #[.slice none 0 0, .slice none 0 0, .bool false], .int .i64 170]) (by unfold results; go_simp) rfl ?_
                                exact DefPost.no HE.out ((((HV.out.r.r.r.r.set (i := 0)).set (i := 1)).set (i := 2)).r.allocD)
                      · have HN := Lib.hid (defB_plain (n := n) (acc := accB) (by rw [NB.out]; exact hlt3) h6)
                        have e1 : ((B[k2]'(by rw [NB.out]; exact hlt3)).cat == 6) = false := by simpa using h6
                        clear h6
                        generalize B[k2]'(by rw [NB.out]; exact hlt3) = t at *
                        go_wp2_with (at_builtin; refine wpList_append_sep rfl _ _ 22 rfl i0 _ 32 Try.underlying22 HI.out HZ0.out HZ1.out HZ2.out rfl rfl HV.out.rot.allocD.allocD ⟨wr.heap.size + 1, 0, none⟩ 1 1 [.int .i64 t.cat, .int .u8 t.chr.toNat, .string t.name] rfl rfl ?_ ?_ ?_ ?_ ?_)
                        · exact new_cells1 _ _ _ _
                        · simp [Value.oneCell']
                        · simp [maxLen]; omega
                        · omega
                        intro v' w1 h6
                        obtain ⟨va, vc, rfl, -⟩ := h6.row_val
                        have m1 := h6.rot.cell (i := 1) rfl
                        have g1 := h6.rot.free (i := 1)
                        have lm := h6.rot.lt
                        have HS := Lib.hid h6
                        clear h6
                        go_wp2
                        go_roundw
                        case rel => exact ⟨k2 + 1, accB ++ [t], _, by omega, by simp; omega, by go_num, by rw [← HN.out, HVA.out], (rowT_snoc (HS.out.rot.set (i := 1)).rot rfl rfl).rot⟩
                        case measure => simp [intOf]; omega
                    · obtain rfl : k2 = nb := by omega
                      have HDB := Lib.hid (show defB n B = some accB by have := HVA.out; rw [List.drop_of_length_le (by rw [NB.out]; omega)] at this; rw [← this]; simp [defB, finB])
                      have HD3 := Lib.hid (show define P B long = if 20000 < (bodyO o accB).length then .no 6 else ⟨acc, bodyO o accB, long, 0⟩ by rw [HD2.out, HDB.out])
                      have hne : mm ≠ rr := (HV.out.of_eq (show _ = pts mm _ * (pts rr Z25 * (rowT (.slice va accB.length vc) accB * (rowT (.slice ua acc.length uc) acc * (pts bb (.cells #[.int .i64 1, .int .u8 123, .string ByteArray.empty] 46 (0, 0)) * own w)))) by ac_rfl)).ne
                      have hne' : rr ≠ mm := hne.symm
                      have m0 := HV.out.cell (i := 0) rfl
                      have m1 := HV.out.cell (i := 1) rfl
                      have m2 := HV.out.cell (i := 2) rfl
                      have g1 := HV.out.free (i := 1)
                      have lm := HV.out.lt
                      have r0 := HV.out.r.r.r.r.cell (i := 0) rfl
                      have r1 := HV.out.r.r.r.r.cell (i := 1) rfl
                      have r2 := HV.out.r.r.r.r.cell (i := 2) rfl
                      have f0 := HV.out.r.r.r.r.free (i := 0)
                      have f1 := HV.out.r.r.r.r.free (i := 1)
                      have f2 := HV.out.r.r.r.r.free (i := 2)
                      have lr := HV.out.r.r.r.r.lt
                      have b0 := HV.out.r.r.r.cell (i := 0) rfl
                      have b1 := HV.out.r.r.r.cell (i := 1) rfl
                      have b2 := HV.out.r.r.r.cell (i := 2) rfl
                      have lb := HV.out.r.r.r.lt
                      cases o
                      · by_cases hbg : 20000 < accB.length
                        · have HE := Lib.hid (show define P B long = .no 6 by rw [HD3.out, if_pos (by simpa [bodyO] using hbg)])
                          have hbg' : decide ((20000 : Int) < (accB.length : Int)) = true := by simp; omega
                          clear hbg
                          go_wp2
                          (try simp only [Exit.inBlock, Exit.then])
                          refine bodyPost_ret (v := .tuple #[.agg #[.slice none 0 0, .slice none 0 0, .bool false], .int .i64 6]) (by unfold results; go_simp) rfl ?_
                          exact DefPost.no HE.out ((((HV.out.r.r.r.r.set (i := 0)).set (i := 1)).set (i := 2)).r)
                        · have HE := Lib.hid (show define P B long = ⟨acc, accB, long, 0⟩ by rw [HD3.out, if_neg (by simpa [bodyO] using hbg)]; rfl)
                          have hbg' : ¬ (20000 : Int) < (accB.length : Int) := by omega
                          have HRR2 := Lib.hid (show Sat w (pts rr Z25 * (pts mm (.cells #[.slice ua acc.length uc, .slice va accB.length vc, .bool long] 25 (0, 0)) * (pts bb (.cells #[.int .i64 1, .int .u8 123, .string ByteArray.empty] 46 (0, 0)) * (rowT (.slice ua acc.length uc) acc * (rowT (.slice va accB.length vc) accB * own w))))) wr from HV.out.of_eq (by ac_rfl))
                          clear hbg
                          go_wp2
                          (try simp only [Exit.inBlock, Exit.then])
                          refine bodyPost_ret (v := .tuple #[.agg #[.slice ua acc.length uc, .slice va accB.length vc, .bool long], .int .i64 0]) (by unfold results; go_simp) rfl ?_
                          exact ⟨.slice ua acc.length uc, .slice va accB.length vc, by rw [HE.out], by rw [HE.out]; exact (((HRR2.out.set (i := 0)).set (i := 1)).set (i := 2)).r.r.r⟩
                      · go_wp2_with (at_builtin; refine wpList_append_sep rfl _ _ 22 rfl i0 _ 32 Try.underlying22 HI.out HZ0.out HZ1.out HZ2.out rfl rfl HV.out.rot.allocD ⟨wr.heap.size, 0, none⟩ 1 1 [.int .i64 1, .int .u8 123, .string ByteArray.empty] rfl rfl ?_ ?_ ?_ ?_ ?_)
                        · exact new_cells _ _ _
                        · simp [Value.oneCell']
                        · simp [maxLen]; omega
                        · omega
                        intro v' w1 h6
                        obtain ⟨xa, xc, rfl, -⟩ := h6.row_val
                        clear m0 m1 m2 g1 lm r0 r1 r2 f0 f1 f2 lr b0 b1 b2 lb
                        have m0 := h6.rot.cell (i := 0) rfl
                        have m1 := h6.rot.cell (i := 1) rfl
                        have m2 := h6.rot.cell (i := 2) rfl
                        have g1 := h6.rot.free (i := 1)
                        have lm := h6.rot.lt
                        have r0 := h6.r.r.r.r.cell (i := 0) rfl
                        have r1 := h6.r.r.r.r.cell (i := 1) rfl
                        have r2 := h6.r.r.r.r.cell (i := 2) rfl
                        have f0 := h6.r.r.r.r.free (i := 0)
                        have f1 := h6.r.r.r.r.free (i := 1)
                        have f2 := h6.r.r.r.r.free (i := 2)
                        have lr := h6.r.r.r.r.lt
                        have HS := Lib.hid (h6.rot.set (i := 1) (v := .slice xa (accB.length + 1) xc))
                        clear h6
                        by_cases hbg : 20000 < accB.length + 1
                        · have HE := Lib.hid (show define P B long = .no 6 by rw [HD3.out, if_pos (by simpa [bodyO] using hbg)])
                          have hbg' : (20000 : Int) < (accB.length : Int) + 1 := by omega
                          go_wp2
                          (try simp only [Exit.inBlock, Exit.then])
                          refine bodyPost_ret (v := .tuple #[.agg #[.slice none 0 0, .slice none 0 0, .bool false], .int .i64 6]) (by unfold results; go_simp) rfl ?_
                          exact DefPost.no HE.out ((((HS.out.r.r.r.r.set (i := 0)).set (i := 1)).set (i := 2)).r)
                        · have HE := Lib.hid (show define P B long = ⟨acc, accB ++ [brace], long, 0⟩ by rw [HD3.out, if_neg (by simpa [bodyO] using hbg)]; rfl)
                          have hbg' : ¬ (20000 : Int) < (accB.length : Int) + 1 := by omega
                          have hS2 := HS.out.rot.of_eq (show _ = pts rr Z25 * (pts mm (.cells #[.slice ua acc.length uc, .slice xa (accB.length + 1) xc, .bool long] 25 (0, 0)) * (pts bb (.cells #[.int .i64 1, .int .u8 123, .string ByteArray.empty] 46 (0, 0)) * (rowT (.slice ua acc.length uc) acc * (row (.slice xa (accB.length + 1) xc) (accB.length + 1) 46 3 (flat accB ++ brace.cells) * own w)))) by simp only [rowT]; ac_rfl)
                          have HRR2 := Lib.hid hS2
                          clear hbg hS2
                          go_wp2
                          (try simp only [Exit.inBlock, Exit.then])
                          refine bodyPost_ret (v := .tuple #[.agg #[.slice ua acc.length uc, .slice xa (accB.length + 1) xc, .bool long], .int .i64 0]) (by unfold results; go_simp) rfl ?_
                          refine ⟨.slice ua acc.length uc, .slice xa (accB.length + 1) xc, by rw [HE.out], ?_⟩
                          rw [HE.out]
                          exact (rowT_snoc (t := brace) (((((HRR2.out.set (i := 0)).set (i := 1)).set (i := 2)).r.r.r).rot) rfl rfl).rot
  · have HE := Lib.hid (define_6 (long := long) (show ¬ (P.length ≤ 20000 ∧ B.length ≤ 20000) by rw [NP.out, NB.out]; exact hbig))
    by_cases h3 : (np : Int) ≤ 20000
    · have h4 : ¬ (nb : Int) ≤ 20000 := by omega
      clear hbig
      go_enter Try.func12, Try.ntmps12
      go_wp2
      (try simp only [Exit.inBlock, Exit.then])
      refine bodyPost_ret (v := .tuple #[.agg #[.slice none 0 0, .slice none 0 0, .bool false], .int .i64 6]) (by unfold results; go_simp) rfl ?_
      exact DefPost.no HE.out (Sat.start w).allocD
    · clear hbig
      go_enter Try.func12, Try.ntmps12
      go_wp2
      (try simp only [Exit.inBlock, Exit.then])
      refine bodyPost_ret (v := .tuple #[.agg #[.slice none 0 0, .slice none 0 0, .bool false], .int .i64 6]) (by unfold results; go_simp) rfl ?_
      exact DefPost.no HE.out (Sat.start w).allocD

end Go.Proofs.Ytlbebcioabfbgaa
