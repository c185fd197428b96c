import Derived.Test.YticljfpippbkkaaMTM
import Derived.Test.YticljfpippbkkaaMTZ
/-
  The document's fresh list of codes (for seats as numbers). Conditions: those that each theorem names.
-/
namespace Go.Proofs.Yticljfpippbkkaa
open Go.RowKit Go.Sp
variable {W w w' : World} {F : HProp}

theorem letterR_any (k : Nat) (w : World) : Calls Try.prog 85 #[.int .i64 k] w fun e w' => e = .returned (.bool (decide ((97 ≤ k ∧ k ≤ 122) ∨ (65 ≤ k ∧ k ≤ 90)))) ∧ w = w' := by
  by_cases h1 : (97 ≤ k ∧ k ≤ 122) ∨ (65 ≤ k ∧ k ≤ 90)
  · rw [decide_eq_true h1]
    have h2 : (65 ≤ (k : Int) ∧ (k : Int) ≤ 90) ∨ (65 ≤ (k : Int) ∧ ¬ (k : Int) ≤ 90 ∧ 97 ≤ (k : Int) ∧ (k : Int) ≤ 122) := by omega
    clear h1
    rcases h2 with ⟨j1, j2⟩ | ⟨j1, j2, j3, j4⟩
    all_goals
      go_enter Try.func85, Try.ntmps85
      go_wp2
      go_ret
      exact ⟨rfl, rfl⟩
  · rw [decide_eq_false h1]
    have h2 : (65 ≤ (k : Int) ∧ ¬ (k : Int) ≤ 90 ∧ ¬ 97 ≤ (k : Int)) ∨ (65 ≤ (k : Int) ∧ ¬ (k : Int) ≤ 90 ∧ 97 ≤ (k : Int) ∧ ¬ (k : Int) ≤ 122) ∨ (¬ 65 ≤ (k : Int) ∧ ¬ 97 ≤ (k : Int)) := by omega
    clear h1
    rcases h2 with ⟨j1, j2, j3⟩ | ⟨j1, j2, j3, j4⟩ | ⟨j1, j2⟩
    all_goals
      go_enter Try.func85, Try.ntmps85
      go_wp2
      go_ret
      exact ⟨rfl, rfl⟩

theorem freshR_eq : ((((((baseL.set 0 9).set 13 5).set 32 10).set 37 14).set 92 0).set 127 15) = freshL := by decide +kernel

set_option maxRecDepth 1000000 in
set_option maxHeartbeats 8000000 in
theorem freshR_any (h : Sat W F w) : Calls Try.prog 61 #[] w fun e w' => e = .returned (codesV freshL) ∧ Sat W F w' := by
  have HZ := Lib.hid (zero_two h)
  obtain ⟨fl, hfl⟩ : ∃ fl, freshL = fl := ⟨_, rfl⟩
  rw [hfl]
  have HFN := Lib.hid (show fl.length = 256 by rw [← hfl]; exact freshL_len)
  have HFL := Lib.hid hfl
  clear hfl
  clear h
  go_enter Try.func61, Try.ntmps61
  go_wp2_with fail
  go_loopg [2] 256 (fun g s3 wx => ∃ (k : Nat) (L : List Int), k ≤ 256 ∧ g = 256 - k ∧ s3 = .int .i64 k ∧ L.length = 256 ∧ L.take k = baseL.take k ∧ Sat W (pts (w.heap.size + 1) (codesO L 85) * (pts w.heap.size (codesO (List.replicate 256 0) 85) * F)) wx)
  case atStart => exact ⟨0, List.replicate 256 0, by omega, rfl, rfl, by simp, rfl, (show Sat W (pts (w.heap.size + 1) (codesO (List.replicate 256 0) 85) * (pts w.heap.size (codesO (List.replicate 256 0) 85) * F)) _ from HZ.out)⟩
  case round =>
    obtain ⟨k, L, hk, rfl, rfl, hl, ht, hx⟩ := hrel
    have HL := Lib.hid hl
    have HT := Lib.hid ht
    have HX := Lib.hid hx
    clear hl ht hx
    by_cases hlt : k < 256
    · obtain ⟨x, k0, f0⟩ := HX.out.cellC k (by rw [HL.out]; exact hlt)
      have lb := HX.out.lt
      have hb := baseL_at k hlt
      have i1 : (k : Int) < 256 := by omega
      have i2 : (0 : Int) ≤ (k : Int) := by omega
      have HLT := Lib.hid (letterR_any k)
      have h12 := HX.out.setC (i := k) 12
      obtain ⟨x2, k2, f2⟩ := h12.cellC k (by rw [List.length_set, HL.out]; exact hlt)
      by_cases h1 : (97 ≤ k ∧ k ≤ 122) ∨ (65 ≤ k ∧ k ≤ 90)
      · rw [if_pos h1] at hb
        rw [decide_eq_true h1] at HLT
        have HS := Lib.hid (h12.setC (i := k) 11)
        rw [List.set_set] at HS
        have HB := Lib.hid (take_set_succ HT.out (by rw [HL.out]; exact hlt) hb)
        clear hb h1 h12
        go_wp2_with fail
        refine Calls.mono (HLT.out _) ?_
        rintro e w2 ⟨rfl, rfl⟩
        go_wp2
        go_roundg (256 - (k + 1))
        case measure => omega
        case rel => exact ⟨k + 1, L.set k 11, by omega, rfl, by go_num, by rw [List.length_set]; exact HL.out, HB.out, HS.out⟩
      · rw [if_neg h1] at hb
        rw [decide_eq_false h1] at HLT
        have HS := Lib.hid h12
        have HB := Lib.hid (take_set_succ HT.out (by rw [HL.out]; exact hlt) hb)
        clear hb h1 h12
        go_wp2_with fail
        refine Calls.mono (HLT.out _) ?_
        rintro e w2 ⟨rfl, rfl⟩
        go_wp2
        go_roundg (256 - (k + 1))
        case measure => omega
        case rel => exact ⟨k + 1, L.set k 12, by omega, rfl, by go_num, by rw [List.length_set]; exact HL.out, HB.out, HS.out⟩
    · have hk2 : 256 = k := by omega
      subst hk2
      have hL : L = baseL := by
        have := HT.out
        rwa [List.take_of_length_le (by rw [HL.out]; exact Nat.le_refl _), List.take_of_length_le (by rw [baseL_len]; exact Nat.le_refl _)] at this
      subst hL
      have HS := Lib.hid ((((((HX.out.setC (i := 0) 9).setC (i := 13) 5).setC (i := 32) 10).setC (i := 37) 14).setC (i := 92) 0).setC (i := 127) 15)
      obtain ⟨x1, k1, g1⟩ := HX.out.cellC 92 (by rw [baseL_len]; omega)
      obtain ⟨x2, k2, g2⟩ := HX.out.cellC 13 (by rw [baseL_len]; omega)
      obtain ⟨x3, k3, g3⟩ := HX.out.cellC 32 (by rw [baseL_len]; omega)
      obtain ⟨x4, k4, g4⟩ := HX.out.cellC 0 (by rw [baseL_len]; omega)
      obtain ⟨x5, k5, g5⟩ := HX.out.cellC 37 (by rw [baseL_len]; omega)
      obtain ⟨x6, k6, g6⟩ := HX.out.cellC 127 (by rw [baseL_len]; omega)
      have lb := HX.out.lt
      rw [freshR_eq, HFL.out] at HS
      clear hlt
      go_upto_region 14 with fail
      generalize ((((((wr.setCell ⟨w.heap.size + 1, 0, none⟩ (.int .i64 9)).setCell ⟨w.heap.size + 1, 13, none⟩ (.int .i64 5)).setCell ⟨w.heap.size + 1, 32, none⟩ (.int .i64 10)).setCell ⟨w.heap.size + 1, 37, none⟩ (.int .i64 14)).setCell ⟨w.heap.size + 1, 92, none⟩ (.int .i64 0)).setCell ⟨w.heap.size + 1, 127, none⟩ (.int .i64 15)) = W2 at *
      clear x1 k1 g1 k2 g2 k3 g3 k4 g4 k5 g5 k6 g6 lb HX
      have hb1 := HS.out.blk
      have hb0 := HS.out.rot.blk
      go_wp2_with fail
      refine wp_load_row 85 (.tmp 1) (by rfl) (w.heap.size + 1) (by rfl) _ _ _ _ hb1 Try.underlying85 (by rfl) ?_ ?_
      · rw [size_codes]; simp [HFN.out]
      go_step
      refine wpList_store_row (by rfl) 85 (.tmp 0) (.tmp 19) (by rfl) w.heap.size (fl.map (Value.int .i64)).toArray (by rfl) (by rfl) _ _ hb0 ?_ ?_ ?_ ?_
      · rw [size_codes]; simp [HFN.out]
      · simp [HFN.out]
      · exact one_codes fl
      have HE := Lib.hid (Sat.setRowC (M := fl) HS.out.rot)
      clear hb0 hb1
      go_wp2
      (try simp only [Exit.inBlock, Exit.then])
      refine bodyPost_ret (v := codesV fl) (results_cell_row (fn := Try.f61) rfl _ _ w.heap.size 85 (fl.map (Value.int .i64)).toArray (0, 0) _ rfl HE.out.blk Try.underlying85 (by rfl) (by rw [size_codes]; simp [HFN.out])) rfl ⟨rfl, HE.out.r.r⟩

end Go.Proofs.Yticljfpippbkkaa

/-
  The document's table with one state, in memory. Conditions: those that each theorem names.
-/
namespace Go.Proofs.Yticljfpippbkkaa
open Go.RowKit Go.Sp
variable {W w w' : World} {F A : HProp}

/-! ### cells of a state -/
def stCells (nv : Value) (R : Nat → RegV) : Array Value := (.int .i64 0 :: nv :: (regCells R 1536 ++ [.slice none 0 0])).toArray
theorem st_size (nv : Value) (R : Nat → RegV) : (stCells nv R).size = 10755 := by simp [stCells, regCells_len]
theorem st_reg (nv : Value) (R : Nat → RegV) {j o : Nat} (hj : j < 1536) (ho : o < 7) : (stCells nv R)[2 + j * 7 + o]? = (R j).cells[o]? := by
  have e : 2 + j * 7 + o = ((j * 7 + o) + 1) + 1 := by omega
  rw [stCells, List.getElem?_toArray, e, List.getElem?_cons_succ, List.getElem?_cons_succ, List.getElem?_append_left (by rw [regCells_len]; omega), regCells_get R 1536 j o hj ho]
theorem st_get (nv : Value) (R : Nat → RegV) (i : Nat) : (stCells nv R)[i]? =
    if i = 0 then some (.int .i64 0) else if i = 1 then some nv else if i < 10754 then some ((R ((i - 2) / 7)).at ((i - 2) % 7)) else if i = 10754 then some (.slice none 0 0) else none := by
  by_cases h0 : i = 0
  · subst h0; rw [if_pos rfl, stCells, List.getElem?_toArray, List.getElem?_cons_zero]
  · rw [if_neg h0]
    by_cases h00 : i = 1
    · subst h00; rw [if_pos rfl, stCells, List.getElem?_toArray, List.getElem?_cons_succ, List.getElem?_cons_zero]
    · rw [if_neg h00]
      by_cases h1 : i < 10754
      · rw [if_pos h1]
        have e : i = 2 + ((i - 2) / 7) * 7 + (i - 2) % 7 := by omega
        have ho : (i - 2) % 7 < 7 := by omega
        have h2 := st_reg nv R (j := (i - 2) / 7) (o := (i - 2) % 7) (by omega) ho
        rw [← e] at h2
        rw [h2]
        generalize (i - 2) % 7 = o at ho
        match o, ho with
        | 0, _ => rfl
        | 1, _ => rfl
        | 2, _ => rfl
        | 3, _ => rfl
        | 4, _ => rfl
        | 5, _ => rfl
        | 6, _ => rfl
      · rw [if_neg h1]
        by_cases h2 : i = 10754
        · subst h2
          rw [if_pos rfl, stCells, List.getElem?_toArray, List.getElem?_cons_succ, List.getElem?_cons_succ, List.getElem?_append_right (by rw [regCells_len]; omega), regCells_len, show 10752 - 1536 * 7 = 0 by decide, List.getElem?_cons_zero]
        · rw [if_neg h2]
          exact Array.getElem?_eq_none (by rw [st_size]; omega)
theorem st_set_names (nv v : Value) (R : Nat → RegV) : (stCells nv R).setIfInBounds 1 v = stCells v R := by
  apply Array.ext_getElem?
  intro i
  rw [Array.getElem?_setIfInBounds, st_get, st_get, st_size]
  by_cases h : 1 = i
  · subst h; simp
  · rw [if_neg h]
    by_cases h0 : i = 0
    · simp [h0]
    · rw [if_neg h0, if_neg h0, if_neg (Ne.symm h), if_neg (Ne.symm h)]
/-- a register's number is set -/
theorem st_set_n (nv : Value) (R : Nat → RegV) (j : Nat) (hj : j < 1536) (z : Int) : (stCells nv R).setIfInBounds (2 + j * 7) (.int .i64 z) = stCells nv (setR R j { R j with n := z }) := by
  apply Array.ext_getElem?
  intro i
  rw [Array.getElem?_setIfInBounds, st_get, st_get, st_size]
  by_cases h : 2 + j * 7 = i
  · subst h
    have e1 : (2 + j * 7 - 2) / 7 = j := by omega
    have e2 : (2 + j * 7 - 2) % 7 = 0 := by omega
    rw [if_pos rfl, if_pos (by omega), if_neg (by omega), if_neg (by omega), if_pos (by omega), e1, e2]
    simp [setR, RegV.at]
  · rw [if_neg h]
    by_cases h0 : i = 0
    · simp [h0]
    · rw [if_neg h0, if_neg h0]
      by_cases h00 : i = 1
      · simp [h00]
      · rw [if_neg h00, if_neg h00]
        by_cases h1 : i < 10754
        · rw [if_pos h1, if_pos h1]
          congr 1
          unfold setR
          split
          · rename_i hij
            have : (i - 2) % 7 ≠ 0 := by omega
            have ho : (i - 2) % 7 < 7 := by omega
            rw [hij]
            generalize (i - 2) % 7 = o at *
            match o, ho with
            | 0, _ => omega
            | 1, _ => rfl
            | 2, _ => rfl
            | 3, _ => rfl
            | 4, _ => rfl
            | 5, _ => rfl
            | 6, _ => rfl
          · rfl
        · rw [if_neg h1, if_neg h1]
/-- a register is set whole -/
theorem st_set_reg (nv : Value) (R : Nat → RegV) (j : Nat) (hj : j < 1536) (v : RegV) :
    ((((((((stCells nv R).setIfInBounds (2 + j * 7) (v.at 0)).setIfInBounds (2 + j * 7 + 1) (v.at 1)).setIfInBounds (2 + j * 7 + 2) (v.at 2)).setIfInBounds (2 + j * 7 + 3) (v.at 3)).setIfInBounds (2 + j * 7 + 4) (v.at 4)).setIfInBounds (2 + j * 7 + 5) (v.at 5)).setIfInBounds (2 + j * 7 + 6) (v.at 6)) = stCells nv (setR R j v) := by
  apply Array.ext_getElem?
  intro i
  have hsz := st_size nv R
  have hg := st_get nv R i
  have hg2 := st_get nv (setR R j v) i
  generalize stCells nv R = X at *
  generalize stCells nv (setR R j v) = Y at *
  simp only [Array.getElem?_setIfInBounds, Array.size_setIfInBounds, hsz, hg, hg2]
  clear hg hg2 hsz X Y
  by_cases h : 2 + j * 7 ≤ i ∧ i ≤ 2 + j * 7 + 6
  · obtain ⟨o, ho, rfl⟩ : ∃ o, o < 7 ∧ i = 2 + j * 7 + o := ⟨i - (2 + j * 7), by omega, by omega⟩
    have e1 : (2 + j * 7 + o - 2) / 7 = j := by omega
    have e2 : (2 + j * 7 + o - 2) % 7 = o := by omega
    have e3 : setR R j v j = v := by simp [setR]
    rw [if_neg (c := 2 + j * 7 + o = 0) (by omega), if_neg (c := 2 + j * 7 + o = 1) (by omega), if_pos (c := 2 + j * 7 + o < 10754) (by omega), if_neg (c := 2 + j * 7 + o = 0) (by omega), if_neg (c := 2 + j * 7 + o = 1) (by omega), if_pos (c := 2 + j * 7 + o < 10754) (by omega), e1, e2, e3]
    have hb : 2 + j * 7 + 6 < 10755 := by omega
    clear e1 e2 h e3
    match o, ho with
    | 0, _ => rw [if_neg (by omega), if_neg (by omega), if_neg (by omega), if_neg (by omega), if_neg (by omega), if_neg (by omega), if_pos (by omega), if_pos (by omega)]
    | 1, _ => rw [if_neg (by omega), if_neg (by omega), if_neg (by omega), if_neg (by omega), if_neg (by omega), if_pos (by omega), if_pos (by omega)]
    | 2, _ => rw [if_neg (by omega), if_neg (by omega), if_neg (by omega), if_neg (by omega), if_pos (by omega), if_pos (by omega)]
    | 3, _ => rw [if_neg (by omega), if_neg (by omega), if_neg (by omega), if_pos (by omega), if_pos (by omega)]
    | 4, _ => rw [if_neg (by omega), if_neg (by omega), if_pos (by omega), if_pos (by omega)]
    | 5, _ => rw [if_neg (by omega), if_pos (by omega), if_pos (by omega)]
    | 6, _ => rw [if_pos (by omega), if_pos (by omega)]
  · rw [if_neg (by omega), if_neg (by omega), if_neg (by omega), if_neg (by omega), if_neg (by omega), if_neg (by omega), if_neg (by omega)]
    by_cases h0 : i = 0
    · simp [h0]
    · rw [if_neg h0, if_neg h0]
      by_cases h00 : i = 1
      · simp [h00]
      · rw [if_neg h00, if_neg h00]
        by_cases h1 : i < 10754
        · rw [if_pos h1, if_pos h1]
          congr 1
          unfold setR
          rw [if_neg (by omega)]
        · rw [if_neg h1, if_neg h1]

/-! ### names -/
def nmC (k : ByteArray × Mean) : List Value := .string k.1 :: k.2.cells
def flatN (L : List (ByteArray × Mean)) : List Value := L.flatMap nmC
theorem flatN_len (L : List (ByteArray × Mean)) : (flatN L).length = L.length * 6 := by
  induction L with
  | nil => rfl
  | cons v V ih => simp [flatN, nmC, Mean.cells] at ih ⊢; omega
theorem flatN_cons (v : ByteArray × Mean) (V : List (ByteArray × Mean)) : flatN (v :: V) = nmC v ++ flatN V := rfl
theorem flatN_app (V U : List (ByteArray × Mean)) : flatN (V ++ U) = flatN V ++ flatN U := by simp [flatN]
theorem flatN_get (V : List (ByteArray × Mean)) : ∀ (i j : Nat) (x : Value), (h : i < V.length) → (nmC V[i])[j]? = some x → (flatN V)[i * 6 + j]? = some x := by
  induction V with
  | nil => intro i j v h; simp at h
  | cons u V ih =>
    intro i j x h hx
    cases i with
    | zero =>
      have hj : j < (nmC u).length := (List.getElem?_eq_some_iff.1 hx).1
      rw [flatN_cons, List.getElem?_append_left (by simpa using hj)]
      simpa using hx
    | succ i =>
      rw [flatN_cons, List.getElem?_append_right (by simp [nmC, Mean.cells]; omega)]
      have := ih i j x (by simpa using h) (by simpa using hx)
      rw [← this]
      congr 1
      simp [nmC, Mean.cells]; omega
theorem flatN_one (L : List (ByteArray × Mean)) : ∀ u ∈ flatN L, u.oneCell' = true := by
  intro u hu
  simp only [flatN, List.mem_flatMap, nmC, Mean.cells] at hu
  obtain ⟨t, ht, h2⟩ := hu
  simp only [List.mem_cons, List.not_mem_nil, or_false] at h2
  rcases h2 with rfl | rfl | rfl | rfl | rfl | rfl <;> rfl
def rowN (v : Value) (L : List (ByteArray × Mean)) : HProp := row v L.length 174 6 (flatN L)

structure RfS where
  names : List (ByteArray × Mean)
  regs : Nat → RegS
abbrev rtO (bs : Nat) : Obj := .cells #[.slice (some ⟨bs, 0, none⟩) 1 1, .slice none 0 0] 135
/-- the document's table, of one state -/
def RfAt (W : World) (F : HProp) (b : Nat) (S : RfS) (w : World) : Prop :=
  ∃ (m : Nat → Option Obj) (bs : Nat) (nv : Value) (R : Nat → RegV), (∀ j, j < 1536 → Rep m (R j) (S.regs j) ∧ (S.regs j).toks.length ≤ 20000) ∧
    Sat W (pts b (rtO bs) * (pts bs (.cells (stCells nv R) 132) * (rowN nv S.names * (roH m * F)))) w
theorem RfAt.focus {b : Nat} {S : RfS} (h : RfAt W F b S w) : ∃ Y : HProp, Sat W (F * Y) w ∧ ∀ (F' : HProp) (w' : World), Sat W (F' * Y) w' → RfAt W F' b S w' := by
  obtain ⟨m, bs, nv, R, h1, h2⟩ := h
  exact ⟨pts b (rtO bs) * (pts bs (.cells (stCells nv R) 132) * (rowN nv S.names * roH m)), h2.of_eq (by ac_rfl), fun F' w' h => ⟨m, bs, nv, R, h1, h.of_eq (by ac_rfl)⟩⟩
theorem RfAt.sat {b : Nat} {S : RfS} (h : RfAt W F b S w) : Sat W F w := by
  obtain ⟨Y, h1, -⟩ := h.focus
  exact h1.l
theorem RfAt.of_eq {b : Nat} {S : RfS} {F' : HProp} (h : RfAt W F b S w) (e : F = F') : RfAt W F' b S w := e ▸ h
theorem RfAt.ext {b : Nat} {S : RfS} (h : RfAt W F b S w) (k : Ext w w') : RfAt W F b S w' := by
  obtain ⟨Y, h1, back⟩ := h.focus
  exact back _ _ (h1.ext k)
theorem RfAt.alloc {b : Nat} {S : RfS} (h : RfAt W F b S w) (o : Obj) : RfAt W (pts w.heap.size o * F) b S (w.alloc o) := by
  obtain ⟨Y, h1, back⟩ := h.focus
  exact back _ _ ((h1.alloc o).asc')
theorem RfAt.less {b : Nat} {S : RfS} (h : RfAt W (A * F) b S w) : RfAt W F b S w := by
  obtain ⟨Y, h1, back⟩ := h.focus
  exact back _ _ (h1.asc.r)
end Go.Proofs.Yticljfpippbkkaa

/-
  The document's table, of one state: its registers. Conditions: those that each theorem names.
-/
namespace Go.Proofs.Yticljfpippbkkaa
open Go.RowKit Go.Sp
variable {W w w' : World} {F A : HProp}

abbrev rfX (b bs : Nat) (nv : Value) (R : Nat → RegV) (NL : List (ByteArray × Mean)) (F : HProp) : HProp :=
  pts b (rtO bs) * (pts bs (.cells (stCells nv R) 132) * (rowN nv NL * F))
set_option maxRecDepth 100000 in
theorem topR_any {b bs : Nat} {nv : Value} {R : Nat → RegV} {NL : List (ByteArray × Mean)} (h : Sat W (rfX b bs nv R NL F) w) :
    Calls Try.prog 72 #[.pointer (some ⟨b, 0, none⟩)] w fun e w' => e = .returned (.pointer (some ⟨bs, 0, none⟩)) ∧ w' = w.drew := by
  have h9 := h.drew
  obtain ⟨W9, hW9⟩ : ∃ W9, w.drew = W9 := ⟨_, rfl⟩
  rw [hW9] at h9
  have c0 := h9.cell (i := 0) rfl
  have lb := h9.lt
  have v0 : IntKind.i64.wrap 0 = 0 := rfl
  clear h h9
  go_enter Try.func72, Try.ntmps72
  go_upto_region 1 with fail
  refine wp_region_C (fun w' => w' = W9) (by kernel_rfl) ?_
  rw [hW9]
  refine wpC_take (i := 0) (v := ?_) rfl (by kernel_rfl) (by kernel_rfl) (by kernel_rfl) (fun _ _ _ h => h) (by rfl) ?_ ?_
  rotate_left 1
  · intro w hw; (subst hw; go_simp; try with_reducible rfl)
  refine wpC_take (i := 1) (v := ?_) rfl (by kernel_rfl) (by kernel_rfl) (by kernel_rfl) (fun _ _ _ h => h) (by rfl) ?_ ?_
  rotate_left 1
  · intro w hw; (subst hw; go_simp; try with_reducible rfl)
  refine wpC_take (i := 2) (v := ?_) rfl (by kernel_rfl) (by kernel_rfl) (by kernel_rfl) (fun _ _ _ h => h) (by rfl) ?_ ?_
  rotate_left 1
  · intro w hw; (subst hw; go_simp; try with_reducible rfl)
  refine wpC_take (i := 3) (v := ?_) rfl (by kernel_rfl) (by kernel_rfl) (by kernel_rfl) (fun _ _ _ h => h) (by rfl) ?_ ?_
  rotate_left 1
  · intro w hw; (subst hw; go_simp; try with_reducible rfl)
  refine wpC_take (i := 4) (v := ?_) rfl (by kernel_rfl) (by kernel_rfl) (by kernel_rfl) (fun _ _ _ h => h) (by rfl) ?_ ?_
  rotate_left 1
  · intro w hw; (subst hw; go_simp; try with_reducible rfl)
  refine wpC_take (i := 5) (v := ?_) rfl (by kernel_rfl) (by kernel_rfl) (by kernel_rfl) (fun _ _ _ h => h) (by rfl) ?_ ?_
  rotate_left 1
  · intro w hw; (subst hw; go_simp; try with_reducible rfl)
  refine wpC_take (i := 6) (v := ?_) rfl (by kernel_rfl) (by kernel_rfl) (by kernel_rfl) (fun _ _ _ h => h) (by rfl) ?_ ?_
  rotate_left 1
  · intro w hw; (subst hw; go_simp; try with_reducible rfl)
  refine wpC_take (i := 7) (v := ?_) rfl (by kernel_rfl) (by kernel_rfl) (by kernel_rfl) (fun _ _ _ h => h) (by rfl) ?_ ?_
  rotate_left 1
  · intro w hw; (subst hw; go_simp; try with_reducible rfl)
  refine wpC_take (i := 8) (v := ?_) rfl (by kernel_rfl) (by kernel_rfl) (by kernel_rfl) (fun _ _ _ h => h) (by rfl) ?_ ?_
  rotate_left 1
  · intro w hw; (subst hw; go_simp; try with_reducible rfl)
  refine wpC_take (i := 9) (v := ?_) rfl (by kernel_rfl) (by kernel_rfl) (by kernel_rfl) (fun _ _ _ h => h) (by rfl) ?_ ?_
  rotate_left 1
  · intro w hw; (subst hw; go_simp; try with_reducible rfl)
  refine wpC_take (i := 10) (v := ?_) rfl (by kernel_rfl) (by kernel_rfl) (by kernel_rfl) (fun _ _ _ h => h) (by rfl) ?_ ?_
  rotate_left 1
  · intro w hw; (subst hw; go_simp; try with_reducible rfl)
  refine wpC_one (i := 11) rfl (by kernel_rfl) (rfl) (fun K hK => ?_)
  go_simp
  refine hK _ _ ?_
  clear hK K
  refine wpC_done (by kernel_rfl) rfl ?_
  go_wp2
  go_ret
  exact ⟨rfl, hW9.symm⟩
theorem wrongR_any (b : Nat) (c i : Int) (w : World) : Calls Try.prog 65 #[.pointer (some ⟨b, 0, none⟩), .int .i64 c, .int .i64 i] w fun e w' => e = .returned (.int .i64 (wrongE c i)) ∧ w = w' := by
  by_cases h1 : c < 1 ∨ 5 < c
  · have e1 : wrongE c i = 1 := by rw [wrongE, if_pos h1]
    rw [e1]
    rcases h1 with h1 | h1
    · clear e1
      go_enter Try.func65, Try.ntmps65
      go_wp2
      go_ret
      exact ⟨rfl, rfl⟩
    · have h2 : ¬ c < 1 := by omega
      clear e1
      go_enter Try.func65, Try.ntmps65
      go_wp2
      go_ret
      exact ⟨rfl, rfl⟩
  · have h2 : ¬ c < 1 := by omega
    have h3 : ¬ 5 < c := by omega
    by_cases h4 : i < 0 ∨ 256 ≤ i
    · have e1 : wrongE c i = 11 := by rw [wrongE, if_neg h1, if_pos h4]
      rw [e1]
      clear h1 e1
      rcases h4 with h4 | h4
      · skip
        go_enter Try.func65, Try.ntmps65
        go_wp2
        go_ret
        exact ⟨rfl, rfl⟩
      · have h5 : ¬ i < 0 := by omega
        have h6 : 255 < i := by omega
        go_enter Try.func65, Try.ntmps65
        go_wp2
        go_ret
        exact ⟨rfl, rfl⟩
    · have e1 : wrongE c i = 0 := by rw [wrongE, if_neg h1, if_neg h4]
      rw [e1]
      have h5 : ¬ i < 0 := by omega
      have h6 : ¬ 255 < i := by omega
      clear h1 h4 e1
      go_enter Try.func65, Try.ntmps65
      go_wp2
      go_ret
      exact ⟨rfl, rfl⟩
def farR (x : Int) : Bool := decide (x < -2147483647) || decide (2147483647 < x)
theorem farR_any (x : Int) (w : World) : Calls Try.prog 91 #[.int .i64 x] w fun e w' => e = .returned (.bool (farR x)) ∧ w = w' := by
  by_cases h1 : x < -2147483647
  · have e : farR x = true := by simp [farR, h1]
    rw [e]
    clear e
    go_enter Try.func91, Try.ntmps91
    go_wp2
    go_ret
    exact ⟨rfl, rfl⟩
  · by_cases h2 : 2147483647 < x
    · have e : farR x = true := by simp [farR, h2]
      rw [e]
      clear e
      go_enter Try.func91, Try.ntmps91
      go_wp2
      go_ret
      exact ⟨rfl, rfl⟩
    · have e : farR x = false := by simp [farR, h1, h2]
      rw [e]
      clear e
      go_enter Try.func91, Try.ntmps91
      go_wp2
      go_ret
      exact ⟨rfl, rfl⟩
theorem dimR15_any (x : Int) (w : World) : Calls Try.prog 92 #[.int .i64 x] w fun e w' => e = .returned (.bool (dimB x)) ∧ w = w' := by
  by_cases h1 : -1073741823 ≤ x
  · by_cases h2 : x ≤ 1073741823
    · rw [dimB_yes h1 h2]
      go_enter Try.func92, Try.ntmps92
      go_wp2
      go_ret
      exact ⟨rfl, rfl⟩
    · rw [dimB_no (.inr h2)]
      go_enter Try.func92, Try.ntmps92
      go_wp2
      go_ret
      exact ⟨rfl, rfl⟩
  · rw [dimB_no (.inl h1)]
    go_enter Try.func92, Try.ntmps92
    go_wp2
    go_ret
    exact ⟨rfl, rfl⟩
theorem dimR02_any (x : Int) (w : World) : Calls Try.prog 101 #[.int .i64 x] w fun e w' => e = .returned (.bool (dimB x)) ∧ w = w' := by
  by_cases h1 : -1073741823 ≤ x
  · by_cases h2 : x ≤ 1073741823
    · rw [dimB_yes h1 h2]
      go_enter Try.func101, Try.ntmps101
      go_wp2
      go_ret
      exact ⟨rfl, rfl⟩
    · rw [dimB_no (.inr h2)]
      go_enter Try.func101, Try.ntmps101
      go_wp2
      go_ret
      exact ⟨rfl, rfl⟩
  · rw [dimB_no (.inl h1)]
    go_enter Try.func101, Try.ntmps101
    go_wp2
    go_ret
    exact ⟨rfl, rfl⟩
set_option maxRecDepth 100000 in
theorem glueR_any (g : Gl) (w : World) : Calls Try.prog 93 #[g.val] w fun e w' => e = .returned (.int .i64 (glueE g)) ∧ Ext w w' := by
  obtain ⟨a, b, c, o, p⟩ := g
  obtain ⟨da, hda⟩ : ∃ d, dimB a = d := ⟨_, rfl⟩
  have HCa := Lib.hid (fun w => dimR02_any a w)
  rw [hda] at HCa
  obtain ⟨db, hdb⟩ : ∃ d, dimB b = d := ⟨_, rfl⟩
  have HCb := Lib.hid (fun w => dimR02_any b w)
  rw [hdb] at HCb
  obtain ⟨dc, hdc⟩ : ∃ d, dimB c = d := ⟨_, rfl⟩
  have HCc := Lib.hid (fun w => dimR02_any c w)
  rw [hdc] at HCc
  have HX := Lib.hid (show Ext w (w.alloc (glO a b c o p)) from (Ext.refl w).alloc)
  have ht : glueE ⟨a, b, c, o, p⟩ = if (da && db && dc && ordB o && ordB p) = true then 0 else 30 := by rw [glueE, glueB, hda, hdb, hdc]
  rw [ht]
  clear ht hda hdb hdc
  cases da
  · simp only [Bool.false_and, Bool.false_eq_true, if_false]
    go_enter Try.func93, Try.ntmps93
    go_wp2_with fail
    with_reducible refine Calls.mono (HCa.out _) ?_
    rintro e w' ⟨rfl, rfl⟩
    go_wp2
    go_ret
    exact ⟨rfl, HX.out⟩
  cases db
  · simp only [Bool.true_and, Bool.false_and, Bool.false_eq_true, if_false]
    go_enter Try.func93, Try.ntmps93
    go_wp2_with fail
    with_reducible refine Calls.mono (HCa.out _) ?_
    rintro e w' ⟨rfl, rfl⟩
    go_wp2_with fail
    with_reducible refine Calls.mono (HCb.out _) ?_
    rintro e w' ⟨rfl, rfl⟩
    go_wp2
    go_ret
    exact ⟨rfl, HX.out⟩
  cases dc
  · simp only [Bool.true_and, Bool.false_and, Bool.false_eq_true, if_false]
    go_enter Try.func93, Try.ntmps93
    go_wp2_with fail
    with_reducible refine Calls.mono (HCa.out _) ?_
    rintro e w' ⟨rfl, rfl⟩
    go_wp2_with fail
    with_reducible refine Calls.mono (HCb.out _) ?_
    rintro e w' ⟨rfl, rfl⟩
    go_wp2_with fail
    with_reducible refine Calls.mono (HCc.out _) ?_
    rintro e w' ⟨rfl, rfl⟩
    go_wp2
    go_ret
    exact ⟨rfl, HX.out⟩
  simp only [Bool.true_and]
  by_cases h1 : o < 0
  · rw [if_neg (by simp [ordB]; omega)]
    go_enter Try.func93, Try.ntmps93
    go_wp2_with fail
    with_reducible refine Calls.mono (HCa.out _) ?_
    rintro e w' ⟨rfl, rfl⟩
    go_wp2_with fail
    with_reducible refine Calls.mono (HCb.out _) ?_
    rintro e w' ⟨rfl, rfl⟩
    go_wp2_with fail
    with_reducible refine Calls.mono (HCc.out _) ?_
    rintro e w' ⟨rfl, rfl⟩
    go_wp2
    go_ret
    exact ⟨rfl, HX.out⟩
  by_cases h2 : 3 < o
  · rw [if_neg (by simp [ordB]; omega)]
    go_enter Try.func93, Try.ntmps93
    go_wp2_with fail
    with_reducible refine Calls.mono (HCa.out _) ?_
    rintro e w' ⟨rfl, rfl⟩
    go_wp2_with fail
    with_reducible refine Calls.mono (HCb.out _) ?_
    rintro e w' ⟨rfl, rfl⟩
    go_wp2_with fail
    with_reducible refine Calls.mono (HCc.out _) ?_
    rintro e w' ⟨rfl, rfl⟩
    go_wp2
    go_ret
    exact ⟨rfl, HX.out⟩
  by_cases h3 : p < 0
  · rw [if_neg (by simp [ordB]; omega)]
    go_enter Try.func93, Try.ntmps93
    go_wp2_with fail
    with_reducible refine Calls.mono (HCa.out _) ?_
    rintro e w' ⟨rfl, rfl⟩
    go_wp2_with fail
    with_reducible refine Calls.mono (HCb.out _) ?_
    rintro e w' ⟨rfl, rfl⟩
    go_wp2_with fail
    with_reducible refine Calls.mono (HCc.out _) ?_
    rintro e w' ⟨rfl, rfl⟩
    go_wp2
    go_ret
    exact ⟨rfl, HX.out⟩
  by_cases h4 : 3 < p
  · rw [if_neg (by simp [ordB]; omega)]
    go_enter Try.func93, Try.ntmps93
    go_wp2_with fail
    with_reducible refine Calls.mono (HCa.out _) ?_
    rintro e w' ⟨rfl, rfl⟩
    go_wp2_with fail
    with_reducible refine Calls.mono (HCb.out _) ?_
    rintro e w' ⟨rfl, rfl⟩
    go_wp2_with fail
    with_reducible refine Calls.mono (HCc.out _) ?_
    rintro e w' ⟨rfl, rfl⟩
    go_wp2
    go_ret
    exact ⟨rfl, HX.out⟩
  rw [if_pos (by simp [ordB]; omega)]
  go_enter Try.func93, Try.ntmps93
  go_wp2_with fail
  with_reducible refine Calls.mono (HCa.out _) ?_
  rintro e w' ⟨rfl, rfl⟩
  go_wp2_with fail
  with_reducible refine Calls.mono (HCb.out _) ?_
  rintro e w' ⟨rfl, rfl⟩
  go_wp2_with fail
  with_reducible refine Calls.mono (HCc.out _) ?_
  rintro e w' ⟨rfl, rfl⟩
  go_wp2
  go_ret
  exact ⟨rfl, HX.out⟩

/-- may it be a value of the class 1, 2 or 3? (no tokens) -/
def valR (c n : Int) (g : Gl) : Bool := if c = 1 then glue0 g && !farR n else if c = 2 then glue0 g && dimB n else (n == 0) && glueB g
theorem run_neq_glue (w : World) (g : Gl) : (binOp .neq 57 g.val gl0.val).run Try.prog w = .ok (.bool (!glue0 g)) w := by
  simp only [binOp]
  simp [Op.equal, Op.maxDepth, run_eq_glue w g]
abbrev valO15 (n : Int) (g : Gl) (s : Value) : Obj := .cells #[.int .i64 n, .int .i64 g.nat, .int .i64 g.stretch, .int .i64 g.shrink, .int .i64 g.so, .int .i64 g.ko, s] 99
abbrev valV (n : Int) (g : Gl) (s : Value) : Value := .agg #[.int .i64 n, .int .i64 g.nat, .int .i64 g.stretch, .int .i64 g.shrink, .int .i64 g.so, .int .i64 g.ko, s]
set_option maxRecDepth 100000 in
set_option maxHeartbeats 4000000 in
theorem value1_any (n : Int) (g : Gl) (w : World) : Calls Try.prog 66 #[.int .i64 1, valV n g (.slice none 0 0)] w fun e w' => e = .returned (.bool (valR 1 n g)) ∧ Ext w w' := by
  obtain ⟨g1, g2, g3, g4, g5⟩ := g
  have HX := Lib.hid (show Ext w (w.alloc (valO15 n ⟨g1, g2, g3, g4, g5⟩ (.slice none 0 0))) from (Ext.refl w).alloc)
  have q1 := fun w => run_neq_glue w ⟨g1, g2, g3, g4, g5⟩
  have HF := Lib.hid (fun w => farR_any n w)
  rw [show valR 1 n ⟨g1, g2, g3, g4, g5⟩ = (glue0 ⟨g1, g2, g3, g4, g5⟩ && !farR n) from rfl]
  simp only [Gl.val, gl0] at q1
  generalize glue0 ⟨g1, g2, g3, g4, g5⟩ = z at *
  generalize farR n = f at *
  cases z
  · simp only [Bool.false_and]
    simp only [Bool.not_false] at q1
    go_enter Try.func66, Try.ntmps66
    go_wp2
    go_ret
    exact ⟨rfl, HX.out⟩
  · simp only [Bool.true_and]
    simp only [Bool.not_true] at q1
    go_enter Try.func66, Try.ntmps66
    go_wp2_with fail
    with_reducible refine Calls.mono (HF.out _) ?_
    rintro e w' ⟨rfl, rfl⟩
    go_wp2
    go_ret
    exact ⟨rfl, HX.out⟩
set_option maxRecDepth 100000 in
set_option maxHeartbeats 4000000 in
theorem value2_any (n : Int) (g : Gl) (w : World) : Calls Try.prog 66 #[.int .i64 2, valV n g (.slice none 0 0)] w fun e w' => e = .returned (.bool (valR 2 n g)) ∧ Ext w w' := by
  obtain ⟨g1, g2, g3, g4, g5⟩ := g
  have HX := Lib.hid (show Ext w (w.alloc (valO15 n ⟨g1, g2, g3, g4, g5⟩ (.slice none 0 0))) from (Ext.refl w).alloc)
  have q1 := fun w => run_neq_glue w ⟨g1, g2, g3, g4, g5⟩
  have HF := Lib.hid (fun w => dimR15_any n w)
  rw [show valR 2 n ⟨g1, g2, g3, g4, g5⟩ = (glue0 ⟨g1, g2, g3, g4, g5⟩ && dimB n) from rfl]
  simp only [Gl.val, gl0] at q1
  generalize glue0 ⟨g1, g2, g3, g4, g5⟩ = z at *
  generalize dimB n = f at *
  cases z
  · simp only [Bool.false_and]
    simp only [Bool.not_false] at q1
    go_enter Try.func66, Try.ntmps66
    go_wp2
    go_ret
    exact ⟨rfl, HX.out⟩
  · simp only [Bool.true_and]
    simp only [Bool.not_true] at q1
    go_enter Try.func66, Try.ntmps66
    go_wp2_with fail
    with_reducible refine Calls.mono (HF.out _) ?_
    rintro e w' ⟨rfl, rfl⟩
    go_wp2
    go_ret
    exact ⟨rfl, HX.out⟩
set_option maxRecDepth 100000 in
set_option maxHeartbeats 4000000 in
theorem value3_any (n : Int) (g : Gl) (w : World) : Calls Try.prog 66 #[.int .i64 3, valV n g (.slice none 0 0)] w fun e w' => e = .returned (.bool (valR 3 n g)) ∧ Ext w w' := by
  obtain ⟨g1, g2, g3, g4, g5⟩ := g
  have HX := Lib.hid (show Ext w (w.alloc (valO15 n ⟨g1, g2, g3, g4, g5⟩ (.slice none 0 0))) from (Ext.refl w).alloc)
  have HF := Lib.hid (fun w => glueR_any ⟨g1, g2, g3, g4, g5⟩ w)
  rw [show valR 3 n ⟨g1, g2, g3, g4, g5⟩ = ((n == 0) && glueB ⟨g1, g2, g3, g4, g5⟩) from rfl]
  rw [glueE] at HF
  generalize glueB ⟨g1, g2, g3, g4, g5⟩ = f at *
  by_cases hn : n = 0
  · subst hn
    simp only [beq_self_eq_true, Bool.true_and]
    cases f
    · simp only [Bool.false_eq_true, if_false] at HF
      go_enter Try.func66, Try.ntmps66
      go_wp2_with fail
      with_reducible refine Calls.mono (HF.out _) ?_
      rintro e w' ⟨rfl, hx⟩
      have HX2 := Lib.hid (HX.out.trans hx)
      clear hx
      go_wp2
      go_ret
      exact ⟨rfl, HX2.out⟩
    · simp only [if_true] at HF
      go_enter Try.func66, Try.ntmps66
      go_wp2_with fail
      with_reducible refine Calls.mono (HF.out _) ?_
      rintro e w' ⟨rfl, hx⟩
      have HX2 := Lib.hid (HX.out.trans hx)
      clear hx
      go_wp2
      go_ret
      exact ⟨rfl, HX2.out⟩
  · have q0 : (n == 0) = false := by rw [beq_eq_false_iff_ne]; exact hn
    have b0 : (n != 0) = true := by rw [bne_iff_ne]; exact hn
    rw [q0, Bool.false_and]
    clear hn
    go_enter Try.func66, Try.ntmps66
    go_wp2
    go_ret
    exact ⟨rfl, HX.out⟩
end Go.Proofs.Yticljfpippbkkaa
