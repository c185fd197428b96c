
/-
  A new table. Conditions: none but what each theorem names.
-/
import Derived.Test.YtebggkgciocciaaGreatTabM
import Derived.Test.YtebggkgciocciaaGreatFresh
namespace Go.Proofs.YtebggkgciocciaaGreat
open Go.RowKit Go.Sp
variable {W w w' : World} {F A : HProp}

def R0 : Nat → RegV := fun _ => ⟨0, ⟨0, 0, 0, 0, 0⟩, .slice none 0 0⟩
def zcT : Array Value := (.map none :: ((List.replicate 1536 [.int .i64 0, .int .i64 0, .int .i64 0, .int .i64 0, .int .i64 0, .int .i64 0, .slice none 0 0]).flatten ++ [.slice none 0 0, .slice none 0 0])).toArray
set_option maxRecDepth 1000000 in
@[simp] theorem zeroValue_T (w : World) : (zeroValue 34).run Tryz.prog w = .ok (.agg zcT) w := by kernel_rfl
theorem regCells_zero (n : Nat) : regCells R0 n = (List.replicate n [.int .i64 0, .int .i64 0, .int .i64 0, .int .i64 0, .int .i64 0, .int .i64 0, .slice none 0 0]).flatten := by
  induction n with
  | zero => rfl
  | succ n ih => rw [regCells, ih, List.replicate_succ', List.flatten_append, List.flatten_singleton]; rfl
theorem zcT_set (nm : Nat) : zcT.setIfInBounds 0 (.map (some nm)) = tabCells nm R0 (.slice none 0 0) (.slice none 0 0) := by
  unfold zcT tabCells
  rw [regCells_zero]
  apply Array.ext'
  rw [Array.toList_setIfInBounds]
  rfl
@[simp] theorem zcT_size : zcT.size = 10755 := by
  have := congrArg Array.size (zcT_set 0)
  rwa [Array.size_setIfInBounds, tab_size] at this
@[simp] theorem zcT_ne : zcT ≠ #[] := by intro h; have := congrArg Array.size h; simp at this

/-- the registers while the codes come in -/
def rN (C : List Int) (k : Nat) : Nat → RegV := fun j => if 1280 ≤ j ∧ j < 1280 + k then { R0 j with n := C.getD (j - 1280) 0 } else R0 j
theorem rN_zero (C : List Int) : rN C 0 = R0 := by
  funext j
  rw [rN, if_neg (by omega)]
theorem rN_succ (C : List Int) (k : Nat) : setR (rN C k) (1280 + k) { rN C k (1280 + k) with n := C.getD k 0 } = rN C (k + 1) := by
  funext j
  unfold setR rN
  by_cases h : j = 1280 + k
  · subst h
    rw [if_pos rfl, if_neg (by omega), if_pos (by omega), Nat.add_sub_cancel_left]
  · rw [if_neg h]
    by_cases h2 : 1280 ≤ j ∧ j < 1280 + k
    · rw [if_pos h2, if_pos (by omega)]
    · rw [if_neg h2, if_neg (by omega)]

def newS : TabS := ⟨fun _ => none, fun j => ⟨if 1280 ≤ j ∧ j < 1536 then freshL.getD (j - 1280) 0 else 0, ⟨0, 0, 0, 0, 0⟩, []⟩, [], []⟩

theorem new_end {b nm : Nat} {fl : List Int} (hf : freshL = fl) (h : Sat W (pts b (.cells (tabCells nm (rN fl 256) (.slice none 0 0) (.slice none 0 0)) 34) * (mapH Value.string Mean.val nm 0 (fun _ => none) * F)) w) : TabAt W F b 0 newS w := by
  subst hf
  have hnil : RdM (fun _ => none) (.slice none 0 0) [] := fun w _ => rowT_rd (W := w) (A := own w) (Sat.row_nil (Sat.start w))
  refine ⟨fun _ => none, nm, .slice none 0 0, .slice none 0 0, rN freshL 256, [], ⟨fun j hj => ⟨⟨?_, ?_, ?_⟩, by simp [newS]⟩, hnil, by simp [newS], rfl, by simp [newS]⟩, ?_⟩
  · simp only [newS, rN]
    by_cases h : 1280 ≤ j ∧ j < 1280 + 256
    · rw [if_pos h, if_pos (by omega)]
    · rw [if_neg h, if_neg (by omega)]; rfl
  · simp only [newS, rN]
    split <;> rfl
  · have e : (rN freshL 256 j).s = .slice none 0 0 := by
      simp only [rN]
      split <;> rfl
    rw [e]
    exact hnil
  · have h2 : Sat W (row (.slice none 0 0) 0 83 4 [] * _) w := h.row_nil (e := 83) (size := 4)
    refine h2.of_eq ?_
    rw [show roH (fun _ => none) = emp from rfl, emp_star]
    simp only [grpsH, newS, emp_star, List.length_nil, flatG, List.flatMap_nil]
    ac_rfl

theorem size_intN : (Tryz.prog.info? 3).map (·.size) = some 1 := by kernel_rfl
theorem run_index_codesN (C : List Int) (k : Nat) (hk : k < C.length) (hC : C.length = 256) (w : World) : (Instr.index 69 (codesV C) (.int .i64 k)).run Tryz.prog w = .ok (.int .i64 (C.getD k 0)) w := by
  have hu := Tryz.underlying69
  have h1 : 0 ≤ (k : Int) ∧ (k : Int) < 256 := by omega
  have hs : (sizeOf 3).run Tryz.prog w = .ok 1 w := by
    have := size_intN
    cases hq : Tryz.prog.info? 3 with
    | none => rw [hq] at this; cases this
    | some i => rw [hq] at this; simp only [Option.map_some, Option.some.injEq] at this; simp [sizeOf, typeInfo, hq, this]
  simp only [Instr.index, Sem.run_bind, asIntOf, run_underlying hu w, Result.andThen_ok, Sem.run_pure]
  go_simp
  rw [List.getElem?_eq_getElem hk]
  rfl

set_option maxRecDepth 1000000 in
set_option maxHeartbeats 8000000 in
theorem new_any (h : Sat W F w) : Calls Tryz.prog 41 #[] w fun e w' => ∃ b, e = .returned (.pointer (some ⟨b, 0, none⟩)) ∧ TabAt W F b 0 newS w' := by
  have hmm := @run_makeMap Tryz.prog
  obtain ⟨W1, hW1⟩ : ∃ W1, (w.alloc (.map #[] 0)).alloc (.cells (zcT.setIfInBounds 0 (.map (some w.heap.size))) 34) = W1 := ⟨_, rfl⟩
  obtain ⟨nm, hnm⟩ : ∃ nm, w.heap.size = nm := ⟨_, rfl⟩
  obtain ⟨fl, hfl⟩ : ∃ fl, freshL = fl := ⟨_, rfl⟩
  have h1 : Sat W (pts (nm + 1) (.cells (tabCells nm (rN fl 0) (.slice none 0 0) (.slice none 0 0)) 34) * (mapH Value.string Mean.val nm 0 (fun _ => none) * F)) W1 := by
    have h1 := (Sat.map_new (kE := Value.string) (vE := Mean.val) h).alloc (.cells (zcT.setIfInBounds 0 (.map (some w.heap.size))) 34)
    rw [hW1, zcT_set, hnm, show (w.alloc (.map #[] 0)).heap.size = nm + 1 by simp [hnm], ← rN_zero fl] at h1
    exact h1
  have HFR := Lib.hid (fresh_any h1)
  rw [hfl] at HFR
  have HFN := Lib.hid (show fl.length = 256 by rw [← hfl]; exact freshL_len)
  have HFL := Lib.hid hfl
  have HW := Lib.hid hW1
  have HN := Lib.hid hnm
  clear h h1 hfl hW1 hnm
  go_enter Tryz.func41, Tryz.ntmps41
  go_wp2_with fail
  rw [show Tryz.zeroCells34 = zcT from by kernel_rfl]
  rw [HW.out, HN.out]
  generalize zcT.setIfInBounds 0 (.map (some nm)) = zz at *
  refine Calls.mono HFR.out ?_
  rintro e w' ⟨rfl, h2⟩
  have H2 := Lib.hid h2
  clear h2 HFR HW HN
  go_wp2_with fail
  go_loopg [8] 256 (fun g s8 wx => ∃ (k : Nat), k ≤ 256 ∧ g = 256 - k ∧ s8 = .int .i64 k ∧ Sat W (pts (nm + 1) (.cells (tabCells nm (rN fl k) (.slice none 0 0) (.slice none 0 0)) 34) * (mapH Value.string Mean.val nm 0 (fun _ => none) * F)) wx)
  case atStart => exact ⟨0, by omega, rfl, rfl, H2.out⟩
  case round =>
    obtain ⟨k, hk, rfl, rfl, hx⟩ := hrel
    have HX := Lib.hid hx
    clear hx
    by_cases hlt : k < 256
    · have hc := HX.out.cell (i := 1 + (1280 + k) * 7) (v := .int .i64 (rN fl k (1280 + k)).n) (tab_reg _ _ _ _ (o := 0) (by omega) (by omega))
      have f0 := HX.out.free (i := 1 + (1280 + k) * 7)
      have lb := HX.out.lt
      have hget := fun w => run_index_codesN fl k (by rw [HFN.out]; exact hlt) HFN.out w
      have HS := HX.out.set (i := 1 + (1280 + k) * 7) (v := .int .i64 (fl.getD k 0))
      rw [tab_set_n _ _ _ _ (1280 + k) (by omega), rN_succ] at HS
      rw [show 1 + (1280 + k) * 7 = 8961 + k * 7 by omega] at hc f0 HS
      have HS2 := Lib.hid HS
      have i1 : (k : Int) < 256 := by omega
      clear HS
      go_wp2
      go_roundg (256 - (k + 1))
      case measure => omega
      case rel => exact ⟨k + 1, by omega, rfl, by go_num, HS2.out⟩
    · obtain rfl : 256 = k := by omega
      go_wp2
      go_ret
      exact ⟨nm + 1, rfl, new_end HFL.out HX.out⟩
end Go.Proofs.YtebggkgciocciaaGreat
