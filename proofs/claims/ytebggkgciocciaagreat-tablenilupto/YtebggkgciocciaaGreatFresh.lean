
/-
  The fresh list of codes. Conditions: those that each theorem names.
-/
import Derived.Test.YtebggkgciocciaaGreatCodesV
import Derived.Test.YtebggkgciocciaaGreatStep
import Derived.Deep.LoopGhost
import Derived.Deep.DeepCutAuto
namespace Go.Proofs.YtebggkgciocciaaGreat
open Go.RowKit Go.Sp
variable {W w w' : World} {F F' : HProp}

def baseL : List Int := (List.range 256).map fun c => if (97 ≤ c ∧ c ≤ 122) ∨ (65 ≤ c ∧ c ≤ 90) then 11 else 12
def freshL : List Int := (((((baseL.set 92 0).set 13 5).set 32 10).set 0 9).set 37 14).set 127 15

theorem freshL_eq : freshL = (((((baseL.set 92 0).set 13 5).set 32 10).set 0 9).set 37 14).set 127 15 := rfl
theorem baseL_len : baseL.length = 256 := by simp [baseL]
theorem freshL_len : freshL.length = 256 := by simp [freshL, baseL_len]
theorem baseL_at (k : Nat) (h : k < 256) : baseL[k]? = some (if (97 ≤ k ∧ k ≤ 122) ∨ (65 ≤ k ∧ k ≤ 90) then 11 else 12) := by
  simp [baseL, h]

theorem _root_.Go.Sp.Sat.setC {b i : Nat} {L : List Int} {e : TypeId} {A : HProp} (x : Int) (h : Sat W (pts b (codesO L e) * A) w) : Sat W (pts b (codesO (L.set i x) e) * A) (w.setCell ⟨b, i, none⟩ (.int .i64 x)) := by
  have h1 := h.set (i := i) (v := .int .i64 x)
  have e1 : ((L.map (Value.int .i64)).toArray.setIfInBounds i (.int .i64 x)) = ((L.set i x).map (Value.int .i64)).toArray := by
    apply Array.ext'
    simp [List.map_set]
  rw [e1] at h1
  exact h1

theorem _root_.Go.Sp.Sat.cellC {b : Nat} {L : List Int} {e : TypeId} {A : HProp} (h : Sat W (pts b (codesO L e) * A) w) (i : Nat) (hi : i < L.length) : ∃ x, w.cell? ⟨b, i, none⟩ = some (.int .i64 x) ∧ w.frozen? ⟨b, i, none⟩ = false := by
  refine ⟨L[i], h.cell ?_, h.free⟩
  simp [hi]


theorem take_set_succ {L M : List Int} {k : Nat} {x : Int} (h : L.take k = M.take k) (hL : k < L.length) (hM : M[k]? = some x) : (L.set k x).take (k + 1) = M.take (k + 1) := by
  rw [List.take_add_one, List.take_add_one, List.take_set_of_le (Nat.le_refl _), h, List.getElem?_set_self hL, hM]


def zc256 : Array Value := ((List.replicate 256 (0 : Int)).map (Value.int .i64)).toArray
@[simp] theorem zeroValue_c (w : World) : (zeroValue 69).run Tryz.prog w = .ok (.agg zc256) w := by kernel_rfl
@[simp] theorem zc256_size : zc256.size = 256 := by rw [zc256, List.size_toArray, List.length_map, List.length_replicate]
@[simp] theorem zc256_ne : zc256 ≠ #[] := by intro h; have := congrArg Array.size h; simp at this

theorem _root_.Go.Sp.Sat.setRowC {b : Nat} {L M : List Int} {e : TypeId} {A : HProp} (h : Sat W (pts b (codesO L e) * A) w) : Sat W (pts b (codesO M e) * A) (w.setRow b (M.map (Value.int .i64)).toArray) :=
  h.upd ⟨rfl, rfl, rfl⟩ (setRow_heap w b _ _ e _ h.blk) fun k _ hk hx => by rw [setRow_other w b k _ hk]; exact hx

theorem one_codes (L : List Int) : ((L.map (Value.int .i64)).toArray).all (·.oneCell') = true := by
  simp [Value.oneCell']


theorem zero_two (h : Sat W F w) : Sat W (pts (w.heap.size + 1) (codesO (List.replicate 256 0) 69) * (pts w.heap.size (codesO (List.replicate 256 0) 69) * F)) ((w.alloc (.cells zc256 69)).alloc (.cells zc256 69)) := by
  have h2 := (h.alloc (.cells zc256 69)).alloc (.cells zc256 69)
  have e1 : (w.alloc (.cells zc256 69)).heap.size = w.heap.size + 1 := by simp only [World.alloc, Array.size_push]
  rw [e1] at h2
  have e2 : (Obj.cells zc256 69) = codesO (List.replicate 256 0) 69 := rfl
  rw [e2] at h2 ⊢
  exact h2

set_option maxRecDepth 1000000 in
set_option maxHeartbeats 8000000 in
theorem fresh_any (h : Sat W F w) : Calls Tryz.prog 70 #[] w fun e w' => e = .returned (codesV freshL) ∧ Sat W F w' := by
  have HZ := Lib.hid (zero_two h)
  obtain ⟨fl, hfl⟩ : ∃ fl, freshL = fl := ⟨_, rfl⟩
  rw [hfl]
  have HFN := Lib.hid (show fl.length = 256 by rw [← hfl]; exact freshL_len)
  have HFL := Lib.hid hfl
  clear hfl
  clear h
  go_enter Tryz.func70, Tryz.ntmps70
  go_wp2_with fail
  go_loopg [3] 256 (fun g s3 wx => ∃ (k : Nat) (L : List Int), k ≤ 256 ∧ g = 256 - k ∧ s3 = .int .i64 k ∧ L.length = 256 ∧ L.take k = baseL.take k ∧ Sat W (pts (w.heap.size + 1) (codesO L 69) * (pts w.heap.size (codesO (List.replicate 256 0) 69) * F)) wx)
  case atStart => exact ⟨0, List.replicate 256 0, by omega, rfl, rfl, by simp, rfl, (show Sat W (pts (w.heap.size + 1) (codesO (List.replicate 256 0) 69) * (pts w.heap.size (codesO (List.replicate 256 0) 69) * F)) _ from HZ.out)⟩
  case round =>
    obtain ⟨k, L, hk, rfl, rfl, hl, ht, hx⟩ := hrel
    have HL := Lib.hid hl
    have HT := Lib.hid ht
    have HX := Lib.hid hx
    clear hl ht hx
    by_cases hlt : k < 256
    · obtain ⟨x, k0, f0⟩ := HX.out.cellC k (by rw [HL.out]; exact hlt)
      have lb := HX.out.lt
      have hb := baseL_at k hlt
      have i1 : (k : Int) < 256 := by omega
      have i2 : (0 : Int) ≤ (k : Int) := by omega
      by_cases h1 : (97 ≤ k ∧ k ≤ 122) ∨ (65 ≤ k ∧ k ≤ 90)
      · rw [if_pos h1] at hb
        have HS := Lib.hid (HX.out.setC (i := k) 11)
        have HB := Lib.hid (take_set_succ HT.out (by rw [HL.out]; exact hlt) hb)
        have h2 : (97 ≤ (k : Int) ∧ (k : Int) ≤ 122) ∨ (¬ 97 ≤ (k : Int) ∧ 65 ≤ (k : Int) ∧ (k : Int) ≤ 90) := by omega
        clear hb h1
        rcases h2 with ⟨j1, j2⟩ | ⟨j1, j2, j3⟩
        all_goals
          go_wp2
          go_roundg (256 - (k + 1))
          case measure => omega
          case rel => exact ⟨k + 1, L.set k 11, by omega, rfl, by go_num, by rw [List.length_set]; exact HL.out, HB.out, HS.out⟩
      · rw [if_neg h1] at hb
        have HS := Lib.hid (HX.out.setC (i := k) 12)
        have HB := Lib.hid (take_set_succ HT.out (by rw [HL.out]; exact hlt) hb)
        have h2 : (97 ≤ (k : Int) ∧ ¬ (k : Int) ≤ 122) ∨ (¬ 97 ≤ (k : Int) ∧ 65 ≤ (k : Int) ∧ ¬ (k : Int) ≤ 90) ∨ (¬ 97 ≤ (k : Int) ∧ ¬ 65 ≤ (k : Int)) := by omega
        clear hb h1
        rcases h2 with ⟨j1, j2⟩ | ⟨j1, j2, j3⟩ | ⟨j1, j2⟩
        · have j3 : 65 ≤ (k : Int) := by omega
          have j4 : ¬ (k : Int) ≤ 90 := by omega
          go_wp2
          go_roundg (256 - (k + 1))
          case measure => omega
          case rel => exact ⟨k + 1, L.set k 12, by omega, rfl, by go_num, by rw [List.length_set]; exact HL.out, HB.out, HS.out⟩
        · go_wp2
          go_roundg (256 - (k + 1))
          case measure => omega
          case rel => exact ⟨k + 1, L.set k 12, by omega, rfl, by go_num, by rw [List.length_set]; exact HL.out, HB.out, HS.out⟩
        · go_wp2
          go_roundg (256 - (k + 1))
          case measure => omega
          case rel => exact ⟨k + 1, L.set k 12, by omega, rfl, by go_num, by rw [List.length_set]; exact HL.out, HB.out, HS.out⟩
    · have hk2 : 256 = k := by omega
      subst hk2
      have hL : L = baseL := by
        have := HT.out
        rwa [List.take_of_length_le (by rw [HL.out]; exact Nat.le_refl _), List.take_of_length_le (by rw [baseL_len]; exact Nat.le_refl _)] at this
      subst hL
      have HS := Lib.hid ((((((HX.out.setC (i := 92) 0).setC (i := 13) 5).setC (i := 32) 10).setC (i := 0) 9).setC (i := 37) 14).setC (i := 127) 15)
      obtain ⟨x1, k1, g1⟩ := HX.out.cellC 92 (by rw [baseL_len]; omega)
      obtain ⟨x2, k2, g2⟩ := HX.out.cellC 13 (by rw [baseL_len]; omega)
      obtain ⟨x3, k3, g3⟩ := HX.out.cellC 32 (by rw [baseL_len]; omega)
      obtain ⟨x4, k4, g4⟩ := HX.out.cellC 0 (by rw [baseL_len]; omega)
      obtain ⟨x5, k5, g5⟩ := HX.out.cellC 37 (by rw [baseL_len]; omega)
      obtain ⟨x6, k6, g6⟩ := HX.out.cellC 127 (by rw [baseL_len]; omega)
      have lb := HX.out.lt
      rw [← freshL_eq, HFL.out] at HS
      clear hlt
      go_upto_region 11 with fail
      generalize ((((((wr.setCell ⟨w.heap.size + 1, 92, none⟩ (.int .i64 0)).setCell ⟨w.heap.size + 1, 13, none⟩ (.int .i64 5)).setCell ⟨w.heap.size + 1, 32, none⟩ (.int .i64 10)).setCell ⟨w.heap.size + 1, 0, none⟩ (.int .i64 9)).setCell ⟨w.heap.size + 1, 37, none⟩ (.int .i64 14)).setCell ⟨w.heap.size + 1, 127, none⟩ (.int .i64 15)) = W2 at *
      clear x1 k1 g1 k2 g2 k3 g3 k4 g4 k5 g5 k6 g6 lb HX
      have hb1 := HS.out.blk
      have hb0 := HS.out.rot.blk
      go_wp2_with fail
      refine wp_load_row 69 (.tmp 1) (by rfl) (w.heap.size + 1) (by rfl) _ _ _ _ hb1 Tryz.underlying69 (by rfl) ?_ ?_
      · rw [size_codes]; simp [HFN.out]
      go_step
      refine wpList_store_row (by rfl) 69 (.tmp 0) (.tmp 30) (by rfl) w.heap.size (fl.map (Value.int .i64)).toArray (by rfl) (by rfl) _ _ hb0 ?_ ?_ ?_ ?_
      · rw [size_codes]; simp [HFN.out]
      · simp [HFN.out]
      · exact one_codes fl
      have HE := Lib.hid (Sat.setRowC (M := fl) HS.out.rot)
      clear hb0 hb1
      go_wp2
      (try simp only [Exit.inBlock, Exit.then])
      refine bodyPost_ret (v := codesV fl) (results_cell_row (fn := Tryz.f70) rfl _ _ w.heap.size 69 (fl.map (Value.int .i64)).toArray (0, 0) _ rfl HE.out.blk Tryz.underlying69 (by rfl) (by rw [size_codes]; simp [HFN.out])) rfl ⟨rfl, HE.out.r.r⟩

end Go.Proofs.YtebggkgciocciaaGreat
