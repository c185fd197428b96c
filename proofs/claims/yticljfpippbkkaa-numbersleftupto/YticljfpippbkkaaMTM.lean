import Derived.Test.YticljfpippbkkaaMTK
import Derived.Test.YticljfpippbkkaaMLA
import Derived.Deep.LoopGhost
import Derived.Deep.DeepCutAuto
/-
  A table: a register gets a value. Conditions: those that each theorem names.
-/
namespace Go.Proofs.Yticljfpippbkkaa
open Go.RowKit Go.Sp
variable {W w w' : World} {F A : HProp}

def setS (f : Nat → RegS) (j : Nat) (v : RegS) : Nat → RegS := fun i => if i = j then v else f i

theorem TabAt.drewD {b N : Nat} {S : TabS} (h : TabAt W F b N S w) : TabAt W F b N S w.drew := by
  obtain ⟨m, nm, gs, lt, R, V, h1, h2⟩ := h
  exact ⟨m, nm, gs, lt, R, V, h1, h2.drew⟩
theorem TabAt.less {b N : Nat} {S : TabS} (h : TabAt W (A * F) b N S w) : TabAt W F b N S w := by
  obtain ⟨m, nm, gs, lt, R, V, h1, h2⟩ := h
  exact ⟨m, nm, gs, lt, R, V, h1, (h2.of_eq (show _ = A * (pts b (.cells (tabCells nm R gs lt) 64) * (roH m * (mapH Value.string Mean.val nm N S.names * (row gs V.length 143 4 (flatG V) * (grpsH m V S.groups * F))))) by ac_rfl)).r⟩

/-- what the table's block and what lies beside it are, when a register's seven cells have been set -/
theorem put_end {b N nm : Nat} {S : TabS} {m : Nat → Option Obj} {gs lt u : Value} {R : Nat → RegV} {V : List GrpV} {v : RegS} {c i : Nat} (hc : c ≤ 5) (hi : i < 256) (hl : v.toks.length ≤ 20000)
    (hT : (∀ j, j < 1536 → Rep m (R j) (S.regs j) ∧ (S.regs j).toks.length ≤ 20000) ∧ RdM m lt S.later ∧ S.later.length ≤ 20000 ∧ V.length = S.groups.length ∧ S.groups.length ≤ 200)
    (h : Sat W (pts b (.cells (tabCells nm R gs lt) 64) * (rowT u v.toks * (roH m * (mapH Value.string Mean.val nm N S.names * (row gs V.length 143 4 (flatG V) * (grpsH m V S.groups * F)))))) w) :
    TabAt W F b N { S with regs := setS S.regs (c * 256 + i) v } (((((((w.setCell ⟨b, 1 + c * 1792 + i * 7, none⟩ (.int .i64 v.n)).setCell ⟨b, 1 + c * 1792 + i * 7 + 1, none⟩ (.int .i64 v.g.nat)).setCell ⟨b, 1 + c * 1792 + i * 7 + 2, none⟩ (.int .i64 v.g.stretch)).setCell ⟨b, 1 + c * 1792 + i * 7 + 3, none⟩ (.int .i64 v.g.shrink)).setCell ⟨b, 1 + c * 1792 + i * 7 + 4, none⟩ (.int .i64 v.g.so)).setCell ⟨b, 1 + c * 1792 + i * 7 + 5, none⟩ (.int .i64 v.g.ko)).setCell ⟨b, 1 + c * 1792 + i * 7 + 6, none⟩ u) := by
  have hj : c * 256 + i < 1536 := by omega
  have e : 1 + c * 1792 + i * 7 = 1 + (c * 256 + i) * 7 := by omega
  have h2 := ((((((h.set (i := 1 + c * 1792 + i * 7) (v := .int .i64 v.n)).set (i := 1 + c * 1792 + i * 7 + 1) (v := .int .i64 v.g.nat)).set (i := 1 + c * 1792 + i * 7 + 2) (v := .int .i64 v.g.stretch)).set (i := 1 + c * 1792 + i * 7 + 3) (v := .int .i64 v.g.shrink)).set (i := 1 + c * 1792 + i * 7 + 4) (v := .int .i64 v.g.so)).set (i := 1 + c * 1792 + i * 7 + 5) (v := .int .i64 v.g.ko)).set (i := 1 + c * 1792 + i * 7 + 6) (v := u)
  have h3 := tab_set_reg nm R gs lt (c * 256 + i) hj ⟨v.n, v.g, u⟩
  simp only [RegV.at] at h3
  rw [← e] at h3
  rw [h3] at h2
  have h4 := h2.of_eq (show _ = rowT u v.toks * (roH m * (pts b (.cells (tabCells nm (setR R (c * 256 + i) ⟨v.n, v.g, u⟩) gs lt) 64) * (mapH Value.string Mean.val nm N S.names * (row gs V.length 143 4 (flatG V) * (grpsH m V S.groups * F))))) by ac_rfl)
  obtain ⟨m', h5, hm, hr⟩ := h4.row_stays
  obtain ⟨t1, t2, t3, t4, t5⟩ := hT
  refine ⟨m', nm, gs, lt, setR R (c * 256 + i) ⟨v.n, v.g, u⟩, V, ⟨fun j hj => ?_, t2.mono hm, t3, t4, t5⟩, ?_⟩
  · by_cases hjj : j = c * 256 + i
    · subst hjj
      simp only [setR, setS, if_true]
      exact ⟨⟨rfl, rfl, hr⟩, hl⟩
    · simp only [setR, setS, if_neg hjj]
      exact ⟨(t1 j hj).1.mono hm, (t1 j hj).2⟩
  · have h6 : Sat W (grpsH m V S.groups * (roH m' * (pts b (.cells (tabCells nm (setR R (c * 256 + i) ⟨v.n, v.g, u⟩) gs lt) 64) * (mapH Value.string Mean.val nm N S.names * (row gs V.length 143 4 (flatG V) * F))))) _ := h5.of_eq (by ac_rfl)
    exact (h6.imp_l (grpsH_mono hm V S.groups)).of_eq (by ac_rfl)

set_option maxRecDepth 100000 in
set_option maxHeartbeats 8000000 in
theorem put_flat {b N : Nat} {S : TabS} {c i : Nat} {v : RegS} {s : Value} (hc : c ≤ 5) (hi : i < 256) (hg : S.groups = []) (hl : v.toks.length ≤ 20000) (hv : ∀ w', Sat W F w' → RdT w' s v.toks) (h : TabAt W F b N S w) :
    Calls Try.prog 64 #[.pointer (some ⟨b, 0, none⟩), .int .i64 c, .int .i64 i, valA v s, .bool false] w fun e w' => e = .returned (.tuple #[]) ∧ TabAt W F b N { S with regs := setS S.regs (c * 256 + i) v } w' := by
  obtain ⟨sa, sc, rfl⟩ := (hv w h.sat).val
  obtain ⟨m, nm, gs, lt, R, V, hT, hs⟩ := h
  obtain ⟨ga, gc, rfl⟩ := Sat.row_value hs.r.r.r
  have hV : V.length = 0 := by rw [hT.2.2.2.1, hg]; rfl
  have hbx := (hs.alloc (valO v (.slice sa v.toks.length sc))).alloc (.cells #[.int .i64 c, .int .i64 i] 170)
  rw [show (w.alloc (valO v (.slice sa v.toks.length sc))).heap.size = w.heap.size + 1 by simp] at hbx
  have HT := Lib.hid hT
  have HL := Lib.hid hl
  have HVV := Lib.hid hv
  obtain ⟨n, ⟨g1, g2, g3, g4, g5⟩, L⟩ := v
  simp only [valA]
  simp only at hl
  obtain ⟨k, hk⟩ : ∃ k, L.length = k := ⟨_, rfl⟩
  simp only [hk] at hbx HVV
  simp only [hk]
  have HKK := Lib.hid hk
  have c0 := hbx.r.r.cell (i := 10753) (tab_groups nm R _ lt)
  rw [hV] at c0
  have lb := hbx.r.r.lt
  have v6 := hbx.r.cell (i := 6) rfl
  have lv := hbx.r.lt
  have HB := Lib.hid hbx
  have i1 : (c : Int) < 6 := by omega
  have i2 : (i : Int) < 256 := by omega
  clear hT hs hbx hv hl hk hg hV
  go_enter Try.func64, Try.ntmps64
  go_upto_region 2 with fail
  generalize (w.alloc (.cells #[.int .i64 n, .int .i64 g1, .int .i64 g2, .int .i64 g3, .int .i64 g4, .int .i64 g5, .slice sa k sc] 59)).alloc (.cells #[.int .i64 c, .int .i64 i] 170) = W1 at *
  generalize w.heap.size = bx at *
  go_upto_region 13 with fail
  have HCL := Lib.hid (clone_any (.slice sa k sc) L (fun w' h => HVV.out w' h.r.r.r.r.r.r.r) (by have := HL.out; (try simp only at this); omega) HB.out)
  clear c0
  go_wp2_with fail
  refine Calls.mono HCL.out ?_
  rintro e w3 ⟨u, rfl, h3⟩
  obtain ⟨ua, uc, hu, -⟩ := (rowT_rd h3).capd
  rw [HKK.out] at hu
  subst hu
  have h4 := h3.of_eq (show _ = pts bx (valO ⟨n, ⟨g1, g2, g3, g4, g5⟩, L⟩ (.slice sa k sc)) * (pts b (.cells (tabCells nm R (.slice ga V.length gc) lt) 64) * (rowT (.slice ua k uc) L * (roH m * (mapH Value.string Mean.val nm N S.names * (row (.slice ga V.length gc) V.length 143 4 (flatG V) * (grpsH m V S.groups * (pts (bx + 1) (.cells #[.int .i64 c, .int .i64 i] 170) * F))))))) by ac_rfl)
  have e0 := h4.cell (i := 0) rfl
  have e1 := h4.cell (i := 1) rfl
  have e2 := h4.cell (i := 2) rfl
  have e3 := h4.cell (i := 3) rfl
  have e4 := h4.cell (i := 4) rfl
  have e5 := h4.cell (i := 5) rfl
  have e6 := h4.cell (i := 6) rfl
  have fe := h4.free (i := 6)
  have le := h4.lt
  have h5 := h4.set (i := 6) (v := .slice ua k uc)
  rw [show ((#[.int .i64 n, .int .i64 g1, .int .i64 g2, .int .i64 g3, .int .i64 g4, .int .i64 g5, .slice sa k sc] : Array Value).setIfInBounds 6 (.slice ua k uc)) = #[.int .i64 n, .int .i64 g1, .int .i64 g2, .int .i64 g3, .int .i64 g4, .int .i64 g5, .slice ua k uc] by simp] at h5
  have H5 := Lib.hid h5
  clear h3 h4 h5 v6
  go_upto_region 14 with fail
  generalize w3.setCell ⟨bx, 6, none⟩ (.slice ua k uc) = W4 at *
  obtain ⟨r0, r1, r2, r3, r4, r5, r6⟩ := reg_at H5.out.r hc hi
  clear e0 e1 e2 e3 e4 e5 e6 fe le
  have lt4 := H5.out.r.lt
  have f0 := H5.out.r.free (i := 1 + c * 1792 + i * 7)
  have f1 := H5.out.r.free (i := 1 + c * 1792 + i * 7 + 1)
  have f2 := H5.out.r.free (i := 1 + c * 1792 + i * 7 + 2)
  have f3 := H5.out.r.free (i := 1 + c * 1792 + i * 7 + 3)
  have f4 := H5.out.r.free (i := 1 + c * 1792 + i * 7 + 4)
  have f5 := H5.out.r.free (i := 1 + c * 1792 + i * 7 + 5)
  have f6 := H5.out.r.free (i := 1 + c * 1792 + i * 7 + 6)
  refine wp_region_E (fun w' => ∃ X, Sat W (pts bx (valO ⟨n, ⟨g1, g2, g3, g4, g5⟩, L⟩ (.slice ua k uc)) * X) w') (by kernel_rfl) ?_
  refine wpE_take (i := 0) (q := 8) (v := ?_) rfl (by kernel_rfl) (by kernel_rfl) (by kernel_rfl) (by kernel_rfl) (by kernel_rfl) (fun _ _ _ h => h) (by rfl) ?_ ?_
  rotate_left 1
  · intro w hw; go_simp; try with_reducible rfl
  refine wpE_take (i := 1) (q := 8) (v := ?_) rfl (by kernel_rfl) (by kernel_rfl) (by kernel_rfl) (by kernel_rfl) (by kernel_rfl) (fun _ _ _ h => h) (by rfl) ?_ ?_
  rotate_left 1
  · intro w hw; go_simp; try with_reducible rfl
  refine wpE_take (i := 2) (q := 8) (v := ?_) rfl (by kernel_rfl) (by kernel_rfl) (by kernel_rfl) (by kernel_rfl) (by kernel_rfl) (fun _ _ _ h => h) (by rfl) ?_ ?_
  rotate_left 1
  · intro w hw; go_simp; try with_reducible rfl
  refine wpE_take (i := 3) (q := 8) (v := ?_) rfl (by kernel_rfl) (by kernel_rfl) (by kernel_rfl) (by kernel_rfl) (by kernel_rfl) (fun _ _ _ h => h) (by rfl) ?_ ?_
  rotate_left 1
  · intro w hw; (obtain ⟨X, hw⟩ := hw; have e0 := hw.cell (i := 0) rfl; have e1 := hw.cell (i := 1) rfl; have e2 := hw.cell (i := 2) rfl; have e3 := hw.cell (i := 3) rfl; have e4 := hw.cell (i := 4) rfl; have e5 := hw.cell (i := 5) rfl; have e6 := hw.cell (i := 6) rfl; go_simp; try with_reducible rfl)
  refine wpE_take (i := 4) (q := 5) (v := ?_) rfl (by kernel_rfl) (by kernel_rfl) (by kernel_rfl) (by kernel_rfl) (by kernel_rfl) (fun _ _ _ h => h) (by rfl) ?_ ?_
  rotate_left 1
  · intro w hw; go_simp; try with_reducible rfl
  refine wpE_take (i := 5) (q := 6) (v := ?_) rfl (by kernel_rfl) (by kernel_rfl) (by kernel_rfl) (by kernel_rfl) (by kernel_rfl) (fun _ _ _ h => h) (by rfl) ?_ ?_
  rotate_left 1
  · intro w hw; go_simp; try with_reducible rfl
  refine wpE_take (i := 6) (q := 7) (v := ?_) rfl (by kernel_rfl) (by kernel_rfl) (by kernel_rfl) (by kernel_rfl) (by kernel_rfl) (fun _ _ _ h => h) (by rfl) ?_ ?_
  rotate_left 1
  · intro w hw; go_simp; try with_reducible rfl
  refine wpE_take (i := 7) (q := 8) (v := ?_) rfl (by kernel_rfl) (by kernel_rfl) (by kernel_rfl) (by kernel_rfl) (by kernel_rfl) (fun _ _ _ h => h) (by rfl) ?_ ?_
  rotate_left 1
  · intro w hw; go_simp; try with_reducible rfl
  refine wpE_one (i := 8) rfl (by kernel_rfl) (⟨_, H5.out.drew⟩) (fun K hK => ?_)
  go_simp
  refine hK _ _ ?_
  clear hK K
  refine wpE_done (by kernel_rfl) (by kernel_rfl) ?_
  have h6 := H5.out.of_eq (show _ = pts b (.cells (tabCells nm R (.slice ga V.length gc) lt) 64) * (rowT (.slice ua k uc) L * (roH m * (mapH Value.string Mean.val nm N S.names * (row (.slice ga V.length gc) V.length 143 4 (flatG V) * (grpsH m V S.groups * (pts bx (valO ⟨n, ⟨g1, g2, g3, g4, g5⟩, L⟩ (.slice ua k uc)) * (pts (bx + 1) (.cells #[.int .i64 c, .int .i64 i] 170) * F))))))) by ac_rfl)
  have HF := Lib.hid (put_end (v := ⟨n, ⟨g1, g2, g3, g4, g5⟩, L⟩) (u := .slice ua k uc) (F := pts bx (valO ⟨n, ⟨g1, g2, g3, g4, g5⟩, L⟩ (.slice ua k uc)) * (pts (bx + 1) (.cells #[.int .i64 c, .int .i64 i] 170) * F)) hc hi HL.out HT.out h6)
  exact ⟨rfl, .tuple #[], by unfold results; go_simp, rfl, HF.out.drewD.less.less⟩

end Go.Proofs.Yticljfpippbkkaa

/-
  Category codes: as a value, as a block; a byte turned. Conditions: none.
-/
namespace Go.Proofs.Yticljfpippbkkaa
open Go.RowKit Go.Sp
variable {W w w' : World} {F : HProp}

def codeAt (C : List Int) (c : UInt8) : Int := C.getD c.toNat 0
abbrev codesV (C : List Int) : Value := .agg (C.map (Value.int .i64)).toArray
abbrev codesO (C : List Int) (e : TypeId) : Obj := .cells (C.map (Value.int .i64)).toArray e
theorem codes_cell {C : List Int} {e : TypeId} {bc : Nat} {A : HProp} (h : Sat W (pts bc (codesO C e) * A) w) (hC : C.length = 256) (c : UInt8) : w.cell? ⟨bc, c.toNat, none⟩ = some (.int .i64 (codeAt C c)) := by
  have hc : c.toNat < C.length := by have := c.toNat_lt; omega
  refine h.cell ?_
  simp [codeAt, hc]

theorem size_codes : (Try.prog.info? 85).map (·.size) = some 256 := by kernel_rfl
theorem xor_all : ∀ n : Nat, n < 256 → bits .xor .u8 (n : Int) 64 = ((n ^^^ 64 : Nat) : Int) := by decide +kernel
theorem xor_u8 (c : UInt8) : bits .xor .u8 (c.toNat : Int) 64 = ((c ^^^ 64).toNat : Int) := by
  rw [xor_all c.toNat c.toNat_lt]
  simp

end Go.Proofs.Yticljfpippbkkaa

/-
  The fresh list of codes. Conditions: those that each theorem names.
-/
namespace Go.Proofs.Yticljfpippbkkaa
open Go.RowKit Go.Sp
variable {W w w' : World} {F F' : HProp}

def baseL : List Int := (List.range 256).map fun c => if (97 ≤ c ∧ c ≤ 122) ∨ (65 ≤ c ∧ c ≤ 90) then 11 else 12
def freshL : List Int := (((((baseL.set 92 0).set 13 5).set 32 10).set 0 9).set 37 14).set 127 15

theorem freshL_eq : freshL = (((((baseL.set 92 0).set 13 5).set 32 10).set 0 9).set 37 14).set 127 15 := rfl
theorem baseL_len : baseL.length = 256 := by simp [baseL]
theorem freshL_len : freshL.length = 256 := by simp [freshL, baseL_len]
theorem baseL_at (k : Nat) (h : k < 256) : baseL[k]? = some (if (97 ≤ k ∧ k ≤ 122) ∨ (65 ≤ k ∧ k ≤ 90) then 11 else 12) := by
  simp [baseL, h]

theorem _root_.Go.Sp.Sat.setC {b i : Nat} {L : List Int} {e : TypeId} {A : HProp} (x : Int) (h : Sat W (pts b (codesO L e) * A) w) : Sat W (pts b (codesO (L.set i x) e) * A) (w.setCell ⟨b, i, none⟩ (.int .i64 x)) := by
  have h1 := h.set (i := i) (v := .int .i64 x)
  have e1 : ((L.map (Value.int .i64)).toArray.setIfInBounds i (.int .i64 x)) = ((L.set i x).map (Value.int .i64)).toArray := by
    apply Array.ext'
    simp [List.map_set]
  rw [e1] at h1
  exact h1

theorem _root_.Go.Sp.Sat.cellC {b : Nat} {L : List Int} {e : TypeId} {A : HProp} (h : Sat W (pts b (codesO L e) * A) w) (i : Nat) (hi : i < L.length) : ∃ x, w.cell? ⟨b, i, none⟩ = some (.int .i64 x) ∧ w.frozen? ⟨b, i, none⟩ = false := by
  refine ⟨L[i], h.cell ?_, h.free⟩
  simp [hi]


theorem take_set_succ {L M : List Int} {k : Nat} {x : Int} (h : L.take k = M.take k) (hL : k < L.length) (hM : M[k]? = some x) : (L.set k x).take (k + 1) = M.take (k + 1) := by
  rw [List.take_add_one, List.take_add_one, List.take_set_of_le (Nat.le_refl _), h, List.getElem?_set_self hL, hM]


def zc256 : Array Value := ((List.replicate 256 (0 : Int)).map (Value.int .i64)).toArray
@[simp] theorem zeroValue_c (w : World) : (zeroValue 85).run Try.prog w = .ok (.agg zc256) w := by kernel_rfl
@[simp] theorem zc256_size : zc256.size = 256 := by rw [zc256, List.size_toArray, List.length_map, List.length_replicate]
@[simp] theorem zc256_ne : zc256 ≠ #[] := by intro h; have := congrArg Array.size h; simp at this

theorem _root_.Go.Sp.Sat.setRowC {b : Nat} {L M : List Int} {e : TypeId} {A : HProp} (h : Sat W (pts b (codesO L e) * A) w) : Sat W (pts b (codesO M e) * A) (w.setRow b (M.map (Value.int .i64)).toArray) :=
  h.upd ⟨rfl, rfl, rfl⟩ (setRow_heap w b _ _ e _ h.blk) fun k _ hk hx => by rw [setRow_other w b k _ hk]; exact hx

theorem one_codes (L : List Int) : ((L.map (Value.int .i64)).toArray).all (·.oneCell') = true := by
  simp [Value.oneCell']


theorem zero_two (h : Sat W F w) : Sat W (pts (w.heap.size + 1) (codesO (List.replicate 256 0) 85) * (pts w.heap.size (codesO (List.replicate 256 0) 85) * F)) ((w.alloc (.cells zc256 85)).alloc (.cells zc256 85)) := by
  have h2 := (h.alloc (.cells zc256 85)).alloc (.cells zc256 85)
  have e1 : (w.alloc (.cells zc256 85)).heap.size = w.heap.size + 1 := by simp only [World.alloc, Array.size_push]
  rw [e1] at h2
  have e2 : (Obj.cells zc256 85) = codesO (List.replicate 256 0) 85 := rfl
  rw [e2] at h2 ⊢
  exact h2

set_option maxRecDepth 1000000 in
set_option maxHeartbeats 8000000 in
theorem fresh_any (h : Sat W F w) : Calls Try.prog 30 #[] w fun e w' => e = .returned (codesV freshL) ∧ Sat W F w' := by
  have HZ := Lib.hid (zero_two h)
  obtain ⟨fl, hfl⟩ : ∃ fl, freshL = fl := ⟨_, rfl⟩
  rw [hfl]
  have HFN := Lib.hid (show fl.length = 256 by rw [← hfl]; exact freshL_len)
  have HFL := Lib.hid hfl
  clear hfl
  clear h
  go_enter Try.func30, Try.ntmps30
  go_wp2_with fail
  go_loopg [3] 256 (fun g s3 wx => ∃ (k : Nat) (L : List Int), k ≤ 256 ∧ g = 256 - k ∧ s3 = .int .i64 k ∧ L.length = 256 ∧ L.take k = baseL.take k ∧ Sat W (pts (w.heap.size + 1) (codesO L 85) * (pts w.heap.size (codesO (List.replicate 256 0) 85) * F)) wx)
  case atStart => exact ⟨0, List.replicate 256 0, by omega, rfl, rfl, by simp, rfl, (show Sat W (pts (w.heap.size + 1) (codesO (List.replicate 256 0) 85) * (pts w.heap.size (codesO (List.replicate 256 0) 85) * F)) _ from HZ.out)⟩
  case round =>
    obtain ⟨k, L, hk, rfl, rfl, hl, ht, hx⟩ := hrel
    have HL := Lib.hid hl
    have HT := Lib.hid ht
    have HX := Lib.hid hx
    clear hl ht hx
    by_cases hlt : k < 256
    · obtain ⟨x, k0, f0⟩ := HX.out.cellC k (by rw [HL.out]; exact hlt)
      have lb := HX.out.lt
      have hb := baseL_at k hlt
      have i1 : (k : Int) < 256 := by omega
      have i2 : (0 : Int) ≤ (k : Int) := by omega
      by_cases h1 : (97 ≤ k ∧ k ≤ 122) ∨ (65 ≤ k ∧ k ≤ 90)
      · rw [if_pos h1] at hb
        have HS := Lib.hid (HX.out.setC (i := k) 11)
        have HB := Lib.hid (take_set_succ HT.out (by rw [HL.out]; exact hlt) hb)
        have h2 : (97 ≤ (k : Int) ∧ (k : Int) ≤ 122) ∨ (¬ 97 ≤ (k : Int) ∧ 65 ≤ (k : Int) ∧ (k : Int) ≤ 90) := by omega
        clear hb h1
        rcases h2 with ⟨j1, j2⟩ | ⟨j1, j2, j3⟩
        all_goals
          go_wp2
          go_roundg (256 - (k + 1))
          case measure => omega
          case rel => exact ⟨k + 1, L.set k 11, by omega, rfl, by go_num, by rw [List.length_set]; exact HL.out, HB.out, HS.out⟩
      · rw [if_neg h1] at hb
        have HS := Lib.hid (HX.out.setC (i := k) 12)
        have HB := Lib.hid (take_set_succ HT.out (by rw [HL.out]; exact hlt) hb)
        have h2 : (97 ≤ (k : Int) ∧ ¬ (k : Int) ≤ 122) ∨ (¬ 97 ≤ (k : Int) ∧ 65 ≤ (k : Int) ∧ ¬ (k : Int) ≤ 90) ∨ (¬ 97 ≤ (k : Int) ∧ ¬ 65 ≤ (k : Int)) := by omega
        clear hb h1
        rcases h2 with ⟨j1, j2⟩ | ⟨j1, j2, j3⟩ | ⟨j1, j2⟩
        · have j3 : 65 ≤ (k : Int) := by omega
          have j4 : ¬ (k : Int) ≤ 90 := by omega
          go_wp2
          go_roundg (256 - (k + 1))
          case measure => omega
          case rel => exact ⟨k + 1, L.set k 12, by omega, rfl, by go_num, by rw [List.length_set]; exact HL.out, HB.out, HS.out⟩
        · go_wp2
          go_roundg (256 - (k + 1))
          case measure => omega
          case rel => exact ⟨k + 1, L.set k 12, by omega, rfl, by go_num, by rw [List.length_set]; exact HL.out, HB.out, HS.out⟩
        · go_wp2
          go_roundg (256 - (k + 1))
          case measure => omega
          case rel => exact ⟨k + 1, L.set k 12, by omega, rfl, by go_num, by rw [List.length_set]; exact HL.out, HB.out, HS.out⟩
    · have hk2 : 256 = k := by omega
      subst hk2
      have hL : L = baseL := by
        have := HT.out
        rwa [List.take_of_length_le (by rw [HL.out]; exact Nat.le_refl _), List.take_of_length_le (by rw [baseL_len]; exact Nat.le_refl _)] at this
      subst hL
      have HS := Lib.hid ((((((HX.out.setC (i := 92) 0).setC (i := 13) 5).setC (i := 32) 10).setC (i := 0) 9).setC (i := 37) 14).setC (i := 127) 15)
      obtain ⟨x1, k1, g1⟩ := HX.out.cellC 92 (by rw [baseL_len]; omega)
      obtain ⟨x2, k2, g2⟩ := HX.out.cellC 13 (by rw [baseL_len]; omega)
      obtain ⟨x3, k3, g3⟩ := HX.out.cellC 32 (by rw [baseL_len]; omega)
      obtain ⟨x4, k4, g4⟩ := HX.out.cellC 0 (by rw [baseL_len]; omega)
      obtain ⟨x5, k5, g5⟩ := HX.out.cellC 37 (by rw [baseL_len]; omega)
      obtain ⟨x6, k6, g6⟩ := HX.out.cellC 127 (by rw [baseL_len]; omega)
      have lb := HX.out.lt
      rw [← freshL_eq, HFL.out] at HS
      clear hlt
      go_upto_region 11 with fail
      generalize ((((((wr.setCell ⟨w.heap.size + 1, 92, none⟩ (.int .i64 0)).setCell ⟨w.heap.size + 1, 13, none⟩ (.int .i64 5)).setCell ⟨w.heap.size + 1, 32, none⟩ (.int .i64 10)).setCell ⟨w.heap.size + 1, 0, none⟩ (.int .i64 9)).setCell ⟨w.heap.size + 1, 37, none⟩ (.int .i64 14)).setCell ⟨w.heap.size + 1, 127, none⟩ (.int .i64 15)) = W2 at *
      clear x1 k1 g1 k2 g2 k3 g3 k4 g4 k5 g5 k6 g6 lb HX
      have hb1 := HS.out.blk
      have hb0 := HS.out.rot.blk
      go_wp2_with fail
      refine wp_load_row 85 (.tmp 1) (by rfl) (w.heap.size + 1) (by rfl) _ _ _ _ hb1 Try.underlying85 (by rfl) ?_ ?_
      · rw [size_codes]; simp [HFN.out]
      go_step
      refine wpList_store_row (by rfl) 85 (.tmp 0) (.tmp 30) (by rfl) w.heap.size (fl.map (Value.int .i64)).toArray (by rfl) (by rfl) _ _ hb0 ?_ ?_ ?_ ?_
      · rw [size_codes]; simp [HFN.out]
      · simp [HFN.out]
      · exact one_codes fl
      have HE := Lib.hid (Sat.setRowC (M := fl) HS.out.rot)
      clear hb0 hb1
      go_wp2
      (try simp only [Exit.inBlock, Exit.then])
      refine bodyPost_ret (v := codesV fl) (results_cell_row (fn := Try.f30) rfl _ _ w.heap.size 85 (fl.map (Value.int .i64)).toArray (0, 0) _ rfl HE.out.blk Try.underlying85 (by rfl) (by rw [size_codes]; simp [HFN.out])) rfl ⟨rfl, HE.out.r.r⟩

end Go.Proofs.Yticljfpippbkkaa

/-
  A new table. Conditions: none but what each theorem names.
-/
namespace Go.Proofs.Yticljfpippbkkaa
open Go.RowKit Go.Sp
variable {W w w' : World} {F A : HProp}

def R0 : Nat → RegV := fun _ => ⟨0, ⟨0, 0, 0, 0, 0⟩, .slice none 0 0⟩
def zcT : Array Value := (.map none :: ((List.replicate 1536 [.int .i64 0, .int .i64 0, .int .i64 0, .int .i64 0, .int .i64 0, .int .i64 0, .slice none 0 0]).flatten ++ [.slice none 0 0, .slice none 0 0])).toArray
set_option maxRecDepth 1000000 in
@[simp] theorem zeroValue_T (w : World) : (zeroValue 64).run Try.prog w = .ok (.agg zcT) w := by kernel_rfl
theorem regCells_zero (n : Nat) : regCells R0 n = (List.replicate n [.int .i64 0, .int .i64 0, .int .i64 0, .int .i64 0, .int .i64 0, .int .i64 0, .slice none 0 0]).flatten := by
  induction n with
  | zero => rfl
  | succ n ih => rw [regCells, ih, List.replicate_succ', List.flatten_append, List.flatten_singleton]; rfl
theorem zcT_set (nm : Nat) : zcT.setIfInBounds 0 (.map (some nm)) = tabCells nm R0 (.slice none 0 0) (.slice none 0 0) := by
  unfold zcT tabCells
  rw [regCells_zero]
  apply Array.ext'
  rw [Array.toList_setIfInBounds]
  rfl
@[simp] theorem zcT_size : zcT.size = 10755 := by
  have := congrArg Array.size (zcT_set 0)
  rwa [Array.size_setIfInBounds, tab_size] at this
@[simp] theorem zcT_ne : zcT ≠ #[] := by intro h; have := congrArg Array.size h; simp at this

/-- the registers while the codes come in -/
def rN (C : List Int) (k : Nat) : Nat → RegV := fun j => if 1280 ≤ j ∧ j < 1280 + k then { R0 j with n := C.getD (j - 1280) 0 } else R0 j
theorem rN_zero (C : List Int) : rN C 0 = R0 := by
  funext j
  rw [rN, if_neg (by omega)]
theorem rN_succ (C : List Int) (k : Nat) : setR (rN C k) (1280 + k) { rN C k (1280 + k) with n := C.getD k 0 } = rN C (k + 1) := by
  funext j
  unfold setR rN
  by_cases h : j = 1280 + k
  · subst h
    rw [if_pos rfl, if_neg (by omega), if_pos (by omega), Nat.add_sub_cancel_left]
  · rw [if_neg h]
    by_cases h2 : 1280 ≤ j ∧ j < 1280 + k
    · rw [if_pos h2, if_pos (by omega)]
    · rw [if_neg h2, if_neg (by omega)]

def newS : TabS := ⟨fun _ => none, fun j => ⟨if 1280 ≤ j ∧ j < 1536 then freshL.getD (j - 1280) 0 else 0, ⟨0, 0, 0, 0, 0⟩, []⟩, [], []⟩

theorem new_end {b nm : Nat} {fl : List Int} (hf : freshL = fl) (h : Sat W (pts b (.cells (tabCells nm (rN fl 256) (.slice none 0 0) (.slice none 0 0)) 64) * (mapH Value.string Mean.val nm 0 (fun _ => none) * F)) w) : TabAt W F b 0 newS w := by
  subst hf
  have hnil : RdM (fun _ => none) (.slice none 0 0) [] := fun w _ => rowT_rd (W := w) (A := own w) (Sat.row_nil (Sat.start w))
  refine ⟨fun _ => none, nm, .slice none 0 0, .slice none 0 0, rN freshL 256, [], ⟨fun j hj => ⟨⟨?_, ?_, ?_⟩, by simp [newS]⟩, hnil, by simp [newS], rfl, by simp [newS]⟩, ?_⟩
  · simp only [newS, rN]
    by_cases h : 1280 ≤ j ∧ j < 1280 + 256
    · rw [if_pos h, if_pos (by omega)]
    · rw [if_neg h, if_neg (by omega)]; rfl
  · simp only [newS, rN]
    split <;> rfl
  · have e : (rN freshL 256 j).s = .slice none 0 0 := by
      simp only [rN]
      split <;> rfl
    rw [e]
    exact hnil
  · have h2 : Sat W (row (.slice none 0 0) 0 143 4 [] * _) w := h.row_nil (e := 143) (size := 4)
    refine h2.of_eq ?_
    rw [show roH (fun _ => none) = emp from rfl, emp_star]
    simp only [grpsH, newS, emp_star, List.length_nil, flatG, List.flatMap_nil]
    ac_rfl

theorem size_intN : (Try.prog.info? 3).map (·.size) = some 1 := by kernel_rfl
theorem run_index_codesN (C : List Int) (k : Nat) (hk : k < C.length) (hC : C.length = 256) (w : World) : (Instr.index 85 (codesV C) (.int .i64 k)).run Try.prog w = .ok (.int .i64 (C.getD k 0)) w := by
  have hu := Try.underlying85
  have h1 : 0 ≤ (k : Int) ∧ (k : Int) < 256 := by omega
  have hs : (sizeOf 3).run Try.prog w = .ok 1 w := by
    have := size_intN
    cases hq : Try.prog.info? 3 with
    | none => rw [hq] at this; cases this
    | some i => rw [hq] at this; simp only [Option.map_some, Option.some.injEq] at this; simp [sizeOf, typeInfo, hq, this]
  simp only [Instr.index, Sem.run_bind, asIntOf, run_underlying hu w, Result.andThen_ok, Sem.run_pure]
  go_simp
  rw [List.getElem?_eq_getElem hk]
  rfl

set_option maxRecDepth 1000000 in
set_option maxHeartbeats 8000000 in
theorem new_any (h : Sat W F w) : Calls Try.prog 17 #[] w fun e w' => ∃ b, e = .returned (.pointer (some ⟨b, 0, none⟩)) ∧ TabAt W F b 0 newS w' := by
  have hmm := @run_makeMap Try.prog
  obtain ⟨W1, hW1⟩ : ∃ W1, (w.alloc (.map #[] 0)).alloc (.cells (zcT.setIfInBounds 0 (.map (some w.heap.size))) 64) = W1 := ⟨_, rfl⟩
  obtain ⟨nm, hnm⟩ : ∃ nm, w.heap.size = nm := ⟨_, rfl⟩
  obtain ⟨fl, hfl⟩ : ∃ fl, freshL = fl := ⟨_, rfl⟩
  have h1 : Sat W (pts (nm + 1) (.cells (tabCells nm (rN fl 0) (.slice none 0 0) (.slice none 0 0)) 64) * (mapH Value.string Mean.val nm 0 (fun _ => none) * F)) W1 := by
    have h1 := (Sat.map_new (kE := Value.string) (vE := Mean.val) h).alloc (.cells (zcT.setIfInBounds 0 (.map (some w.heap.size))) 64)
    rw [hW1, zcT_set, hnm, show (w.alloc (.map #[] 0)).heap.size = nm + 1 by simp [hnm], ← rN_zero fl] at h1
    exact h1
  have HFR := Lib.hid (fresh_any h1)
  rw [hfl] at HFR
  have HFN := Lib.hid (show fl.length = 256 by rw [← hfl]; exact freshL_len)
  have HFL := Lib.hid hfl
  have HW := Lib.hid hW1
  have HN := Lib.hid hnm
  clear h h1 hfl hW1 hnm
  go_enter Try.func17, Try.ntmps17
  go_wp2_with fail
  rw [show Try.zeroCells64 = zcT from by kernel_rfl]
  rw [HW.out, HN.out]
  generalize zcT.setIfInBounds 0 (.map (some nm)) = zz at *
  refine Calls.mono HFR.out ?_
  rintro e w' ⟨rfl, h2⟩
  have H2 := Lib.hid h2
  clear h2 HFR HW HN
  go_wp2_with fail
  go_loopg [8] 256 (fun g s8 wx => ∃ (k : Nat), k ≤ 256 ∧ g = 256 - k ∧ s8 = .int .i64 k ∧ Sat W (pts (nm + 1) (.cells (tabCells nm (rN fl k) (.slice none 0 0) (.slice none 0 0)) 64) * (mapH Value.string Mean.val nm 0 (fun _ => none) * F)) wx)
  case atStart => exact ⟨0, by omega, rfl, rfl, H2.out⟩
  case round =>
    obtain ⟨k, hk, rfl, rfl, hx⟩ := hrel
    have HX := Lib.hid hx
    clear hx
    by_cases hlt : k < 256
    · have hc := HX.out.cell (i := 1 + (1280 + k) * 7) (v := .int .i64 (rN fl k (1280 + k)).n) (tab_reg _ _ _ _ (o := 0) (by omega) (by omega))
      have f0 := HX.out.free (i := 1 + (1280 + k) * 7)
      have lb := HX.out.lt
      have hget := fun w => run_index_codesN fl k (by rw [HFN.out]; exact hlt) HFN.out w
      have HS := HX.out.set (i := 1 + (1280 + k) * 7) (v := .int .i64 (fl.getD k 0))
      rw [tab_set_n _ _ _ _ (1280 + k) (by omega), rN_succ] at HS
      rw [show 1 + (1280 + k) * 7 = 8961 + k * 7 by omega] at hc f0 HS
      have HS2 := Lib.hid HS
      have i1 : (k : Int) < 256 := by omega
      clear HS
      go_wp2
      go_roundg (256 - (k + 1))
      case measure => omega
      case rel => exact ⟨k + 1, by omega, rfl, by go_num, HS2.out⟩
    · obtain rfl : 256 = k := by omega
      go_wp2
      go_ret
      exact ⟨nm + 1, rfl, new_end HFL.out HX.out⟩
end Go.Proofs.Yticljfpippbkkaa
