
/-
  A font's reader: bytes, halves, words. Conditions: those that each theorem names.
-/
import Derived.Test.YtembknlhocijkaaFtN
import Derived.Test.YtembknlhocijkaaAnyE
namespace Go.Proofs.Ytembknlhocijkaa
open Go.RowKit Go.Sp
variable {w w' W : World} {A : HProp}

/-- bytes that can be read, at an address -/
def RdA (w : World) (v : Value) (l : List UInt8) : Prop :=
  ∃ b off cap, v = .slice (some ⟨b, off, none⟩) l.length cap ∧ l.length ≤ cap ∧ l.length ≤ 9223372036854775807 ∧ (∀ j c, l[j]? = some c → w.cell? ⟨b, off + j, none⟩ = some (.int .u8 c.toNat)) ∧ b < w.heap.size
theorem RdA.ext {v : Value} {l : List UInt8} (h : RdA w v l) (k : Ext w w') : RdA w' v l := by
  obtain ⟨b, off, cap, h1, h2, h3, h4, h5⟩ := h
  exact ⟨b, off, cap, h1, h2, h3, fun j c hc => k.cell (h4 j c hc), k.lt h5⟩
theorem RdA.of {v : Value} {l : List UInt8} (h : RdL byteC 1 w v l) (h0 : 0 < l.length) : RdA w v l := by
  obtain ⟨a, cap, rfl, hc⟩ := h.val
  obtain ⟨b, off, rfl, -, lb⟩ := h.at byte_len (by omega) h0
  refine ⟨b, off, cap, rfl, hc, h.le, fun j c hj => ?_, lb⟩
  obtain ⟨hj1, hj2⟩ := List.getElem?_eq_some_iff.1 hj
  obtain ⟨b2, o2, e, h2, -⟩ := h.at byte_len (by omega) hj1
  simp only [Option.some.injEq, Addr.mk.injEq, and_true] at e
  obtain ⟨rfl, rfl⟩ := e
  have := h2 0 _ rfl
  rw [Nat.mul_one, Nat.add_zero, hj2] at this
  exact this
abbrev rdB (v : Value) : Obj := .cells #[v] 72
set_option maxRecDepth 100000 in
set_option maxHeartbeats 4000000 in
theorem bytes_any {v : Value} {l : List UInt8} {br n : Nat} (hn : n ≤ l.length) (hr : RdA W v l) (h : Sat W (pts br (rdB v) * A) w) :
    Calls Try.prog 40 #[.pointer (some ⟨br, 0, none⟩), .int .i64 n] w fun e w' => ∃ u, e = .returned u ∧ RdA W u (l.take n) ∧ ∃ v', RdA W v' (l.drop n) ∧ Sat W (pts br (rdB v') * A) w' := by
  obtain ⟨b, off, cap, rfl, hc, hm, hcell, lb0⟩ := hr
  have HCELL := Lib.hid hcell
  have HLB := Lib.hid lb0
  have HS := Lib.hid h
  have c0 := h.cell (i := 0) rfl
  have f0 := h.free (i := 0)
  have ld := h.lt
  have HL := Lib.hid (show (l.take n).length = n by rw [List.length_take]; omega)
  have HL2 := Lib.hid (show (l.drop n).length = l.length - n by rw [List.length_drop])
  obtain ⟨m, hml⟩ : ∃ m, l.length = m := ⟨_, rfl⟩
  have HML := Lib.hid hml
  rw [hml] at c0 hc hm hn HL2 HS
  have hi1 : ¬ (m : Int) < n := by omega
  have hi2 : (n : Int) ≤ m := by omega
  have hi3 : (n : Int) ≤ cap := by omega
  have hi4 : (m : Int) ≤ cap := by omega
  clear h hcell lb0 hml
  have HU := Lib.hid (show RdA W (.slice (some ⟨b, off, none⟩) n cap) (l.take n) from ⟨b, off, cap, by rw [HL.out], by rw [HL.out]; omega, by rw [HL.out]; omega, fun j c hj => HCELL.out j c (by
    rw [List.getElem?_take] at hj
    split at hj
    · exact hj
    · cases hj), HLB.out⟩)
  by_cases hcn : cap = n
  · have hq : (cap = n) = True := eq_true hcn
    have HV := Lib.hid (show RdA W (.slice (some ⟨b, off, none⟩) (m - n) (cap - n)) (l.drop n) from ⟨b, off, cap - n, by rw [HL2.out], by rw [HL2.out]; omega, by rw [HL2.out]; omega, fun j c hj => by
      have := (List.getElem?_eq_some_iff.1 hj).1
      rw [HL2.out] at this
      omega, HLB.out⟩)
    have HSET := Lib.hid (HS.out.set (i := 0) (v := .slice (some ⟨b, off, none⟩) (m - n) (cap - n)))
    clear hcn
    go_enter Try.func40, Try.ntmps40
    go_wp2
    go_ret
    exact ⟨_, rfl, HU.out, _, HV.out, HSET.out⟩
  · have hq : (cap = n) = False := eq_false hcn
    have HV := Lib.hid (show RdA W (.slice (some ⟨b, off + n, none⟩) (m - n) (cap - n)) (l.drop n) from ⟨b, off + n, cap - n, by rw [HL2.out], by rw [HL2.out]; omega, by rw [HL2.out]; omega, fun j c hj => by
      rw [List.getElem?_drop] at hj
      rw [Nat.add_assoc]
      exact HCELL.out _ c hj, HLB.out⟩)
    have HSET := Lib.hid (HS.out.set (i := 0) (v := .slice (some ⟨b, off + n, none⟩) (m - n) (cap - n)))
    clear hcn
    go_enter Try.func40, Try.ntmps40
    go_wp2
    go_ret
    exact ⟨_, rfl, HU.out, _, HV.out, HSET.out⟩

theorem or64 {x y : Nat} (hx : x < 9223372036854775808) (hy : y < 9223372036854775808) : bits .or .i64 (x : Int) (y : Int) = ((x ||| y : Nat) : Int) := by
  have h1 : (BitVec.ofInt 64 (x : Int) ||| BitVec.ofInt 64 (y : Int)).toNat = x ||| y := by
    rw [BitVec.toNat_or, BitVec.toNat_ofInt, BitVec.toNat_ofInt]
    have e1 : ((x : Int) % ((2 ^ 64 : Nat) : Int)).toNat = x := by omega
    have e2 : ((y : Int) % ((2 ^ 64 : Nat) : Int)).toNat = y := by omega
    rw [e1, e2]
  show IntKind.i64.wrap (((BitVec.ofInt 64 (x : Int) ||| BitVec.ofInt 64 (y : Int)).toNat : Nat) : Int) = _
  rw [h1]
  have h2 : x ||| y < 2 ^ 63 := Nat.or_lt_two_pow (by omega) (by omega)
  exact IntWalk.i64_in _ (by omega)
theorem or32 {x y : Nat} (hx : x < 4294967296) (hy : y < 4294967296) : bits .or .u32 (x : Int) (y : Int) = ((x ||| y : Nat) : Int) := by
  have h1 : (BitVec.ofInt 32 (x : Int) ||| BitVec.ofInt 32 (y : Int)).toNat = x ||| y := by
    rw [BitVec.toNat_or, BitVec.toNat_ofInt, BitVec.toNat_ofInt]
    have e1 : ((x : Int) % ((2 ^ 32 : Nat) : Int)).toNat = x := by omega
    have e2 : ((y : Int) % ((2 ^ 32 : Nat) : Int)).toNat = y := by omega
    rw [e1, e2]
  show IntKind.u32.wrap (((BitVec.ofInt 32 (x : Int) ||| BitVec.ofInt 32 (y : Int)).toNat : Nat) : Int) = _
  rw [h1]
  have h2 : x ||| y < 2 ^ 32 := Nat.or_lt_two_pow (by omega) (by omega)
  show ((x ||| y : Nat) : Int) % 4294967296 = _
  omega
theorem or_add {i a b : Nat} (hb : b < 2 ^ i) : a * 2 ^ i ||| b = a * 2 ^ i + b := by
  rw [← Nat.shiftLeft_eq, Nat.shiftLeft_add_eq_or_of_lt hb]
def halfN (a b : UInt8) : Nat := a.toNat * 256 + b.toNat
def wordN (a b c d : UInt8) : Nat := a.toNat * 16777216 + b.toNat * 65536 + c.toNat * 256 + d.toNat
theorem RdA.at {v : Value} {l : List UInt8} (h : RdA w v l) : ∃ b off cap, v = .slice (some ⟨b, off, none⟩) l.length cap ∧ (∀ j c, l[j]? = some c → w.cell? ⟨b, off + j, none⟩ = some (.int .u8 c.toNat)) ∧ b < w.heap.size := by
  obtain ⟨b, off, cap, h1, -, -, h4, h5⟩ := h
  exact ⟨b, off, cap, h1, h4, h5⟩
set_option maxRecDepth 100000 in
set_option maxHeartbeats 4000000 in
theorem rhalf_any {v : Value} {l : List UInt8} {a b : UInt8} {br : Nat} (ha : a.toNat < 128) (hA : ∀ w', Sat W A w' → Ext W w') (hr : RdA W v (a :: b :: l)) (h : Sat W (pts br (rdB v) * A) w) :
    Calls Try.prog 37 #[.pointer (some ⟨br, 0, none⟩)] w fun e w' => e = .returned (.int .i64 (halfN a b)) ∧ ∃ v', RdA W v' l ∧ Sat W (pts br (rdB v') * A) w' := by
  have HB := Lib.hid (bytes_any (n := 2) (by simp) hr h)
  have HA := Lib.hid hA
  have ua := u8i a
  have ub := u8i b
  have ha2 : (a.toNat : Int) < 128 := by omega
  have hor : bits .or .i64 ((a.toNat : Int) * 256) (b.toNat : Int) = (halfN a b : Int) := by
    have h1 := or64 (x := a.toNat * 256) (y := b.toNat) (by omega) (by omega)
    rw [or_add (i := 8) (by omega)] at h1
    rw [show (a.toNat : Int) * 256 = ((a.toNat * 256 : Nat) : Int) by omega, h1]
    rfl
  have HOR := Lib.hid hor
  clear hr h hA ha hor
  go_enter Try.func37, Try.ntmps37
  go_wp2_with fail
  with_reducible refine Calls.mono HB.out ?_
  rintro e w2 ⟨u, rfl, hu, v', hv, hs⟩
  have HX := Lib.hid (HA.out _ hs.r)
  have HS := Lib.hid hs
  have HV := Lib.hid hv
  obtain ⟨ub_, uo, uc, rfl, hcell, lb⟩ := hu.at
  have c0 := HX.out.cell (hcell 0 a rfl)
  have c1 := HX.out.cell (hcell 1 b rfl)
  replace lb := HX.out.lt lb
  simp only [List.take_succ_cons, List.take_zero, List.length_cons, List.length_nil, Nat.zero_add, Nat.reduceAdd]
  rw [Nat.add_zero] at c0
  clear hs hv hu hcell HB
  go_upto_region 4 with fail
  obtain ⟨W9, hW9⟩ : ∃ W9, w2.drew = W9 := ⟨_, rfl⟩
  have hx9 : Ext w2 W9 := by rw [← hW9]; exact (Ext.refl w2).drew
  have HS2 := Lib.hid (HS.out.ext hx9)
  replace c0 := hx9.cell c0
  replace c1 := hx9.cell c1
  replace lb := hx9.lt lb
  have hw1 : IntKind.i64.wrap (a.toNat : Int) = a.toNat := IntWalk.i64_in _ (by omega)
  have hw2 : IntKind.i64.wrap (b.toNat : Int) = b.toNat := IntWalk.i64_in _ (by omega)
  have hw3 : IntKind.i64.wrap ((a.toNat : Int) * 256) = (a.toNat : Int) * 256 := IntWalk.i64_in _ (by omega)
  have hor := HOR.out
  clear hx9 HS
  refine wp_region_tail (fun w' => w' = W9) 10 (by kernel_rfl) (by kernel_rfl) hW9 ?_
  clear hW9
  simp only [List.take_succ_cons, List.take_zero, List.drop_succ_cons, List.drop_zero]
  iterate 10
    with_reducible refine wpQuiet_step ?_
    intro K hK
    go_simp
    first
      | (with_reducible refine hK _ ?_
         clear hK K)
      | (rw [if_neg (by intro h; cases h)]
         with_reducible refine hK _ ?_
         clear hK K)
      | (refine Exists.intro _ ⟨fun w9 hw9 => ?_, ?_⟩
         rotate_left 1
         with_reducible refine hK _ ?_
         clear hK K
         rotate_left 1
         · subst hw9; go_simp; try with_reducible rfl)
  refine wpQuiet_nil ?_
  rintro w17 rfl
  clear hw1 hw2 hw3
  go_wp2
  go_ret
  exact ⟨rfl, v', HV.out, HS2.out⟩
set_option maxRecDepth 100000 in
set_option maxHeartbeats 4000000 in
theorem rword_any {v : Value} {l : List UInt8} {a b c d : UInt8} {br : Nat} (hA : ∀ w', Sat W A w' → Ext W w') (hr : RdA W v (a :: b :: c :: d :: l)) (h : Sat W (pts br (rdB v) * A) w) :
    Calls Try.prog 38 #[.pointer (some ⟨br, 0, none⟩)] w fun e w' => e = .returned (.int .u32 (wordN a b c d)) ∧ ∃ v', RdA W v' l ∧ Sat W (pts br (rdB v') * A) w' := by
  have HB := Lib.hid (bytes_any (n := 4) (by simp) hr h)
  have HA := Lib.hid hA
  have ua := u8i a
  have ub := u8i b
  have uc := u8i c
  have ud := u8i d
  have hor1 : bits .or .u32 ((a.toNat : Int) * 16777216) ((b.toNat : Int) * 65536) = (a.toNat : Int) * 16777216 + (b.toNat : Int) * 65536 := by
    have h1 := or32 (x := a.toNat * 16777216) (y := b.toNat * 65536) (by omega) (by omega)
    rw [or_add (i := 24) (by omega)] at h1
    rw [show (a.toNat : Int) * 16777216 = ((a.toNat * 16777216 : Nat) : Int) by omega, show (b.toNat : Int) * 65536 = ((b.toNat * 65536 : Nat) : Int) by omega, h1]
    omega
  have hor2 : bits .or .u32 ((a.toNat : Int) * 16777216 + (b.toNat : Int) * 65536) ((c.toNat : Int) * 256) = (a.toNat : Int) * 16777216 + (b.toNat : Int) * 65536 + (c.toNat : Int) * 256 := by
    have h1 := or32 (x := (a.toNat * 256 + b.toNat) * 65536) (y := c.toNat * 256) (by omega) (by omega)
    rw [or_add (i := 16) (by omega)] at h1
    rw [show (a.toNat : Int) * 16777216 + (b.toNat : Int) * 65536 = (((a.toNat * 256 + b.toNat) * 65536 : Nat) : Int) by omega, show (c.toNat : Int) * 256 = ((c.toNat * 256 : Nat) : Int) by omega, h1]
    omega
  have hor3 : bits .or .u32 ((a.toNat : Int) * 16777216 + (b.toNat : Int) * 65536 + (c.toNat : Int) * 256) (d.toNat : Int) = (wordN a b c d : Int) := by
    have h1 := or32 (x := (a.toNat * 65536 + b.toNat * 256 + c.toNat) * 256) (y := d.toNat) (by omega) (by omega)
    rw [or_add (i := 8) (by omega)] at h1
    rw [show (a.toNat : Int) * 16777216 + (b.toNat : Int) * 65536 + (c.toNat : Int) * 256 = (((a.toNat * 65536 + b.toNat * 256 + c.toNat) * 256 : Nat) : Int) by omega, h1]
    unfold wordN
    omega
  have HO1 := Lib.hid hor1
  have HO2 := Lib.hid hor2
  have HO3 := Lib.hid hor3
  clear hr h hA hor1 hor2 hor3
  go_enter Try.func38, Try.ntmps38
  go_wp2_with fail
  with_reducible refine Calls.mono HB.out ?_
  rintro e w2 ⟨u, rfl, hu, v', hv, hs⟩
  have HX := Lib.hid (HA.out _ hs.r)
  have HS := Lib.hid hs
  have HV := Lib.hid hv
  obtain ⟨ub_, uo, uc_, rfl, hcell, lb⟩ := hu.at
  have c0 := HX.out.cell (hcell 0 a rfl)
  have c1 := HX.out.cell (hcell 1 b rfl)
  have c2 := HX.out.cell (hcell 2 c rfl)
  have c3 := HX.out.cell (hcell 3 d rfl)
  replace lb := HX.out.lt lb
  simp only [List.take_succ_cons, List.take_zero, List.length_cons, List.length_nil, Nat.zero_add, Nat.reduceAdd]
  rw [Nat.add_zero] at c0
  clear hs hv hu hcell HB
  go_upto_region 2 with fail
  obtain ⟨W9, hW9⟩ : ∃ W9, w2.drew = W9 := ⟨_, rfl⟩
  have hx9 : Ext w2 W9 := by rw [← hW9]; exact (Ext.refl w2).drew
  have HS2 := Lib.hid (HS.out.ext hx9)
  replace c0 := hx9.cell c0
  replace c1 := hx9.cell c1
  replace c2 := hx9.cell c2
  replace c3 := hx9.cell c3
  replace lb := hx9.lt lb
  have hw1 : IntKind.u32.wrap (a.toNat : Int) = a.toNat := by show (a.toNat : Int) % 4294967296 = _; omega
  have hw2 : IntKind.u32.wrap (b.toNat : Int) = b.toNat := by show (b.toNat : Int) % 4294967296 = _; omega
  have hw3 : IntKind.u32.wrap (c.toNat : Int) = c.toNat := by show (c.toNat : Int) % 4294967296 = _; omega
  have hw4 : IntKind.u32.wrap (d.toNat : Int) = d.toNat := by show (d.toNat : Int) % 4294967296 = _; omega
  have hw5 : IntKind.u32.wrap ((a.toNat : Int) * 16777216) = (a.toNat : Int) * 16777216 := by show ((a.toNat : Int) * 16777216) % 4294967296 = _; omega
  have hw6 : IntKind.u32.wrap ((b.toNat : Int) * 65536) = (b.toNat : Int) * 65536 := by show ((b.toNat : Int) * 65536) % 4294967296 = _; omega
  have hw7 : IntKind.u32.wrap ((c.toNat : Int) * 256) = (c.toNat : Int) * 256 := by show ((c.toNat : Int) * 256) % 4294967296 = _; omega
  have hor1 := HO1.out
  have hor2 := HO2.out
  have hor3 := HO3.out
  clear hx9 HS
  refine wp_region_tail (fun w' => w' = W9) 22 (by kernel_rfl) (by kernel_rfl) hW9 ?_
  clear hW9
  simp only [List.take_succ_cons, List.take_zero, List.drop_succ_cons, List.drop_zero]
  iterate 22
    with_reducible refine wpQuiet_step ?_
    intro K hK
    go_simp
    first
      | (with_reducible refine hK _ ?_
         clear hK K)
      | (rw [if_neg (by intro h; cases h)]
         with_reducible refine hK _ ?_
         clear hK K)
      | (refine Exists.intro _ ⟨fun w9 hw9 => ?_, ?_⟩
         rotate_left 1
         with_reducible refine hK _ ?_
         clear hK K
         rotate_left 1
         · subst hw9; go_simp; try with_reducible rfl)
  refine wpQuiet_nil ?_
  rintro w17 rfl
  clear hw1 hw2 hw3 hw4 hw5 hw6 hw7 hor1 hor2 hor3
  go_wp2
  go_ret
  exact ⟨rfl, v', HV.out, HS2.out⟩
set_option maxRecDepth 100000 in
set_option maxHeartbeats 4000000 in
theorem rsigned_any {v : Value} {l : List UInt8} {a b c d : UInt8} {br : Nat} (ha : a.toNat < 128) (hA : ∀ w', Sat W A w' → Ext W w') (hr : RdA W v (a :: b :: c :: d :: l)) (h : Sat W (pts br (rdB v) * A) w) :
    Calls Try.prog 39 #[.pointer (some ⟨br, 0, none⟩)] w fun e w' => e = .returned (.int .i64 (wordN a b c d)) ∧ ∃ v', RdA W v' l ∧ Sat W (pts br (rdB v') * A) w' := by
  have HB := Lib.hid (rword_any hA hr h)
  obtain ⟨n, hn⟩ : ∃ n, wordN a b c d = n := ⟨_, rfl⟩
  have hlt : (n : Int) < 2147483648 := by
    have := u8i b
    have := u8i c
    have := u8i d
    unfold wordN at hn
    omega
  rw [hn] at HB ⊢
  clear hn hr h hA ha
  go_enter Try.func39, Try.ntmps39
  go_wp2_with fail
  with_reducible refine Calls.mono HB.out ?_
  rintro e w2 ⟨rfl, v', hv, hs⟩
  have HS := Lib.hid hs
  have HV := Lib.hid hv
  clear hs hv
  go_wp2
  go_ret
  exact ⟨rfl, v', HV.out, HS.out⟩
set_option maxRecDepth 100000 in
theorem demand_any (w : World) : Calls Try.prog 28 #[.bool true] w fun e w' => e = .returned (.tuple #[]) ∧ w' = w := by
  go_enter Try.func28, Try.ntmps28
  go_wp2
  go_end0
  exact ⟨rfl, rfl⟩
end Go.Proofs.Ytembknlhocijkaa
