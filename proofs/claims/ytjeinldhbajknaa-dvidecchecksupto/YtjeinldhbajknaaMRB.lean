import Derived.Test.YtjeinldhbajknaaMDvRA
import Derived.Test.YtjeinldhbajknaaMY
/-
  The law's Written. Conditions: those that each theorem names.
-/
namespace Go.Proofs.Ytjeinldhbajknaa
open Go.RowKit Go.Sp Go.Conc
variable {W w w' : World} {A : HProp}

/-- a number as so many bytes -/
def numB : Nat → Int → List UInt8
  | 0, _ => []
  | k + 1, x => lowB (x / 256 ^ k) :: numB k x
/-- numbers of these sizes -/
def argsB : List Int → List Int → List UInt8
  | z :: zs, x :: xs => numB z.natAbs x ++ argsB zs xs
  | _, _ => []
/-- a command's bytes -/
def writtenM (code : Nat) (args : List Int) (text : List UInt8) : List UInt8 := lowB code :: (argsB (refSizes code) args ++ text)
/-- a command of the document's -/
abbrev ropO (code at_ : Int) (va : Value) (t : ByteArray) : Obj := .cells #[.int .i64 code, .int .i64 at_, va, .string t] 34
theorem numB_len : ∀ (k : Nat) (x : Int), (numB k x).length = k
  | 0, _ => rfl
  | k + 1, x => by rw [numB, List.length_cons, numB_len]

set_option maxRecDepth 100000 in
set_option maxHeartbeats 8000000 in
theorem written_any {va : Value} {args : List Int} {text : List UInt8} (code : Nat) (at_ : Int) (hc : code ≤ 249) (hlen : args.length = (refSizes code).length) (hz : ∀ z ∈ refSizes code, z ≠ 0 ∧ -4 ≤ z ∧ z ≤ 4) (h12 : (refSizes code).length ≤ 12) (htx : text.length ≤ 1048576)
    (hv : ∀ w', Sat W A w' → Rd w' va args.length 1 (intsL args)) (h : Sat W A w) :
    Calls Try.prog 14 #[.agg #[.int .i64 code, .int .i64 at_, va, .string ⟨text.toArray⟩]] w fun e w' => ∃ v, e = .returned v ∧ Sat W (rowB v (writtenM code args text) * A) w' := by
  obtain ⟨va0, vc0, hva, -⟩ : ∃ a c, va = .slice a args.length c ∧ True := by obtain ⟨_, _, a, c, e, _⟩ := hv w h; exact ⟨a, c, e, trivial⟩
  subst hva
  obtain ⟨i0, hi, hz0, hz1, hz2⟩ := info_parts3B info_u8B
  have HI := Lib.hid hi
  have HZ0 := Lib.hid hz0
  have HZ1 := Lib.hid hz1
  have HZ2 := Lib.hid hz2
  obtain ⟨b1, hb1⟩ : ∃ b1, w.heap.size = b1 := ⟨_, rfl⟩
  have h1 := h.alloc (ropO code at_ (.slice va0 args.length vc0) ⟨text.toArray⟩)
  rw [hb1] at h1
  obtain ⟨W1, hW1⟩ : ∃ W1, w.alloc (ropO code at_ (.slice va0 args.length vc0) ⟨text.toArray⟩) = W1 := ⟨_, rfl⟩
  rw [hW1] at h1
  have c0 := h1.cell (i := 0) rfl
  have hs1 : W1.heap.size = b1 + 1 := by rw [← hW1, ← hb1]; simp
  have h2 := h1.alloc (.cells #[.int .u8 (code : Int)] 5)
  rw [hs1] at h2
  have hrow : Sat W (rowB (.slice (some ⟨b1 + 1, 0, none⟩) 1 1) [lowB code] * (pts b1 (ropO code at_ (.slice va0 args.length vc0) ⟨text.toArray⟩) * A)) (W1.alloc (.cells #[.int .u8 (code : Int)] 5)) :=
    Sat.row_whole (e := 5) (size := 1) (cur := #[.int .u8 (code : Int)]) 1 h2 (by simp [maxLen]) rfl |>.of_eq (by
      have e : ((lowB (code : Int)).toNat : Int) = code := by rw [lowB_nat]; omega
      unfold rowB; simp [bytesB, e])
  have HSZ := Lib.hid (sizes_any code (by omega) hrow)
  have HW1 := Lib.hid hW1
  have HV := Lib.hid hv
  have HZ := Lib.hid hz
  have HLEN := Lib.hid hlen
  have H12 := Lib.hid h12
  have HTX := Lib.hid htx
  clear hi hz0 hz1 hz2 h h1 h2 hrow hW1 hv hz hlen h12 htx hs1
  go_enter Try.func14, Try.ntmps14
  go_wp2_with fail
  rw [HW1.out]
  clear HW1 c0 hb1
  with_reducible refine Calls.mono HSZ.out ?_
  rintro e w2 ⟨vs, rfl, h3⟩
  obtain ⟨vsa, vsc, hvs, -⟩ := h3.row_val
  obtain ⟨zs, hzs⟩ : ∃ zs, refSizes code = zs := ⟨_, rfl⟩
  have hwm : writtenM code args text = [lowB code] ++ argsB zs args ++ text := by unfold writtenM; rw [hzs]; simp
  have HWM := Lib.hid hwm
  rw [hzs] at h3 hvs HZ HLEN H12
  subst hvs
  obtain ⟨v3, hv3⟩ : ∃ v3, Value.slice (some ⟨b1 + 1, 0, none⟩) 1 1 = v3 := ⟨_, rfl⟩
  rw [hv3] at h3 ⊢
  have H3 := Lib.hid h3
  obtain ⟨TOT, hT⟩ : ∃ TOT, [lowB code] ++ argsB zs args = TOT := ⟨_, rfl⟩
  have HT := Lib.hid hT
  clear hzs hwm h3 HSZ hv3 hT
  go_wp2_with fail
  go_loopg [3, 6, 7, 8] args.length (fun gg s3 s6 _ _ wx => ∃ (i : Nat) (acc : List UInt8), i ≤ args.length ∧ gg = args.length - i ∧ s6 = .int .i64 i ∧ acc ++ argsB (zs.drop i) (args.drop i) = TOT ∧ acc.length ≤ 1 + 4 * i ∧
    Sat W (rowI (.slice vsa zs.length vsc) zs * (rowB s3 acc * (pts b1 (ropO code at_ (.slice va0 args.length vc0) ⟨text.toArray⟩) * A))) wx)
  case atStart => exact ⟨0, [lowB code], Nat.zero_le _, rfl, by go_num, HT.out, by simp, H3.out⟩
  case round =>
    clear H3
    obtain ⟨i, acc, hi, rfl, rfl, hacc, hal, hx⟩ := hrel
    have HX := Lib.hid hx
    have HACC := Lib.hid hacc
    have HAL := Lib.hid hal
    have hop := hx.r.r.cell (i := 2) rfl
    have hop3 := hx.r.r.cell (i := 3) rfl
    clear hacc hal
    have hle := HLEN.out
    by_cases hlt : i < args.length
    · have i1 : (i : Int) < (zs.length : Int) := by omega
      have i2 : (i : Int) < (args.length : Int) := by omega
      have i3 : (0 : Int) ≤ (i : Int) := by omega
      obtain ⟨z, hzz⟩ : ∃ z, zs.getD i 0 = z := ⟨_, rfl⟩
      obtain ⟨gz, oz, hsa, y0⟩ := rd_arg (Sat.rd hx) i (by omega)
      subst hsa
      rw [hzz] at y0
      have hzm : z ∈ zs := by rw [← hzz, List.getD, List.getElem?_eq_getElem (show i < zs.length by omega)]; exact List.getElem_mem _
      have hzr := HZ.out z hzm
      obtain ⟨gx, ox, hsx, x0⟩ := rd_arg (HV.out _ hx.r.r.r) i hlt
      subst hsx
      obtain ⟨x, hxx⟩ : ∃ x, args.getD i 0 = x := ⟨_, rfl⟩
      have HXX := Lib.hid hxx
      have HIB := Lib.hid (show i ≤ 12 by have := H12.out; omega)
      have HDR := Lib.hid (show argsB (zs.drop i) (args.drop i) = argsB (z :: zs.drop (i + 1)) (x :: args.drop (i + 1)) by
        rw [List.drop_eq_getElem_cons (show i < zs.length by omega), List.drop_eq_getElem_cons hlt]
        rw [List.getD, List.getElem?_eq_getElem (show i < zs.length by omega)] at hzz
        rw [List.getD, List.getElem?_eq_getElem hlt] at hxx
        simp only [Option.getD_some] at hzz hxx
        rw [hzz, hxx])
      clear hx hle hxx hzz hzm x0
      by_cases hneg : z < 0
      · obtain ⟨n, hn⟩ : ∃ n : Nat, z = -(n : Int) := ⟨z.natAbs, by omega⟩
        subst hn
        have hn1 : 1 ≤ n ∧ n ≤ 4 := by omega
        have HNZ := Lib.hid (show (-(n : Int)).natAbs = n by omega)
        have hn0 : 0 < n := by omega
        have hwn : wrap64 (n : Int) = (n : Int) := by unfold wrap64; omega
        have hw1 : wrap64 ((n : Int) - 1) = (n : Int) - 1 := by unfold wrap64; omega
        clear hzr
        go_wp2_with fail
        go_loopg [3, 8] n (fun gk s3 s8 wx => ∃ (k : Nat) (acc2 : List UInt8), k ≤ n ∧ gk = k ∧ s8 = .int .i64 ((k : Int) - 1) ∧ acc2 ++ numB k x = acc ++ numB n x ∧ acc2.length + k = acc.length + n ∧
          Sat W (rowI (.slice (some ⟨gz, oz, none⟩) zs.length vsc) zs * (rowB s3 acc2 * (pts b1 (ropO code at_ (.slice (some ⟨gx, ox, none⟩) args.length vc0) ⟨text.toArray⟩) * A))) wx)
        case atStart => exact ⟨n, acc, Nat.le_refl _, rfl, by go_num, rfl, rfl, HX.out⟩
        case round =>
          clear HX y0
          obtain ⟨k, acc2, hk, rfl, rfl, ha2, hl2, hx2⟩ := hrel
          have HX2 := Lib.hid hx2
          have HACC2 := Lib.hid ha2
          have HAL2 := Lib.hid (show acc2.length ≤ 100 by have := HAL.out; have := HIB.out; omega)
          have HLL2 := Lib.hid hl2
          clear ha2
          cases gk with
          | zero =>
            have hacc2 : acc2 = acc ++ numB n x := by have := HACC2.out; simpa [numB] using this
            have i9 : ¬ ((0 : Int) ≤ ((0 : Nat) : Int) - 1) := by omega
            clear hx2 hl2
            have hib := HIB.out
            go_wp2
            go_roundg (args.length - (i + 1))
            case measure => omega
            case rel => exact ⟨i + 1, acc2, by omega, rfl, by go_num, by rw [hacc2, ← HACC.out]; rw [HDR.out, argsB, HNZ.out]; simp, by have := HAL.out; have := HLL2.out; omega, HX2.out⟩
          | succ k =>
            obtain ⟨g9, o9, e9, yx⟩ := rd_arg (HV.out _ hx2.r.r.r) i (by omega)
            cases e9
            rw [HXX.out] at yx
            have hop := hx2.r.r.cell (i := 2) rfl
            have H6 := Lib.hid hx2.rot
            clear hx2 hl2 HX2
            have hk3 : k = 0 ∨ k = 1 ∨ k = 2 ∨ k = 3 := by omega
            rcases hk3 with rfl | rfl | rfl | rfl
            · skip
              go_wp2_with (at_builtin; refine wpList_append_sep rfl _ _ 22 rfl i0 _ 1 Try.underlying22 HI.out HZ0.out HZ1.out HZ2.out rfl rfl H6.out.allocD ⟨wr.heap.size, 0, none⟩ 1 1 [.int .u8 (x % 256)] rfl rfl ?_ ?_ ?_ ?_ ?_)
              · exact new_cells _ _ _
              · simp [Value.oneCell']
              · have := HAL2.out; simp [maxLen]; omega
              · have := HAL2.out; simp; omega
              intro v5 w5 h7
              have H7 := Lib.hid (rowB_snoc (c := lowB (x / 256 ^ 0)) h7 rfl (by simp [lowB_nat]))
              clear h7 H6
              go_wp2
              go_roundg 0
              case measure => omega
              case rel => exact ⟨0, acc2 ++ [lowB (x / 256 ^ 0)], by omega, rfl, by go_num, by rw [← HACC2.out, List.append_assoc]; rfl, by have := HLL2.out; rw [List.length_append, List.length_singleton]; omega, H7.out.of_eq (by ac_rfl)⟩
            · skip
              go_wp2_with (at_builtin; refine wpList_append_sep rfl _ _ 22 rfl i0 _ 1 Try.underlying22 HI.out HZ0.out HZ1.out HZ2.out rfl rfl H6.out.allocD ⟨wr.heap.size, 0, none⟩ 1 1 [.int .u8 (x / 256 % 256)] rfl rfl ?_ ?_ ?_ ?_ ?_)
              · exact new_cells _ _ _
              · simp [Value.oneCell']
              · have := HAL2.out; simp [maxLen]; omega
              · have := HAL2.out; simp; omega
              intro v5 w5 h7
              have H7 := Lib.hid (rowB_snoc (c := lowB (x / 256 ^ 1)) h7 rfl (by simp [lowB_nat]))
              clear h7 H6
              go_wp2
              go_roundg 1
              case measure => omega
              case rel => exact ⟨1, acc2 ++ [lowB (x / 256 ^ 1)], by omega, rfl, by go_num, by rw [← HACC2.out, List.append_assoc]; rfl, by have := HLL2.out; rw [List.length_append, List.length_singleton]; omega, H7.out.of_eq (by ac_rfl)⟩
            · skip
              go_wp2_with (at_builtin; refine wpList_append_sep rfl _ _ 22 rfl i0 _ 1 Try.underlying22 HI.out HZ0.out HZ1.out HZ2.out rfl rfl H6.out.allocD ⟨wr.heap.size, 0, none⟩ 1 1 [.int .u8 (x / 65536 % 256)] rfl rfl ?_ ?_ ?_ ?_ ?_)
              · exact new_cells _ _ _
              · simp [Value.oneCell']
              · have := HAL2.out; simp [maxLen]; omega
              · have := HAL2.out; simp; omega
              intro v5 w5 h7
              have H7 := Lib.hid (rowB_snoc (c := lowB (x / 256 ^ 2)) h7 rfl (by simp [lowB_nat]))
              clear h7 H6
              go_wp2
              go_roundg 2
              case measure => omega
              case rel => exact ⟨2, acc2 ++ [lowB (x / 256 ^ 2)], by omega, rfl, by go_num, by rw [← HACC2.out, List.append_assoc]; rfl, by have := HLL2.out; rw [List.length_append, List.length_singleton]; omega, H7.out.of_eq (by ac_rfl)⟩
            · skip
              go_wp2_with (at_builtin; refine wpList_append_sep rfl _ _ 22 rfl i0 _ 1 Try.underlying22 HI.out HZ0.out HZ1.out HZ2.out rfl rfl H6.out.allocD ⟨wr.heap.size, 0, none⟩ 1 1 [.int .u8 (x / 16777216 % 256)] rfl rfl ?_ ?_ ?_ ?_ ?_)
              · exact new_cells _ _ _
              · simp [Value.oneCell']
              · have := HAL2.out; simp [maxLen]; omega
              · have := HAL2.out; simp; omega
              intro v5 w5 h7
              have H7 := Lib.hid (rowB_snoc (c := lowB (x / 256 ^ 3)) h7 rfl (by simp [lowB_nat]))
              clear h7 H6
              go_wp2
              go_roundg 3
              case measure => omega
              case rel => exact ⟨3, acc2 ++ [lowB (x / 256 ^ 3)], by omega, rfl, by go_num, by rw [← HACC2.out, List.append_assoc]; rfl, by have := HLL2.out; rw [List.length_append, List.length_singleton]; omega, H7.out.of_eq (by ac_rfl)⟩
      · obtain ⟨n, hn⟩ : ∃ n : Nat, z = (n : Int) := ⟨z.natAbs, by omega⟩
        subst hn
        have hn1 : 1 ≤ n ∧ n ≤ 4 := by omega
        have HNZ := Lib.hid (show ((n : Int)).natAbs = n by omega)
        have hw1 : wrap64 ((n : Int) - 1) = (n : Int) - 1 := by unfold wrap64; omega
        clear hzr
        go_wp2_with fail
        go_loopg [3, 8] n (fun gk s3 s8 wx => ∃ (k : Nat) (acc2 : List UInt8), k ≤ n ∧ gk = k ∧ s8 = .int .i64 ((k : Int) - 1) ∧ acc2 ++ numB k x = acc ++ numB n x ∧ acc2.length + k = acc.length + n ∧
          Sat W (rowI (.slice (some ⟨gz, oz, none⟩) zs.length vsc) zs * (rowB s3 acc2 * (pts b1 (ropO code at_ (.slice (some ⟨gx, ox, none⟩) args.length vc0) ⟨text.toArray⟩) * A))) wx)
        case atStart => exact ⟨n, acc, Nat.le_refl _, rfl, by go_num, rfl, rfl, HX.out⟩
        case round =>
          clear HX y0
          obtain ⟨k, acc2, hk, rfl, rfl, ha2, hl2, hx2⟩ := hrel
          have HX2 := Lib.hid hx2
          have HACC2 := Lib.hid ha2
          have HAL2 := Lib.hid (show acc2.length ≤ 100 by have := HAL.out; have := HIB.out; omega)
          have HLL2 := Lib.hid hl2
          clear ha2
          cases gk with
          | zero =>
            have hacc2 : acc2 = acc ++ numB n x := by have := HACC2.out; simpa [numB] using this
            have i9 : ¬ ((0 : Int) ≤ ((0 : Nat) : Int) - 1) := by omega
            clear hx2 hl2
            have hib := HIB.out
            go_wp2
            go_roundg (args.length - (i + 1))
            case measure => omega
            case rel => exact ⟨i + 1, acc2, by omega, rfl, by go_num, by rw [hacc2, ← HACC.out]; rw [HDR.out, argsB, HNZ.out]; simp, by have := HAL.out; have := HLL2.out; omega, HX2.out⟩
          | succ k =>
            obtain ⟨g9, o9, e9, yx⟩ := rd_arg (HV.out _ hx2.r.r.r) i (by omega)
            cases e9
            rw [HXX.out] at yx
            have hop := hx2.r.r.cell (i := 2) rfl
            have H6 := Lib.hid hx2.rot
            clear hx2 hl2 HX2
            have hk3 : k = 0 ∨ k = 1 ∨ k = 2 ∨ k = 3 := by omega
            rcases hk3 with rfl | rfl | rfl | rfl
            · skip
              go_wp2_with (at_builtin; refine wpList_append_sep rfl _ _ 22 rfl i0 _ 1 Try.underlying22 HI.out HZ0.out HZ1.out HZ2.out rfl rfl H6.out.allocD ⟨wr.heap.size, 0, none⟩ 1 1 [.int .u8 (x % 256)] rfl rfl ?_ ?_ ?_ ?_ ?_)
              · exact new_cells _ _ _
              · simp [Value.oneCell']
              · have := HAL2.out; simp [maxLen]; omega
              · have := HAL2.out; simp; omega
              intro v5 w5 h7
              have H7 := Lib.hid (rowB_snoc (c := lowB (x / 256 ^ 0)) h7 rfl (by simp [lowB_nat]))
              clear h7 H6
              go_wp2
              go_roundg 0
              case measure => omega
              case rel => exact ⟨0, acc2 ++ [lowB (x / 256 ^ 0)], by omega, rfl, by go_num, by rw [← HACC2.out, List.append_assoc]; rfl, by have := HLL2.out; rw [List.length_append, List.length_singleton]; omega, H7.out.of_eq (by ac_rfl)⟩
            · skip
              go_wp2_with (at_builtin; refine wpList_append_sep rfl _ _ 22 rfl i0 _ 1 Try.underlying22 HI.out HZ0.out HZ1.out HZ2.out rfl rfl H6.out.allocD ⟨wr.heap.size, 0, none⟩ 1 1 [.int .u8 (x / 256 % 256)] rfl rfl ?_ ?_ ?_ ?_ ?_)
              · exact new_cells _ _ _
              · simp [Value.oneCell']
              · have := HAL2.out; simp [maxLen]; omega
              · have := HAL2.out; simp; omega
              intro v5 w5 h7
              have H7 := Lib.hid (rowB_snoc (c := lowB (x / 256 ^ 1)) h7 rfl (by simp [lowB_nat]))
              clear h7 H6
              go_wp2
              go_roundg 1
              case measure => omega
              case rel => exact ⟨1, acc2 ++ [lowB (x / 256 ^ 1)], by omega, rfl, by go_num, by rw [← HACC2.out, List.append_assoc]; rfl, by have := HLL2.out; rw [List.length_append, List.length_singleton]; omega, H7.out.of_eq (by ac_rfl)⟩
            · skip
              go_wp2_with (at_builtin; refine wpList_append_sep rfl _ _ 22 rfl i0 _ 1 Try.underlying22 HI.out HZ0.out HZ1.out HZ2.out rfl rfl H6.out.allocD ⟨wr.heap.size, 0, none⟩ 1 1 [.int .u8 (x / 65536 % 256)] rfl rfl ?_ ?_ ?_ ?_ ?_)
              · exact new_cells _ _ _
              · simp [Value.oneCell']
              · have := HAL2.out; simp [maxLen]; omega
              · have := HAL2.out; simp; omega
              intro v5 w5 h7
              have H7 := Lib.hid (rowB_snoc (c := lowB (x / 256 ^ 2)) h7 rfl (by simp [lowB_nat]))
              clear h7 H6
              go_wp2
              go_roundg 2
              case measure => omega
              case rel => exact ⟨2, acc2 ++ [lowB (x / 256 ^ 2)], by omega, rfl, by go_num, by rw [← HACC2.out, List.append_assoc]; rfl, by have := HLL2.out; rw [List.length_append, List.length_singleton]; omega, H7.out.of_eq (by ac_rfl)⟩
            · skip
              go_wp2_with (at_builtin; refine wpList_append_sep rfl _ _ 22 rfl i0 _ 1 Try.underlying22 HI.out HZ0.out HZ1.out HZ2.out rfl rfl H6.out.allocD ⟨wr.heap.size, 0, none⟩ 1 1 [.int .u8 (x / 16777216 % 256)] rfl rfl ?_ ?_ ?_ ?_ ?_)
              · exact new_cells _ _ _
              · simp [Value.oneCell']
              · have := HAL2.out; simp [maxLen]; omega
              · have := HAL2.out; simp; omega
              intro v5 w5 h7
              have H7 := Lib.hid (rowB_snoc (c := lowB (x / 256 ^ 3)) h7 rfl (by simp [lowB_nat]))
              clear h7 H6
              go_wp2
              go_roundg 3
              case measure => omega
              case rel => exact ⟨3, acc2 ++ [lowB (x / 256 ^ 3)], by omega, rfl, by go_num, by rw [← HACC2.out, List.append_assoc]; rfl, by have := HLL2.out; rw [List.length_append, List.length_singleton]; omega, H7.out.of_eq (by ac_rfl)⟩
    · have hin : i = args.length := by omega
      subst hin
      have htot : acc = TOT := by
        have h := HACC.out
        rw [List.drop_of_length_le (Nat.le_refl _)] at h
        have e : ∀ zs : List Int, argsB zs [] = [] := fun zs => by cases zs <;> rfl
        rw [e, List.append_nil] at h
        exact h
      have i1 : ¬ ((args.length : Int) < (zs.length : Int)) := by omega
      have H6 := Lib.hid hx.rot
      have HTB := Lib.hid (show acc.length ≤ 100 by have := HAL.out; have := H12.out; omega)
      have HTA := Lib.hid htot
      clear hx hle htot
      go_wp2_with (at_builtin; refine wpList_append_S rfl _ _ 22 9 rfl i0 Try.underlying22 Try.underlying9 HI.out HZ0.out HZ1.out HZ2.out rfl H6.out ⟨text.toArray⟩ rfl ?_ ?_ ?_)
      · have := HTB.out; have := HTX.out; simp [maxLen]; omega
      · have := HTB.out; have := HTX.out; simp; omega
      intro v5 w5 h7 _
      have H7 := Lib.hid (rowB_app (acc := acc) (l := text) h7 (by simp) (by rw [strCells_mk]))
      clear h7 H6
      go_wp2
      go_ret
      refine ⟨v5, rfl, ?_⟩
      rw [HWM.out, HT.out, ← HTA.out]
      exact (H7.out.of_eq (show _ = rowI (.slice vsa zs.length vsc) zs * (pts b1 (ropO code at_ (.slice va0 args.length vc0) ⟨text.toArray⟩) * (rowB v5 (acc ++ text) * A)) by ac_rfl)).r.r

end Go.Proofs.Ytjeinldhbajknaa

/-
  Commands, written down again, are the file. Conditions: none.
-/
namespace Go.Proofs.Ytjeinldhbajknaa
open Go.RowKit Go.Sp Go.Conc

/-- bytes as a number, behind v -/
def foldB : Nat → List UInt8 → Nat
  | v, [] => v
  | v, b :: bs => foldB (v * 256 + b.toNat) bs
theorem foldB_eq : ∀ (bs : List UInt8) (v : Nat), ∃ r, r < 256 ^ bs.length ∧ foldB v bs = v * 256 ^ bs.length + r
  | [], v => ⟨0, by simp, by simp [foldB]⟩
  | b :: bs, v => by
    obtain ⟨r, h1, h2⟩ := foldB_eq bs (v * 256 + b.toNat)
    have hb := b.toNat_lt
    refine ⟨b.toNat * 256 ^ bs.length + r, ?_, ?_⟩
    · rw [List.length_cons, Nat.pow_succ]
      have : b.toNat * 256 ^ bs.length + r < (b.toNat + 1) * 256 ^ bs.length := by rw [Nat.add_mul]; omega
      have h3 : (b.toNat + 1) * 256 ^ bs.length ≤ 256 * 256 ^ bs.length := Nat.mul_le_mul_right _ (by omega)
      rw [Nat.mul_comm (256 ^ bs.length) 256]
      omega
    · rw [foldB, h2, List.length_cons, Nat.pow_succ, Nat.add_mul, Nat.mul_assoc, Nat.mul_comm 256 (256 ^ bs.length), Nat.add_assoc]
theorem lowB_mul (a : Int) (b : UInt8) : lowB (a * 256 + b.toNat) = b := by
  refine UInt8.toNat_inj.1 ?_
  have h := lowB_nat (a * 256 + b.toNat)
  have hb := b.toNat_lt
  omega
theorem numB_fold : ∀ (bs : List UInt8) (v : Nat), numB bs.length ((foldB v bs : Nat) : Int) = bs
  | [], _ => rfl
  | b :: bs, v => by
    rw [List.length_cons, numB, foldB, numB_fold bs]
    obtain ⟨r, h1, h2⟩ := foldB_eq bs (v * 256 + b.toNat)
    have e : ((foldB (v * 256 + b.toNat) bs : Nat) : Int) / 256 ^ bs.length = (v : Int) * 256 + b.toNat := by
      have h3 : foldB (v * 256 + b.toNat) bs / 256 ^ bs.length = v * 256 + b.toNat := by
        rw [h2, Nat.mul_comm, Nat.mul_add_div (Nat.pow_pos (by decide)), Nat.div_eq_of_lt h1, Nat.add_zero]
      have h4 : ((foldB (v * 256 + b.toNat) bs / 256 ^ bs.length : Nat) : Int) = ((v * 256 + b.toNat : Nat) : Int) := by rw [h3]
      rw [Int.natCast_ediv] at h4
      simpa using h4
    rw [e, lowB_mul]
theorem numB_shift (t : Int) (m : Nat) (x : Int) : ∀ k, k ≤ m → numB k (x + 256 ^ m * t) = numB k x
  | 0, _ => rfl
  | k + 1, h => by
    rw [numB, numB, numB_shift t m x k (by omega)]
    congr 1
    obtain ⟨j, rfl⟩ : ∃ j, m = k + 1 + j := ⟨m - (k + 1), by omega⟩
    have e : (256 : Int) ^ (k + 1 + j) * t = 256 ^ k * (256 * (256 ^ j * t)) := by rw [Int.pow_add, Int.pow_succ, Int.mul_assoc, Int.mul_assoc]
    have hp : (256 : Int) ^ k ≠ 0 := Int.ne_of_gt (Int.pow_pos (by decide))
    rw [e, Int.add_mul_ediv_left _ _ hp]
    unfold lowB
    congr 2
    omega
theorem numB_sgn (m : Nat) (sg : Bool) (v : Nat) : numB m (sgnV m sg v) = numB m v := by
  unfold sgnV
  split
  · have e : (v : Int) - 2 ^ (8 * m) = v + 256 ^ m * (-1) := by
      rw [show (2 : Int) ^ (8 * m) = 256 ^ m by rw [Int.pow_mul]; rfl]
      omega
    rw [e, numB_shift _ _ _ _ (Nat.le_refl m)]
  · rfl

theorem next_bytes (f : Fd) (h : f.next.2.lost = false) : ∃ b, f.l = b :: f.next.2.l ∧ f.next.1 = b.toNat := by
  unfold Fd.next at h ⊢
  split at h
  · rename_i x l hl; exact ⟨x, hl, rfl⟩
  · cases h
theorem keep_lost {a b : Fd} (h : a.lost = true → b.lost = true) (hb : b.lost = false) : a.lost = false := by
  cases ha : a.lost with
  | false => rfl
  | true => rw [h ha] at hb; cases hb
theorem num_bytes : ∀ (k v : Nat) (f : Fd), (f.num k v).2.lost = false → ∃ bs, bs.length = k ∧ f.l = bs ++ (f.num k v).2.l ∧ (f.num k v).1 = foldB v bs
  | 0, _, _, _ => ⟨[], rfl, rfl, rfl⟩
  | k + 1, v, f, h => by
    rw [Fd.num] at h ⊢
    obtain ⟨bs, h1, h2, h3⟩ := num_bytes k _ _ h
    obtain ⟨b, h4, h5⟩ := next_bytes f (keep_lost (num_lost k _ _) h)
    exact ⟨b :: bs, by rw [List.length_cons, h1], by rw [h4, h2]; rfl, by rw [h3, h5]; rfl⟩
theorem args_bytes : ∀ (zs acc : List Int) (f : Fd), (f.args zs acc).2.lost = false → ∃ xs, (f.args zs acc).1 = acc ++ xs ∧ xs.length = zs.length ∧ f.l = argsB zs xs ++ (f.args zs acc).2.l
  | [], acc, f, _ => ⟨[], by simp [Fd.args], rfl, rfl⟩
  | z :: zs, acc, f, h => by
    rw [Fd.args] at h ⊢
    obtain ⟨xs, h1, h2, h3⟩ := args_bytes zs _ _ h
    obtain ⟨bs, h4, h5, h6⟩ := num_bytes z.natAbs 0 f (keep_lost (args_lost zs _ _) h)
    refine ⟨sgnV z.natAbs (decide (z < 0)) (f.num z.natAbs 0).1 :: xs, by rw [h1, List.append_assoc]; rfl, by rw [List.length_cons, List.length_cons, h2], ?_⟩
    have e : numB z.natAbs (sgnV z.natAbs (decide (z < 0)) (f.num z.natAbs 0).1) = bs := by
      rw [numB_sgn, h6]
      have := numB_fold bs 0
      rwa [h4] at this
    rw [argsB, e, List.append_assoc, ← h3]
    exact h5
theorem argsB_canon : ∀ (zs xs : List Int), argsB (zs.map fun z => if z = 4 then -4 else z) xs = argsB zs xs
  | [], xs => by cases xs <;> rfl
  | z :: zs, [] => rfl
  | z :: zs, x :: xs => by
    rw [List.map_cons, argsB, argsB, argsB_canon zs xs]
    congr 2
    split
    · rename_i h; rw [h]; rfl
    · rfl
/-- a command's bytes are those that were read -/
theorem cmd_bytes (f : Fd) (h : f.cmd.2.lost = false) : f.l = writtenM f.cmd.1.code f.cmd.1.args f.cmd.1.text ++ f.cmd.2.l := by
  have h1 : ((f.next.2.args (sizesM f.next.1) []).2.tail f.next.1 (f.next.2.args (sizesM f.next.1) []).1).2.lost = false := h
  have h2 := keep_lost (tail_lost f.next.1 (f.next.2.args (sizesM f.next.1) []).1 _) h1
  obtain ⟨b, a1, a2⟩ := next_bytes f (keep_lost (args_lost _ _ _) h2)
  obtain ⟨xs, b1, b2, b3⟩ := args_bytes (sizesM f.next.1) [] f.next.2 h2
  have e : f.cmd = (⟨f.next.1, f.at_, (f.next.2.args (sizesM f.next.1) []).1, ((f.next.2.args (sizesM f.next.1) []).2.tail f.next.1 (f.next.2.args (sizesM f.next.1) []).1).1⟩, ((f.next.2.args (sizesM f.next.1) []).2.tail f.next.1 (f.next.2.args (sizesM f.next.1) []).1).2) := rfl
  have ht : (f.next.2.args (sizesM f.next.1) []).2.l = ((f.next.2.args (sizesM f.next.1) []).2.tail f.next.1 (f.next.2.args (sizesM f.next.1) []).1).1 ++ ((f.next.2.args (sizesM f.next.1) []).2.tail f.next.1 (f.next.2.args (sizesM f.next.1) []).1).2.l := by
    generalize (f.next.2.args (sizesM f.next.1) []).2 = g at *
    generalize (f.next.2.args (sizesM f.next.1) []).1 = ys at *
    unfold Fd.tail at h1 ⊢
    cases hn : textN f.next.1 ys with
    | some n =>
      simp only [hn] at h1 ⊢
      unfold Fd.txt at h1 ⊢
      by_cases hc : n < 0 ∨ (g.l.length : Int) < n
      · rw [if_pos hc] at h1; cases h1
      · rw [if_neg hc]
        exact (List.take_append_drop _ _).symm
    | none =>
      simp only [List.nil_append]
      split <;> rfl
  rw [e]
  simp only
  unfold writtenM refSizes
  rw [argsB_canon]
  have hlow : lowB ((f.next.1 : Nat) : Int) = b := by
    have := lowB_mul 0 b
    rw [a2]
    simpa using this
  rw [hlow, List.cons_append, List.append_assoc, ← ht]
  rw [b1, List.nil_append, ← b3, ← a1]

/-- how many commands have this code -/
def cnt (c : Nat) (os : List Cmd) : Nat := (os.filter fun o => o.code == c).length
theorem cnt_snoc (c : Nat) (os : List Cmd) (o : Cmd) : cnt c (os ++ [o]) = cnt c os + if o.code = c then 1 else 0 := by
  unfold cnt
  rw [List.filter_append, List.length_append]
  congr 1
  by_cases h : o.code = c <;> simp [h]
/-- pages, and what was pushed -/
def Counts (F : FileM) : Prop := F.pages = cnt 139 F.ops ∧ (F.part = 1 → cnt 139 F.ops = cnt 140 F.ops + 1 ∧ F.stack = (cnt 141 F.ops : Int) - cnt 142 F.ops) ∧ (F.part ≠ 1 → cnt 139 F.ops = cnt 140 F.ops ∧ cnt 141 F.ops = cnt 142 F.ops)
def Keeps (F : FileM) : Prop := F.bad = false → Counts F
theorem ite_keeps {c : Prop} [Decidable c] {F G : FileM} (h1 : c → Keeps F) (h2 : ¬ c → Keeps G) : Keeps (if c then F else G) := by
  by_cases h : c
  · rw [if_pos h]; exact h1 h
  · rw [if_neg h]; exact h2 h
theorem define_same (F : FileM) (d : DefM) : (F.define d).pages = F.pages ∧ (F.define d).stack = F.stack ∧ (F.define d).ops = F.ops ∧ (F.define d).part = F.part := by
  unfold FileM.define
  simp only [fail_eq]
  split <;> exact ⟨rfl, rfl, rfl, rfl⟩
/-- a command that changes none of these -/
theorem Counts.other {F G : FileM} {o : Cmd} (h : Counts F) (hc : o.code ≠ 139 ∧ o.code ≠ 140 ∧ o.code ≠ 141 ∧ o.code ≠ 142) (hp : G.pages = F.pages) (hs : G.stack = F.stack) (ho : G.ops = F.ops ++ [o]) (ht : G.part = F.part) : Counts G := by
  obtain ⟨h1, h2, h3⟩ := h
  unfold Counts
  rw [hp, hs, ho, ht, cnt_snoc, cnt_snoc, cnt_snoc, cnt_snoc, if_neg hc.1, if_neg hc.2.1, if_neg hc.2.2.1, if_neg hc.2.2.2]
  exact ⟨h1, h2, h3⟩
theorem inside_keeps {F : FileM} (o : Cmd) (hp : F.part = 1) (h : Counts F) : Keeps (({ F with ops := F.ops ++ [o] } : FileM).inside o) := by
  have hd := define_same ({ F with ops := F.ops ++ [o] } : FileM) o.def_
  obtain ⟨h1, h2, h3⟩ := id h
  obtain ⟨h4, h5⟩ := h2 hp
  unfold FileM.inside FileM.choose
  simp only [fail_eq]
  refine ite_keeps (fun hc _ => h.other (by omega) rfl rfl rfl rfl) fun c1 => ?_
  refine ite_keeps (fun hc _ => h.other (by omega) rfl rfl rfl rfl) fun c2 => ?_
  refine ite_keeps (fun hc _ => h.other (by omega) rfl rfl rfl rfl) fun c3 => ?_
  refine ite_keeps (fun hc _ => h.other (by omega) rfl rfl rfl rfl) fun c4 => ?_
  refine ite_keeps (fun hc hb => by cases hb) fun c5 => ?_
  refine ite_keeps (fun hc hb => ?_) fun c6 => ?_
  · simp only [Bool.or_eq_false_iff, Bool.not_eq_false', beq_iff_eq] at hb
    refine ⟨?_, ?_, ?_⟩
    · simp [cnt_snoc, hc]; omega
    · intro h; exact absurd (show (0 : Int) = 1 from h) (by decide)
    · intro _; simp [cnt_snoc, hc]; omega
  refine ite_keeps (fun hc hb => ?_) fun c7 => ?_
  · refine ⟨?_, ?_, ?_⟩
    · simp [cnt_snoc, hc]; omega
    · intro _; simp [cnt_snoc, hc]; omega
    · intro h; exact absurd hp h
  refine ite_keeps (fun hc hb => ?_) fun c8 => ?_
  · refine ⟨?_, ?_, ?_⟩
    · simp [cnt_snoc, hc]; omega
    · intro _; simp [cnt_snoc, hc]; omega
    · intro h; exact absurd hp h
  refine ite_keeps (fun hc _ => h.other (by omega) rfl rfl rfl rfl) fun c9 => ?_
  refine ite_keeps (fun hc _ => h.other (by omega) rfl rfl rfl rfl) fun c10 => ?_
  refine ite_keeps (fun hc _ => h.other (by omega) rfl rfl rfl rfl) fun c11 => ?_
  refine ite_keeps (fun hc _ => h.other (by omega) rfl rfl rfl rfl) fun c12 => ?_
  refine ite_keeps (fun hc _ => h.other (by omega) hd.1 hd.2.1 hd.2.2.1 hd.2.2.2) fun c13 hb => by cases hb
theorem outside_keeps {F : FileM} (o : Cmd) (hp : F.part ≠ 1) (h : Counts F) : Keeps (({ F with ops := F.ops ++ [o] } : FileM).outside o) := by
  have hd := define_same ({ F with ops := F.ops ++ [o] } : FileM) o.def_
  obtain ⟨h1, h2, h3⟩ := id h
  obtain ⟨h4, h5⟩ := h3 hp
  unfold FileM.outside
  simp only [fail_eq]
  refine ite_keeps (fun hc _ => h.other (by omega) rfl rfl rfl rfl) fun c1 => ?_
  refine ite_keeps (fun hc _ => h.other (by omega) hd.1 hd.2.1 hd.2.2.1 hd.2.2.2) fun c2 => ?_
  refine ite_keeps (fun hc hb => ?_) fun c3 => ?_
  · refine ⟨?_, ?_, ?_⟩
    · simp [cnt_snoc, hc.2]; omega
    · intro _; simp [cnt_snoc, hc.2]; omega
    · intro h; exact absurd rfl h
  refine ite_keeps (fun hc hb => ?_) fun c4 hb => by cases hb
  refine ⟨?_, ?_, ?_⟩
  · simp [cnt_snoc, hc.2]; omega
  · intro h; exact absurd (show (2 : Int) = 1 from h) (by decide)
  · intro _; simp [cnt_snoc, hc.2]; omega

/-- commands, one behind the other -/
inductive Runs : Fd → List Cmd → Fd → Prop
  | nil (f : Fd) : Runs f [] f
  | cons (f : Fd) (os : List Cmd) (g : Fd) (h : f.cmd.2.lost = false) (r : Runs f.cmd.2 os g) : Runs f (f.cmd.1 :: os) g
theorem loopM_runs : ∀ (n : Nat) (f : Fd) (F : FileM) (x : Fd × FileM), loopM n f F = some x → (F.bad = false → Counts F) → x.2.bad = false → ∃ os, x.2.ops = F.ops ++ os ∧ Runs f os x.1 ∧ Counts x.2
  | 0, _, _, _, h, _, _ => by cases h
  | n + 1, f, F, x, h, hI, hb => by
    unfold loopM at h
    split at h
    · cases h
    · rename_i hn
      have hl : f.cmd.2.lost = false := by simpa using fun h => hn (.inl h)
      have hF := hI (by simpa using fun h => hn (.inr h))
      split at h
      · rename_i hp
        obtain ⟨os, h1, h2, h3⟩ := loopM_runs n _ _ x h (inside_keeps _ hp hF) hb
        rw [(inside_keep _ _).2] at h1
        exact ⟨f.cmd.1 :: os, by rw [h1]; simp, .cons f os _ hl h2, h3⟩
      · rename_i hp
        split at h
        · rename_i hp2
          cases h
          refine ⟨[f.cmd.1], by rw [fail_eq], .cons f [] _ hl (.nil _), ?_⟩
          rw [fail_eq]
          exact hF.other (by omega) rfl rfl rfl rfl
        · obtain ⟨os, h1, h2, h3⟩ := loopM_runs n _ _ x h (outside_keeps _ hp hF) hb
          rw [(outside_keep _ _).2] at h1
          exact ⟨f.cmd.1 :: os, by rw [h1]; simp, .cons f os _ hl h2, h3⟩

/-- how many bytes -/
def sumW : List Cmd → Nat
  | [] => 0
  | o :: os => (writtenM o.code o.args o.text).length + sumW os
theorem cmd_place (f : Fd) (h : f.cmd.2.lost = false) : f.cmd.2.at_ = f.at_ + (writtenM f.cmd.1.code f.cmd.1.args f.cmd.1.text).length ∧ f.cmd.2.l = f.l.drop (writtenM f.cmd.1.code f.cmd.1.args f.cmd.1.text).length := by
  have h1 := cmd_bytes f h
  have h2 := cmd_sum f
  have h3 := congrArg List.length h1
  rw [List.length_append] at h3
  refine ⟨by omega, ?_⟩
  generalize writtenM f.cmd.1.code f.cmd.1.args f.cmd.1.text = b at *
  rw [h1, List.drop_left]
theorem Runs.stop {f g : Fd} {os : List Cmd} (h : Runs f os g) : g.at_ = f.at_ + sumW os ∧ g.l = f.l.drop (sumW os) := by
  induction h with
  | nil f => exact ⟨rfl, rfl⟩
  | cons f os g hl r ih =>
    obtain ⟨a, b⟩ := cmd_place f hl
    rw [sumW]
    exact ⟨by rw [ih.1, a]; omega, by rw [ih.2, b, List.drop_drop]⟩
theorem Runs.get {f g : Fd} {os : List Cmd} (h : Runs f os g) : ∀ (i : Nat) (o : Cmd), os[i]? = some o → ∃ e : Fd, o = e.cmd.1 ∧ e.cmd.2.lost = false ∧ e.at_ = f.at_ + sumW (os.take i) ∧ e.l = f.l.drop (sumW (os.take i)) := by
  induction h with
  | nil f => intro i o h; simp at h
  | cons f os g hl r ih =>
    intro i o hi
    cases i with
    | zero =>
      simp only [List.getElem?_cons_zero, Option.some.injEq] at hi
      exact ⟨f, hi.symm, hl, rfl, rfl⟩
    | succ i =>
      simp only [List.getElem?_cons_succ] at hi
      obtain ⟨e, h1, h2, h3, h4⟩ := ih i o hi
      obtain ⟨a, b⟩ := cmd_place f hl
      refine ⟨e, h1, h2, ?_, ?_⟩
      · rw [h3, a, List.take_succ_cons, sumW]; omega
      · rw [h4, b, List.drop_drop, List.take_succ_cons, sumW]
/-- what the law asks of a file's commands -/
theorem back_plain {l : List UInt8} (h : errM l = 0) : ∃ g : Fd, Runs ⟨l, 0, false⟩ (opsM l) g ∧ (4 ≤ g.l.length ∧ g.l.length ≤ 7) ∧ (∀ x ∈ g.l, x = 223) ∧ cnt 139 (opsM l) = cnt 140 (opsM l) ∧ cnt 141 (opsM l) = cnt 142 (opsM l) ∧ (postM l).getD 7 0 = cnt 139 (opsM l) := by
  obtain ⟨h1, h3⟩ := err_zero.1 h
  cases hh : wholeM [] l with
  | none => rw [hh] at h3; cases h3
  | some F =>
    have e : opsM l = F.ops := by unfold opsM fileM; rw [if_neg (by omega), hh]
    have e2 : postM l = F.post.args := by unfold postM fileM; rw [if_neg (by omega), hh]
    obtain ⟨a1, a2, g, G, a3, a4, a5⟩ := whole_open hh
    have hc : (Fd.cmd ⟨l, 0, false⟩).1.code = 247 := by
      unfold firstOk at a2
      simp only [Bool.and_eq_true, beq_iff_eq] at a2
      exact a2.1
    rw [a4] at a5
    obtain ⟨b1, b2⟩ := lastM_fill _ _ _ _ a5
    obtain ⟨os, c1, c2, c3⟩ := loopM_runs _ _ _ _ a3 (fun _ => ⟨by simp [cnt, hc, FileM.new], fun h => absurd (show (0 : Int) = 1 from h) (by decide), fun _ => by simp [cnt, hc]⟩) b2
    have e3 : F.ops = (Fd.cmd ⟨l, 0, false⟩).1 :: os := by rw [a4, (lastM_ops _ _ _ _).1, c1]; rfl
    have e4 : F.post = G.post := by rw [a4, (lastM_ops _ _ _ _).2.2]
    have hp2 := (loopM_fits _ _ _ (newM_fits _ _ _) _ a3).2
    have c4 := c3.2.2 (by rw [hp2]; decide)
    simp only at c4 c1
    have e5 : G.ops = F.ops := by rw [c1, e3]; rfl
    rw [e5] at c4
    have c5 := c3.1
    simp only [e5] at c5
    refine ⟨g, by rw [e, e3]; exact .cons _ _ _ a1 c2, ?_, ?_, by rw [e]; exact c4.1, by rw [e]; exact c4.2, ?_⟩
    · unfold fillBad at b1
      simp only [Bool.or_eq_false_iff, decide_eq_false_iff_not] at b1
      omega
    · unfold lastM at a5
      simp only [fail_eq, Bool.or_eq_false_iff] at a5
      have h5 := a5.1.1.1.2
      intro x hx
      have h6 := List.any_eq_false.1 h5 x hx
      simpa using h6
    · unfold lastM at a5
      simp only [fail_eq, Bool.or_eq_false_iff] at a5
      have h5 := a5.1.2
      unfold postBad at h5
      simp only [Bool.or_eq_false_iff, Bool.not_eq_false', beq_iff_eq] at h5
      rw [e2, e4, e, ← c5]
      exact h5.2.2.2.2.2.2.2
theorem ops_none {l : List UInt8} (h : errM l ≠ 0) : opsM l = [] := by
  unfold opsM fileM
  split
  · rename_i F hF
    split at hF
    · cases hF
    · exfalso
      exact h (err_zero.2 ⟨by omega, by rw [hF]; rfl⟩)
  · rfl
theorem code_small (f : Fd) (h : f.cmd.2.lost = false) : f.cmd.1.code ≤ 249 := by
  have hw := (cmd_wf f).2
  by_cases hc : f.cmd.1.code ≤ 249
  · exact hc
  · exfalso
    have h1 : f.next.1 = f.cmd.1.code := rfl
    have h2 : ((f.next.2.args (sizesM f.next.1) []).2.tail f.next.1 (f.next.2.args (sizesM f.next.1) []).1).2.lost = false := h
    unfold Fd.tail textN at h2
    rw [if_neg (by omega), if_neg (by omega), if_neg (by omega)] at h2
    simp only at h2
    rw [if_pos (by omega)] at h2
    cases h2
theorem text_small (f : Fd) (h : f.cmd.2.lost = false) : f.cmd.1.text.length ≤ f.l.length := by
  have h1 := congrArg List.length (cmd_bytes f h)
  unfold writtenM at h1
  simp only [List.length_append, List.length_cons] at h1
  omega
theorem refSizes_all : ((List.range 250).all fun c => (refSizes c).all (fun z => decide (z ≠ 0 ∧ -4 ≤ z ∧ z ≤ 4)) && decide ((refSizes c).length ≤ 12)) = true := by kernel_rfl
theorem refSizes_ok (c : Nat) (h : c ≤ 249) : (∀ z ∈ refSizes c, z ≠ 0 ∧ -4 ≤ z ∧ z ≤ 4) ∧ (refSizes c).length ≤ 12 := by
  have h1 := List.all_eq_true.1 refSizes_all c (List.mem_range.2 (by omega))
  simp only [Bool.and_eq_true, List.all_eq_true, decide_eq_true_eq] at h1
  exact h1
theorem refSizes_len (f : Fd) : f.cmd.1.args.length = (refSizes f.cmd.1.code).length := by
  rw [(cmd_wf f).1]
  unfold refSizes
  rw [List.length_map]
theorem sumW_append : ∀ (a b : List Cmd), sumW (a ++ b) = sumW a + sumW b
  | [], b => by simp [sumW]
  | o :: a, b => by rw [List.cons_append, sumW, sumW, sumW_append a b]; omega
theorem cnt_le (c : Nat) (os : List Cmd) : cnt c os ≤ os.length := List.length_filter_le _ _
theorem sumW_ge : ∀ (os : List Cmd), os.length ≤ sumW os
  | [] => Nat.le_refl _
  | o :: os => by
    have := sumW_ge os
    rw [sumW, List.length_cons]
    unfold writtenM
    rw [List.length_cons]
    omega
/-- a command, its place, its bytes -/
theorem back_step {l : List UInt8} {os : List Cmd} {g : Fd} {i : Nat} {o : Cmd} {wb : List UInt8} (h : Runs ⟨l, 0, false⟩ os g) (hi : os[i]? = some o) (hw : writtenM o.code o.args o.text = wb) :
    o.at_ = sumW (os.take i) ∧ sumW (os.take i) + wb.length ≤ l.length ∧ (l.drop (sumW (os.take i))).take wb.length = wb ∧ 1 ≤ wb.length ∧ o.code ≤ 249 ∧ o.text.length ≤ l.length ∧ o.args.length = (refSizes o.code).length ∧
    sumW (os.take (i + 1)) = sumW (os.take i) + wb.length ∧ ∀ c, cnt c (os.take (i + 1)) = cnt c (os.take i) + if o.code = c then 1 else 0 := by
  obtain ⟨e, rfl, h2, h3, h4⟩ := h.get i o hi
  have h5 := cmd_bytes e h2
  rw [hw] at h5
  have hlt := (List.getElem?_eq_some_iff.1 hi).1
  have htk : os.take (i + 1) = os.take i ++ [e.cmd.1] := by
    rw [List.take_succ_eq_append_getElem hlt]
    rw [List.getElem?_eq_getElem hlt] at hi
    simp only [Option.some.injEq] at hi
    rw [hi]
  simp only at h3 h4
  have h6 := congrArg List.length h5
  rw [h4, List.length_drop, List.length_append] at h6
  have h7 : 1 ≤ wb.length := by rw [← hw]; unfold writtenM; rw [List.length_cons]; omega
  refine ⟨by have : e.cmd.1.at_ = e.at_ := rfl; omega, by omega, by rw [← h4, h5, List.take_left], h7, code_small e h2, ?_, refSizes_len e, ?_, fun c => by rw [htk, cnt_snoc]⟩
  · have := text_small e h2
    rw [h4, List.length_drop] at this
    omega
  · rw [htk, sumW_append, sumW, sumW, hw]; rfl

end Go.Proofs.Ytjeinldhbajknaa
