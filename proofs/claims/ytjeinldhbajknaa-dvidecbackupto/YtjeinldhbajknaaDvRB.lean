
/-
  The law's Written. Conditions: those that each theorem names.
-/
import Derived.Test.YtjeinldhbajknaaDvRA
namespace Go.Proofs.Ytjeinldhbajknaa
open Go.RowKit Go.Sp Go.Conc
variable {W w w' : World} {A : HProp}

/-- a number as so many bytes -/
def numB : Nat → Int → List UInt8
  | 0, _ => []
  | k + 1, x => lowB (x / 256 ^ k) :: numB k x
/-- numbers of these sizes -/
def argsB : List Int → List Int → List UInt8
  | z :: zs, x :: xs => numB z.natAbs x ++ argsB zs xs
  | _, _ => []
/-- a command's bytes -/
def writtenM (code : Nat) (args : List Int) (text : List UInt8) : List UInt8 := lowB code :: (argsB (refSizes code) args ++ text)
/-- a command of the document's -/
abbrev ropO (code at_ : Int) (va : Value) (t : ByteArray) : Obj := .cells #[.int .i64 code, .int .i64 at_, va, .string t] 34
theorem numB_len : ∀ (k : Nat) (x : Int), (numB k x).length = k
  | 0, _ => rfl
  | k + 1, x => by rw [numB, List.length_cons, numB_len]

set_option maxRecDepth 100000 in
set_option maxHeartbeats 8000000 in
theorem written_any {va : Value} {args : List Int} {text : List UInt8} (code : Nat) (at_ : Int) (hc : code ≤ 249) (hlen : args.length = (refSizes code).length) (hz : ∀ z ∈ refSizes code, z ≠ 0 ∧ -4 ≤ z ∧ z ≤ 4) (h12 : (refSizes code).length ≤ 12) (htx : text.length ≤ 1048576)
    (hv : ∀ w', Sat W A w' → Rd w' va args.length 1 (intsL args)) (h : Sat W A w) :
    Calls Try.prog 14 #[.agg #[.int .i64 code, .int .i64 at_, va, .string ⟨text.toArray⟩]] w fun e w' => ∃ v, e = .returned v ∧ Sat W (rowB v (writtenM code args text) * A) w' := by
  obtain ⟨va0, vc0, hva, -⟩ : ∃ a c, va = .slice a args.length c ∧ True := by obtain ⟨_, _, a, c, e, _⟩ := hv w h; exact ⟨a, c, e, trivial⟩
  subst hva
  obtain ⟨i0, hi, hz0, hz1, hz2⟩ := info_parts3B info_u8B
  have HI := Lib.hid hi
  have HZ0 := Lib.hid hz0
  have HZ1 := Lib.hid hz1
  have HZ2 := Lib.hid hz2
  obtain ⟨b1, hb1⟩ : ∃ b1, w.heap.size = b1 := ⟨_, rfl⟩
  have h1 := h.alloc (ropO code at_ (.slice va0 args.length vc0) ⟨text.toArray⟩)
  rw [hb1] at h1
  obtain ⟨W1, hW1⟩ : ∃ W1, w.alloc (ropO code at_ (.slice va0 args.length vc0) ⟨text.toArray⟩) = W1 := ⟨_, rfl⟩
  rw [hW1] at h1
  have c0 := h1.cell (i := 0) rfl
  have hs1 : W1.heap.size = b1 + 1 := by rw [← hW1, ← hb1]; simp
  have h2 := h1.alloc (.cells #[.int .u8 (code : Int)] 5)
  rw [hs1] at h2
  have hrow : Sat W (rowB (.slice (some ⟨b1 + 1, 0, none⟩) 1 1) [lowB code] * (pts b1 (ropO code at_ (.slice va0 args.length vc0) ⟨text.toArray⟩) * A)) (W1.alloc (.cells #[.int .u8 (code : Int)] 5)) :=
    Sat.row_whole (e := 5) (size := 1) (cur := #[.int .u8 (code : Int)]) 1 h2 (by simp [maxLen]) rfl |>.of_eq (by
      have e : ((lowB (code : Int)).toNat : Int) = code := by rw [lowB_nat]; omega
      unfold rowB; simp [bytesB, e])
  have HSZ := Lib.hid (sizes_any code (by omega) hrow)
  have HW1 := Lib.hid hW1
  have HV := Lib.hid hv
  have HZ := Lib.hid hz
  have HLEN := Lib.hid hlen
  have H12 := Lib.hid h12
  have HTX := Lib.hid htx
  clear hi hz0 hz1 hz2 h h1 h2 hrow hW1 hv hz hlen h12 htx hs1
  go_enter Try.func14, Try.ntmps14
  go_wp2_with fail
  rw [HW1.out]
  clear HW1 c0 hb1
  with_reducible refine Calls.mono HSZ.out ?_
  rintro e w2 ⟨vs, rfl, h3⟩
  obtain ⟨vsa, vsc, hvs, -⟩ := h3.row_val
  obtain ⟨zs, hzs⟩ : ∃ zs, refSizes code = zs := ⟨_, rfl⟩
  have hwm : writtenM code args text = [lowB code] ++ argsB zs args ++ text := by unfold writtenM; rw [hzs]; simp
  have HWM := Lib.hid hwm
  rw [hzs] at h3 hvs HZ HLEN H12
  subst hvs
  obtain ⟨v3, hv3⟩ : ∃ v3, Value.slice (some ⟨b1 + 1, 0, none⟩) 1 1 = v3 := ⟨_, rfl⟩
  rw [hv3] at h3 ⊢
  have H3 := Lib.hid h3
  obtain ⟨TOT, hT⟩ : ∃ TOT, [lowB code] ++ argsB zs args = TOT := ⟨_, rfl⟩
  have HT := Lib.hid hT
  clear hzs hwm h3 HSZ hv3 hT
  go_wp2_with fail
  go_loopg [3, 6, 7, 8] args.length (fun gg s3 s6 _ _ wx => ∃ (i : Nat) (acc : List UInt8), i ≤ args.length ∧ gg = args.length - i ∧ s6 = .int .i64 i ∧ acc ++ argsB (zs.drop i) (args.drop i) = TOT ∧ acc.length ≤ 1 + 4 * i ∧
    Sat W (rowI (.slice vsa zs.length vsc) zs * (rowB s3 acc * (pts b1 (ropO code at_ (.slice va0 args.length vc0) ⟨text.toArray⟩) * A))) wx)
  case atStart => exact ⟨0, [lowB code], Nat.zero_le _, rfl, by go_num, HT.out, by simp, H3.out⟩
  case round =>
    clear H3
    obtain ⟨i, acc, hi, rfl, rfl, hacc, hal, hx⟩ := hrel
    have HX := Lib.hid hx
    have HACC := Lib.hid hacc
    have HAL := Lib.hid hal
    have hop := hx.r.r.cell (i := 2) rfl
    have hop3 := hx.r.r.cell (i := 3) rfl
    clear hacc hal
    have hle := HLEN.out
    by_cases hlt : i < args.length
    · have i1 : (i : Int) < (zs.length : Int) := by omega
      have i2 : (i : Int) < (args.length : Int) := by omega
      have i3 : (0 : Int) ≤ (i : Int) := by omega
      obtain ⟨z, hzz⟩ : ∃ z, zs.getD i 0 = z := ⟨_, rfl⟩
      obtain ⟨gz, oz, hsa, y0⟩ := rd_arg (Sat.rd hx) i (by omega)
      subst hsa
      rw [hzz] at y0
      have hzm : z ∈ zs := by rw [← hzz, List.getD, List.getElem?_eq_getElem (show i < zs.length by omega)]; exact List.getElem_mem _
      have hzr := HZ.out z hzm
      obtain ⟨gx, ox, hsx, x0⟩ := rd_arg (HV.out _ hx.r.r.r) i hlt
      subst hsx
      obtain ⟨x, hxx⟩ : ∃ x, args.getD i 0 = x := ⟨_, rfl⟩
      have HXX := Lib.hid hxx
      have HIB := Lib.hid (show i ≤ 12 by have := H12.out; omega)
      have HDR := Lib.hid (show argsB (zs.drop i) (args.drop i) = argsB (z :: zs.drop (i + 1)) (x :: args.drop (i + 1)) by
        rw [List.drop_eq_getElem_cons (show i < zs.length by omega), List.drop_eq_getElem_cons hlt]
        rw [List.getD, List.getElem?_eq_getElem (show i < zs.length by omega)] at hzz
        rw [List.getD, List.getElem?_eq_getElem hlt] at hxx
        simp only [Option.getD_some] at hzz hxx
        rw [hzz, hxx])
      clear hx hle hxx hzz hzm x0
      by_cases hneg : z < 0
      · obtain ⟨n, hn⟩ : ∃ n : Nat, z = -(n : Int) := ⟨z.natAbs, by omega⟩
        subst hn
        have hn1 : 1 ≤ n ∧ n ≤ 4 := by omega
        have HNZ := Lib.hid (show (-(n : Int)).natAbs = n by omega)
        have hn0 : 0 < n := by omega
        have hwn : wrap64 (n : Int) = (n : Int) := by unfold wrap64; omega
        have hw1 : wrap64 ((n : Int) - 1) = (n : Int) - 1 := by unfold wrap64; omega
        clear hzr
        go_wp2_with fail
        go_loopg [3, 8] n (fun gk s3 s8 wx => ∃ (k : Nat) (acc2 : List UInt8), k ≤ n ∧ gk = k ∧ s8 = .int .i64 ((k : Int) - 1) ∧ acc2 ++ numB k x = acc ++ numB n x ∧ acc2.length + k = acc.length + n ∧
          Sat W (rowI (.slice (some ⟨gz, oz, none⟩) zs.length vsc) zs * (rowB s3 acc2 * (pts b1 (ropO code at_ (.slice (some ⟨gx, ox, none⟩) args.length vc0) ⟨text.toArray⟩) * A))) wx)
        case atStart => exact ⟨n, acc, Nat.le_refl _, rfl, by go_num, rfl, rfl, HX.out⟩
        case round =>
          clear HX y0
          obtain ⟨k, acc2, hk, rfl, rfl, ha2, hl2, hx2⟩ := hrel
          have HX2 := Lib.hid hx2
          have HACC2 := Lib.hid ha2
          have HAL2 := Lib.hid (show acc2.length ≤ 100 by have := HAL.out; have := HIB.out; omega)
          have HLL2 := Lib.hid hl2
          clear ha2
          cases gk with
          | zero =>
            have hacc2 : acc2 = acc ++ numB n x := by have := HACC2.out; simpa [numB] using this
            have i9 : ¬ ((0 : Int) ≤ ((0 : Nat) : Int) - 1) := by omega
            clear hx2 hl2
            have hib := HIB.out
            go_wp2
            go_roundg (args.length - (i + 1))
            case measure => omega
            case rel => exact ⟨i + 1, acc2, by omega, rfl, by go_num, by rw [hacc2, ← HACC.out]; rw [HDR.out, argsB, HNZ.out]; simp, by have := HAL.out; have := HLL2.out; omega, HX2.out⟩
          | succ k =>
            obtain ⟨g9, o9, e9, yx⟩ := rd_arg (HV.out _ hx2.r.r.r) i (by omega)
            cases e9
            rw [HXX.out] at yx
            have hop := hx2.r.r.cell (i := 2) rfl
            have H6 := Lib.hid hx2.rot
            clear hx2 hl2 HX2
            have hk3 : k = 0 ∨ k = 1 ∨ k = 2 ∨ k = 3 := by omega
            rcases hk3 with rfl | rfl | rfl | rfl
            · skip
              go_wp2_with (at_builtin; refine wpList_append_sep rfl _ _ 22 rfl i0 _ 1 Try.underlying22 HI.out HZ0.out HZ1.out HZ2.out rfl rfl H6.out.allocD ⟨wr.heap.size, 0, none⟩ 1 1 [.int .u8 (x % 256)] rfl rfl ?_ ?_ ?_ ?_ ?_)
              · exact new_cells _ _ _
              · simp [Value.oneCell']
              · have := HAL2.out; simp [maxLen]; omega
              · have := HAL2.out; simp; omega
              intro v5 w5 h7
              have H7 := Lib.hid (rowB_snoc (c := lowB (x / 256 ^ 0)) h7 rfl (by simp [lowB_nat]))
              clear h7 H6
              go_wp2
              go_roundg 0
              case measure => omega
              case rel => exact ⟨0, acc2 ++ [lowB (x / 256 ^ 0)], by omega, rfl, by go_num, by rw [← HACC2.out, List.append_assoc]; rfl, by have := HLL2.out; rw [List.length_append, List.length_singleton]; omega, H7.out.of_eq (by ac_rfl)⟩
            · skip
              go_wp2_with (at_builtin; refine wpList_append_sep rfl _ _ 22 rfl i0 _ 1 Try.underlying22 HI.out HZ0.out HZ1.out HZ2.out rfl rfl H6.out.allocD ⟨wr.heap.size, 0, none⟩ 1 1 [.int .u8 (x / 256 % 256)] rfl rfl ?_ ?_ ?_ ?_ ?_)
              · exact new_cells _ _ _
              · simp [Value.oneCell']
              · have := HAL2.out; simp [maxLen]; omega
              · have := HAL2.out; simp; omega
              intro v5 w5 h7
              have H7 := Lib.hid (rowB_snoc (c := lowB (x / 256 ^ 1)) h7 rfl (by simp [lowB_nat]))
              clear h7 H6
              go_wp2
              go_roundg 1
              case measure => omega
              case rel => exact ⟨1, acc2 ++ [lowB (x / 256 ^ 1)], by omega, rfl, by go_num, by rw [← HACC2.out, List.append_assoc]; rfl, by have := HLL2.out; rw [List.length_append, List.length_singleton]; omega, H7.out.of_eq (by ac_rfl)⟩
            · skip
              go_wp2_with (at_builtin; refine wpList_append_sep rfl _ _ 22 rfl i0 _ 1 Try.underlying22 HI.out HZ0.out HZ1.out HZ2.out rfl rfl H6.out.allocD ⟨wr.heap.size, 0, none⟩ 1 1 [.int .u8 (x / 65536 % 256)] rfl rfl ?_ ?_ ?_ ?_ ?_)
              · exact new_cells _ _ _
              · simp [Value.oneCell']
              · have := HAL2.out; simp [maxLen]; omega
              · have := HAL2.out; simp; omega
              intro v5 w5 h7
              have H7 := Lib.hid (rowB_snoc (c := lowB (x / 256 ^ 2)) h7 rfl (by simp [lowB_nat]))
              clear h7 H6
              go_wp2
              go_roundg 2
              case measure => omega
              case rel => exact ⟨2, acc2 ++ [lowB (x / 256 ^ 2)], by omega, rfl, by go_num, by rw [← HACC2.out, List.append_assoc]; rfl, by have := HLL2.out; rw [List.length_append, List.length_singleton]; omega, H7.out.of_eq (by ac_rfl)⟩
            · skip
              go_wp2_with (at_builtin; refine wpList_append_sep rfl _ _ 22 rfl i0 _ 1 Try.underlying22 HI.out HZ0.out HZ1.out HZ2.out rfl rfl H6.out.allocD ⟨wr.heap.size, 0, none⟩ 1 1 [.int .u8 (x / 16777216 % 256)] rfl rfl ?_ ?_ ?_ ?_ ?_)
              · exact new_cells _ _ _
              · simp [Value.oneCell']
              · have := HAL2.out; simp [maxLen]; omega
              · have := HAL2.out; simp; omega
              intro v5 w5 h7
              have H7 := Lib.hid (rowB_snoc (c := lowB (x / 256 ^ 3)) h7 rfl (by simp [lowB_nat]))
              clear h7 H6
              go_wp2
              go_roundg 3
              case measure => omega
              case rel => exact ⟨3, acc2 ++ [lowB (x / 256 ^ 3)], by omega, rfl, by go_num, by rw [← HACC2.out, List.append_assoc]; rfl, by have := HLL2.out; rw [List.length_append, List.length_singleton]; omega, H7.out.of_eq (by ac_rfl)⟩
      · obtain ⟨n, hn⟩ : ∃ n : Nat, z = (n : Int) := ⟨z.natAbs, by omega⟩
        subst hn
        have hn1 : 1 ≤ n ∧ n ≤ 4 := by omega
        have HNZ := Lib.hid (show ((n : Int)).natAbs = n by omega)
        have hw1 : wrap64 ((n : Int) - 1) = (n : Int) - 1 := by unfold wrap64; omega
        clear hzr
        go_wp2_with fail
        go_loopg [3, 8] n (fun gk s3 s8 wx => ∃ (k : Nat) (acc2 : List UInt8), k ≤ n ∧ gk = k ∧ s8 = .int .i64 ((k : Int) - 1) ∧ acc2 ++ numB k x = acc ++ numB n x ∧ acc2.length + k = acc.length + n ∧
          Sat W (rowI (.slice (some ⟨gz, oz, none⟩) zs.length vsc) zs * (rowB s3 acc2 * (pts b1 (ropO code at_ (.slice (some ⟨gx, ox, none⟩) args.length vc0) ⟨text.toArray⟩) * A))) wx)
        case atStart => exact ⟨n, acc, Nat.le_refl _, rfl, by go_num, rfl, rfl, HX.out⟩
        case round =>
          clear HX y0
          obtain ⟨k, acc2, hk, rfl, rfl, ha2, hl2, hx2⟩ := hrel
          have HX2 := Lib.hid hx2
          have HACC2 := Lib.hid ha2
          have HAL2 := Lib.hid (show acc2.length ≤ 100 by have := HAL.out; have := HIB.out; omega)
          have HLL2 := Lib.hid hl2
          clear ha2
          cases gk with
          | zero =>
            have hacc2 : acc2 = acc ++ numB n x := by have := HACC2.out; simpa [numB] using this
            have i9 : ¬ ((0 : Int) ≤ ((0 : Nat) : Int) - 1) := by omega
            clear hx2 hl2
            have hib := HIB.out
            go_wp2
            go_roundg (args.length - (i + 1))
            case measure => omega
            case rel => exact ⟨i + 1, acc2, by omega, rfl, by go_num, by rw [hacc2, ← HACC.out]; rw [HDR.out, argsB, HNZ.out]; simp, by have := HAL.out; have := HLL2.out; omega, HX2.out⟩
          | succ k =>
            obtain ⟨g9, o9, e9, yx⟩ := rd_arg (HV.out _ hx2.r.r.r) i (by omega)
            cases e9
            rw [HXX.out] at yx
            have hop := hx2.r.r.cell (i := 2) rfl
            have H6 := Lib.hid hx2.rot
            clear hx2 hl2 HX2
            have hk3 : k = 0 ∨ k = 1 ∨ k = 2 ∨ k = 3 := by omega
            rcases hk3 with rfl | rfl | rfl | rfl
            · skip
              go_wp2_with (at_builtin; refine wpList_append_sep rfl _ _ 22 rfl i0 _ 1 Try.underlying22 HI.out HZ0.out HZ1.out HZ2.out rfl rfl H6.out.allocD ⟨wr.heap.size, 0, none⟩ 1 1 [.int .u8 (x % 256)] rfl rfl ?_ ?_ ?_ ?_ ?_)
              · exact new_cells _ _ _
              · simp [Value.oneCell']
              · have := HAL2.out; simp [maxLen]; omega
              · have := HAL2.out; simp; omega
              intro v5 w5 h7
              have H7 := Lib.hid (rowB_snoc (c := lowB (x / 256 ^ 0)) h7 rfl (by simp [lowB_nat]))
              clear h7 H6
              go_wp2
              go_roundg 0
              case measure => omega
              case rel => exact ⟨0, acc2 ++ [lowB (x / 256 ^ 0)], by omega, rfl, by go_num, by rw [← HACC2.out, List.append_assoc]; rfl, by have := HLL2.out; rw [List.length_append, List.length_singleton]; omega, H7.out.of_eq (by ac_rfl)⟩
            · skip
              go_wp2_with (at_builtin; refine wpList_append_sep rfl _ _ 22 rfl i0 _ 1 Try.underlying22 HI.out HZ0.out HZ1.out HZ2.out rfl rfl H6.out.allocD ⟨wr.heap.size, 0, none⟩ 1 1 [.int .u8 (x / 256 % 256)] rfl rfl ?_ ?_ ?_ ?_ ?_)
              · exact new_cells _ _ _
              · simp [Value.oneCell']
              · have := HAL2.out; simp [maxLen]; omega
              · have := HAL2.out; simp; omega
              intro v5 w5 h7
              have H7 := Lib.hid (rowB_snoc (c := lowB (x / 256 ^ 1)) h7 rfl (by simp [lowB_nat]))
              clear h7 H6
              go_wp2
              go_roundg 1
              case measure => omega
              case rel => exact ⟨1, acc2 ++ [lowB (x / 256 ^ 1)], by omega, rfl, by go_num, by rw [← HACC2.out, List.append_assoc]; rfl, by have := HLL2.out; rw [List.length_append, List.length_singleton]; omega, H7.out.of_eq (by ac_rfl)⟩
            · skip
              go_wp2_with (at_builtin; refine wpList_append_sep rfl _ _ 22 rfl i0 _ 1 Try.underlying22 HI.out HZ0.out HZ1.out HZ2.out rfl rfl H6.out.allocD ⟨wr.heap.size, 0, none⟩ 1 1 [.int .u8 (x / 65536 % 256)] rfl rfl ?_ ?_ ?_ ?_ ?_)
              · exact new_cells _ _ _
              · simp [Value.oneCell']
              · have := HAL2.out; simp [maxLen]; omega
              · have := HAL2.out; simp; omega
              intro v5 w5 h7
              have H7 := Lib.hid (rowB_snoc (c := lowB (x / 256 ^ 2)) h7 rfl (by simp [lowB_nat]))
              clear h7 H6
              go_wp2
              go_roundg 2
              case measure => omega
              case rel => exact ⟨2, acc2 ++ [lowB (x / 256 ^ 2)], by omega, rfl, by go_num, by rw [← HACC2.out, List.append_assoc]; rfl, by have := HLL2.out; rw [List.length_append, List.length_singleton]; omega, H7.out.of_eq (by ac_rfl)⟩
            · skip
              go_wp2_with (at_builtin; refine wpList_append_sep rfl _ _ 22 rfl i0 _ 1 Try.underlying22 HI.out HZ0.out HZ1.out HZ2.out rfl rfl H6.out.allocD ⟨wr.heap.size, 0, none⟩ 1 1 [.int .u8 (x / 16777216 % 256)] rfl rfl ?_ ?_ ?_ ?_ ?_)
              · exact new_cells _ _ _
              · simp [Value.oneCell']
              · have := HAL2.out; simp [maxLen]; omega
              · have := HAL2.out; simp; omega
              intro v5 w5 h7
              have H7 := Lib.hid (rowB_snoc (c := lowB (x / 256 ^ 3)) h7 rfl (by simp [lowB_nat]))
              clear h7 H6
              go_wp2
              go_roundg 3
              case measure => omega
              case rel => exact ⟨3, acc2 ++ [lowB (x / 256 ^ 3)], by omega, rfl, by go_num, by rw [← HACC2.out, List.append_assoc]; rfl, by have := HLL2.out; rw [List.length_append, List.length_singleton]; omega, H7.out.of_eq (by ac_rfl)⟩
    · have hin : i = args.length := by omega
      subst hin
      have htot : acc = TOT := by
        have h := HACC.out
        rw [List.drop_of_length_le (Nat.le_refl _)] at h
        have e : ∀ zs : List Int, argsB zs [] = [] := fun zs => by cases zs <;> rfl
        rw [e, List.append_nil] at h
        exact h
      have i1 : ¬ ((args.length : Int) < (zs.length : Int)) := by omega
      have H6 := Lib.hid hx.rot
      have HTB := Lib.hid (show acc.length ≤ 100 by have := HAL.out; have := H12.out; omega)
      have HTA := Lib.hid htot
      clear hx hle htot
      go_wp2_with (at_builtin; refine wpList_append_S rfl _ _ 22 9 rfl i0 Try.underlying22 Try.underlying9 HI.out HZ0.out HZ1.out HZ2.out rfl H6.out ⟨text.toArray⟩ rfl ?_ ?_ ?_)
      · have := HTB.out; have := HTX.out; simp [maxLen]; omega
      · have := HTB.out; have := HTX.out; simp; omega
      intro v5 w5 h7 _
      have H7 := Lib.hid (rowB_app (acc := acc) (l := text) h7 (by simp) (by rw [strCells_mk]))
      clear h7 H6
      go_wp2
      go_ret
      refine ⟨v5, rfl, ?_⟩
      rw [HWM.out, HT.out, ← HTA.out]
      exact (H7.out.of_eq (show _ = rowI (.slice vsa zs.length vsc) zs * (pts b1 (ropO code at_ (.slice va0 args.length vc0) ⟨text.toArray⟩) * (rowB v5 (acc ++ text) * A)) by ac_rfl)).r.r

end Go.Proofs.Ytjeinldhbajknaa
