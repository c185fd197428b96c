
/-
  The least file. Conditions: those that each theorem names.
-/
import Derived.Test.YtjeinldhbajknaaDvM
import Derived.Test.YtjeinldhbajknaaRowB
import Derived.Test.YtjeinldhbajknaaStep
namespace Go.Proofs.Ytjeinldhbajknaa
open Go.RowKit Go.Sp Go.Conc
variable {W w w' : World} {A : HProp}

/-- the low byte of a number -/
def lowB (x : Int) : UInt8 := UInt8.ofNat (x % 256).toNat
theorem lowB_nat (x : Int) : ((lowB x).toNat : Int) = x % 256 := by
  unfold lowB
  rw [UInt8.toNat_ofNat']
  omega
/-- a number of four bytes -/
def fourB (n : Int) : List UInt8 := [lowB (n / 16777216), lowB (n / 65536), lowB (n / 256), lowB n]
theorem fourB_cells (n : Int) : bytesB (fourB n) = [.int .u8 (n / 16777216 % 256), .int .u8 (n / 65536 % 256), .int .u8 (n / 256 % 256), .int .u8 (n % 256)] := by
  simp [bytesB, fourB, lowB_nat]

set_option maxRecDepth 100000 in
set_option maxHeartbeats 4000000 in
theorem four_any {v : Value} {l : List UInt8} (n : Int) (hl : l.length ≤ 100000000) (h : Sat W (rowB v l * A) w) :
    Calls Try.prog 22 #[v, .int .i64 n] w fun e w' => ∃ v', e = .returned v' ∧ Sat W (rowB v' (l ++ fourB n) * A) w' := by
  obtain ⟨i0, hi, hz0, hz1, hz2⟩ := info_parts3B info_u8B
  have HI := Lib.hid hi
  have HZ0 := Lib.hid hz0
  have HZ1 := Lib.hid hz1
  have HZ2 := Lib.hid hz2
  have H := Lib.hid h
  clear hi hz0 hz1 hz2 h
  go_enter Try.func22, Try.ntmps22
  go_wp2_with (at_builtin; refine wpList_append_sep rfl _ _ 22 rfl i0 _ 1 Try.underlying22 HI.out HZ0.out HZ1.out HZ2.out rfl rfl H.out.allocD ⟨w.heap.size, 0, none⟩ 4 4 [.int .u8 (n / 16777216 % 256), .int .u8 (n / 65536 % 256), .int .u8 (n / 256 % 256), .int .u8 (n % 256)] rfl rfl ?_ ?_ ?_ ?_ ?_)
  · exact new_cells _ _ _
  · simp [Value.oneCell']
  · simp [maxLen]; omega
  · omega
  intro v' w1 h6
  have H6 := Lib.hid (rowB_app (l := fourB n) h6 rfl (by rw [fourB_cells]))
  clear h6 H
  go_wp2
  go_ret
  exact ⟨v', rfl, H6.out⟩

def leastL : List UInt8 := [247, 2, 1, 131, 146, 192, 28, 59, 0, 0, 0, 0, 3, 232, 0, 248, 255, 255, 255, 255, 1, 131, 146, 192, 28, 59, 0, 0, 0, 0, 3, 232, 0, 0, 0, 0, 0, 0, 0, 0, 0, 0, 0, 0, 249, 0, 0, 0, 15, 2, 223, 223, 223, 223, 223, 223]
set_option maxRecDepth 100000 in
set_option maxHeartbeats 4000000 in
theorem least_any (h : Sat W A w) :
    Calls Try.prog 25 #[] w fun e w' => ∃ v', e = .returned v' ∧ Sat W (rowB v' leastL * A) w' := by
  obtain ⟨i0, hi, hz0, hz1, hz2⟩ := info_parts3B info_u8B
  have HI := Lib.hid hi
  have HZ0 := Lib.hid hz0
  have HZ1 := Lib.hid hz1
  have HZ2 := Lib.hid hz2
  have H := Lib.hid (show Sat W (rowB (.slice none 0 0) [] * A) w from Sat.row_nil (e := 5) (size := 1) h)
  clear hi hz0 hz1 hz2 h
  go_enter Try.func25, Try.ntmps25
  go_wp2_with (at_builtin; refine wpList_append_sep rfl _ _ 22 rfl i0 _ 1 Try.underlying22 HI.out HZ0.out HZ1.out HZ2.out rfl rfl H.out.allocD ⟨w.heap.size, 0, none⟩ 2 2 (bytesB [247, 2]) rfl rfl ?_ ?_ ?_ ?_ ?_)
  · exact new_cells _ _ _
  · exact bytesB_one _
  · simp [maxLen]
  · simp
  intro v1 w1 h6
  have H1 := Lib.hid (rowB_app (acc := []) (l := [247, 2]) h6 rfl rfl)
  clear h6 H
  have HF := Lib.hid (four_any 25400000 (by decide) H1.out)
  clear H1
  go_wp2_with fail
  with_reducible refine Calls.mono HF.out ?_
  rintro e w2 ⟨v2, rfl, h6⟩
  have H2 := Lib.hid h6
  clear h6 HF
  have HF := Lib.hid (four_any 473628672 (by decide) H2.out)
  clear H2
  go_wp2_with fail
  with_reducible refine Calls.mono HF.out ?_
  rintro e w3 ⟨v3, rfl, h6⟩
  have H3 := Lib.hid h6
  clear h6 HF
  have HF := Lib.hid (four_any 1000 (by decide) H3.out)
  clear H3
  go_wp2_with fail
  with_reducible refine Calls.mono HF.out ?_
  rintro e w4 ⟨v4, rfl, h6⟩
  have H4 := Lib.hid h6
  clear h6 HF
  go_wp2_with (at_builtin; refine wpList_append_sep rfl _ _ 22 rfl i0 _ 1 Try.underlying22 HI.out HZ0.out HZ1.out HZ2.out rfl rfl H4.out.allocD ⟨w4.heap.size, 0, none⟩ 2 2 (bytesB [0, 248]) rfl rfl ?_ ?_ ?_ ?_ ?_)
  · exact new_cells _ _ _
  · exact bytesB_one _
  · simp [maxLen, fourB]
  · simp [fourB]
  intro v5 w5 h6
  have H5 := Lib.hid (rowB_app (l := [0, 248]) h6 rfl rfl)
  clear h6 H4
  have HF := Lib.hid (four_any (-1) (by decide) H5.out)
  clear H5
  go_wp2_with fail
  with_reducible refine Calls.mono HF.out ?_
  rintro e w6 ⟨v6, rfl, h6⟩
  have H6 := Lib.hid h6
  clear h6 HF
  have HF := Lib.hid (four_any 25400000 (by decide) H6.out)
  clear H6
  go_wp2_with fail
  with_reducible refine Calls.mono HF.out ?_
  rintro e w7 ⟨v7, rfl, h6⟩
  have H7 := Lib.hid h6
  clear h6 HF
  have HF := Lib.hid (four_any 473628672 (by decide) H7.out)
  clear H7
  go_wp2_with fail
  with_reducible refine Calls.mono HF.out ?_
  rintro e w8 ⟨v8, rfl, h6⟩
  have H8 := Lib.hid h6
  clear h6 HF
  have HF := Lib.hid (four_any 1000 (by decide) H8.out)
  clear H8
  go_wp2_with fail
  with_reducible refine Calls.mono HF.out ?_
  rintro e w9 ⟨v9, rfl, h6⟩
  have H9 := Lib.hid h6
  clear h6 HF
  have HF := Lib.hid (four_any 0 (by decide) H9.out)
  clear H9
  go_wp2_with fail
  with_reducible refine Calls.mono HF.out ?_
  rintro e w10 ⟨v10, rfl, h6⟩
  have H10 := Lib.hid h6
  clear h6 HF
  have HF := Lib.hid (four_any 0 (by decide) H10.out)
  clear H10
  go_wp2_with fail
  with_reducible refine Calls.mono HF.out ?_
  rintro e w11 ⟨v11, rfl, h6⟩
  have H11 := Lib.hid h6
  clear h6 HF
  go_wp2_with (at_builtin; refine wpList_append_sep rfl _ _ 22 rfl i0 _ 1 Try.underlying22 HI.out HZ0.out HZ1.out HZ2.out rfl rfl H11.out.allocD ⟨w11.heap.size, 0, none⟩ 5 5 (bytesB [0, 0, 0, 0, 249]) rfl rfl ?_ ?_ ?_ ?_ ?_)
  · exact new_cells _ _ _
  · exact bytesB_one _
  · simp [maxLen, fourB]
  · simp [fourB]
  intro v12 w12 h6
  have H12 := Lib.hid (rowB_app (l := [0, 0, 0, 0, 249]) h6 rfl rfl)
  clear h6 H11
  have HF := Lib.hid (four_any 15 (by decide) H12.out)
  clear H12
  go_wp2_with fail
  with_reducible refine Calls.mono HF.out ?_
  rintro e w13 ⟨v13, rfl, h6⟩
  have H13 := Lib.hid h6
  clear h6 HF
  go_wp2_with (at_builtin; refine wpList_append_sep rfl _ _ 22 rfl i0 _ 1 Try.underlying22 HI.out HZ0.out HZ1.out HZ2.out rfl rfl H13.out.allocD ⟨w13.heap.size, 0, none⟩ 7 7 (bytesB [2, 223, 223, 223, 223, 223, 223]) rfl rfl ?_ ?_ ?_ ?_ ?_)
  · exact new_cells _ _ _
  · exact bytesB_one _
  · simp [maxLen, fourB]
  · simp [fourB]
  intro v14 w14 h6
  have H14 := Lib.hid (rowB_app (l := [2, 223, 223, 223, 223, 223, 223]) h6 rfl rfl)
  clear h6 H13
  go_wp2
  go_ret
  exact ⟨v14, rfl, H14.out⟩

end Go.Proofs.Ytjeinldhbajknaa
