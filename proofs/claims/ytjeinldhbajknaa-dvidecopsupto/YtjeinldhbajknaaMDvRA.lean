import Derived.Test.YtjeinldhbajknaaMU
import Derived.Test.YtjeinldhbajknaaMLA
/-
  The document's Sizes. Conditions: those that each theorem names.
-/
namespace Go.Proofs.Ytjeinldhbajknaa
open Go.RowKit Go.Sp Go.Conc
variable {W w w' : World} {A : HProp}

/-- a number of so many bytes, as the document's sizes say it -/
def oneM (n : Int) (sg : Bool) : List Int := if sg = true ∨ n = 4 then [-n] else [n]
theorem one_any (n : Int) (hn : -100 ≤ n ∧ n ≤ 100) (sg : Bool) (h : Sat W A w) : Calls Try.prog 37 #[.int .i64 n, .bool sg] w fun e w' => ∃ v, e = .returned v ∧ Sat W (rowI v (oneM n sg) * A) w' := by
  have hw : IntKind.i64.wrap (-n) = -n := IntWalk.i64_in _ (by omega)
  have H1 := Lib.hid (h.alloc (.cells #[.int .i64 (-n)] 3))
  have H2 := Lib.hid (h.alloc (.cells #[.int .i64 n] 3))
  clear h
  cases sg with
  | true =>
    go_enter Try.func37, Try.ntmps37
    go_wp2
    go_ret
    exact ⟨_, rfl, Sat.row_whole (e := 3) 1 H1.out (by simp [maxLen]) rfl⟩
  | false =>
    by_cases h4 : n = 4
    · subst h4
      go_enter Try.func37, Try.ntmps37
      go_wp2
      go_ret
      exact ⟨_, rfl, Sat.row_whole (e := 3) 1 H1.out (by simp [maxLen]) rfl⟩
    · have e1 : oneM n false = [n] := by unfold oneM; rw [if_neg (by simp [h4])]
      rw [e1]
      go_enter Try.func37, Try.ntmps37
      go_wp2
      go_ret
      exact ⟨_, rfl, Sat.row_whole (e := 3) 1 H2.out (by simp [maxLen]) rfl⟩

set_option maxRecDepth 100000 in
set_option maxHeartbeats 4000000 in
theorem sz_0 (c : Nat) (hb : c ≤ 127) (h : Sat W A w) : Calls Try.prog 26 #[.int .i64 c] w fun e w' => ∃ v, e = .returned (.tuple #[v, .bool true]) ∧ Sat W (rowI v ([]) * A) w' := by
  have s128 : (c : Int) < (128 : Int) := by omega
  have l131 : (c : Int) ≤ (131 : Int) := by omega
  have l136 : (c : Int) ≤ (136 : Int) := by omega
  have l142 : (c : Int) ≤ (142 : Int) := by omega
  have l146 : (c : Int) ≤ (146 : Int) := by omega
  have l151 : (c : Int) ≤ (151 : Int) := by omega
  have l156 : (c : Int) ≤ (156 : Int) := by omega
  have l160 : (c : Int) ≤ (160 : Int) := by omega
  have l165 : (c : Int) ≤ (165 : Int) := by omega
  have l170 : (c : Int) ≤ (170 : Int) := by omega
  have l234 : (c : Int) ≤ (234 : Int) := by omega
  have l238 : (c : Int) ≤ (238 : Int) := by omega
  have l242 : (c : Int) ≤ (242 : Int) := by omega
  have l246 : (c : Int) ≤ (246 : Int) := by omega
  have g140 : ¬ (140 : Int) ≤ (c : Int) := by omega
  have g171 : ¬ (171 : Int) ≤ (c : Int) := by omega
  have e132 : ((c : Int) == 132) = false := by rw [beq_eq_false_iff_ne]; omega
  have e137 : ((c : Int) == 137) = false := by rw [beq_eq_false_iff_ne]; omega
  have e138 : ((c : Int) == 138) = false := by rw [beq_eq_false_iff_ne]; omega
  have e147 : ((c : Int) == 147) = false := by rw [beq_eq_false_iff_ne]; omega
  have e152 : ((c : Int) == 152) = false := by rw [beq_eq_false_iff_ne]; omega
  have e161 : ((c : Int) == 161) = false := by rw [beq_eq_false_iff_ne]; omega
  have e166 : ((c : Int) == 166) = false := by rw [beq_eq_false_iff_ne]; omega
  have e139 : ((c : Int) == 139) = false := by rw [beq_eq_false_iff_ne]; omega
  have e247 : ((c : Int) == 247) = false := by rw [beq_eq_false_iff_ne]; omega
  have e248 : ((c : Int) == 248) = false := by rw [beq_eq_false_iff_ne]; omega
  have e249 : ((c : Int) == 249) = false := by rw [beq_eq_false_iff_ne]; omega
  have H := Lib.hid h
  clear h
  go_enter Try.func26, Try.ntmps26
  go_wp2
  go_ret2
  exact ⟨_, rfl, Sat.row_nil (e := 3) (size := 1) H.out⟩
set_option maxRecDepth 100000 in
set_option maxHeartbeats 4000000 in
theorem sz_128 (c : Nat) (hb : 128 ≤ c ∧ c ≤ 131) (h : Sat W A w) : Calls Try.prog 26 #[.int .i64 c] w fun e w' => ∃ v, e = .returned (.tuple #[v, .bool true]) ∧ Sat W (rowI v (oneM ((c : Int) - 127) false) * A) w' := by
  have s128 : ¬ (c : Int) < (128 : Int) := by omega
  have l131 : (c : Int) ≤ (131 : Int) := by omega
  have l136 : (c : Int) ≤ (136 : Int) := by omega
  have l142 : (c : Int) ≤ (142 : Int) := by omega
  have l146 : (c : Int) ≤ (146 : Int) := by omega
  have l151 : (c : Int) ≤ (151 : Int) := by omega
  have l156 : (c : Int) ≤ (156 : Int) := by omega
  have l160 : (c : Int) ≤ (160 : Int) := by omega
  have l165 : (c : Int) ≤ (165 : Int) := by omega
  have l170 : (c : Int) ≤ (170 : Int) := by omega
  have l234 : (c : Int) ≤ (234 : Int) := by omega
  have l238 : (c : Int) ≤ (238 : Int) := by omega
  have l242 : (c : Int) ≤ (242 : Int) := by omega
  have l246 : (c : Int) ≤ (246 : Int) := by omega
  have g140 : ¬ (140 : Int) ≤ (c : Int) := by omega
  have g171 : ¬ (171 : Int) ≤ (c : Int) := by omega
  have e132 : ((c : Int) == 132) = false := by rw [beq_eq_false_iff_ne]; omega
  have e137 : ((c : Int) == 137) = false := by rw [beq_eq_false_iff_ne]; omega
  have e138 : ((c : Int) == 138) = false := by rw [beq_eq_false_iff_ne]; omega
  have e147 : ((c : Int) == 147) = false := by rw [beq_eq_false_iff_ne]; omega
  have e152 : ((c : Int) == 152) = false := by rw [beq_eq_false_iff_ne]; omega
  have e161 : ((c : Int) == 161) = false := by rw [beq_eq_false_iff_ne]; omega
  have e166 : ((c : Int) == 166) = false := by rw [beq_eq_false_iff_ne]; omega
  have e139 : ((c : Int) == 139) = false := by rw [beq_eq_false_iff_ne]; omega
  have e247 : ((c : Int) == 247) = false := by rw [beq_eq_false_iff_ne]; omega
  have e248 : ((c : Int) == 248) = false := by rw [beq_eq_false_iff_ne]; omega
  have e249 : ((c : Int) == 249) = false := by rw [beq_eq_false_iff_ne]; omega
  have hw : wrap64 ((c : Int) - 127) = (c : Int) - 127 := by unfold wrap64; omega
  have HO := Lib.hid (one_any ((c : Int) - 127) (by omega) false h)
  clear h
  go_enter Try.func26, Try.ntmps26
  go_wp2_with fail
  with_reducible refine Calls.mono HO.out ?_
  rintro e w1 ⟨v, rfl, h1⟩
  have H1 := Lib.hid h1
  clear h1 HO
  go_wp2
  go_ret2
  exact ⟨v, rfl, H1.out⟩
set_option maxRecDepth 100000 in
set_option maxHeartbeats 4000000 in
theorem sz_132 (c : Nat) (hb : c = 132) (h : Sat W A w) : Calls Try.prog 26 #[.int .i64 c] w fun e w' => ∃ v, e = .returned (.tuple #[v, .bool true]) ∧ Sat W (rowI v ([-4, -4]) * A) w' := by
  have s128 : ¬ (c : Int) < (128 : Int) := by omega
  have l131 : ¬ (c : Int) ≤ (131 : Int) := by omega
  have l136 : (c : Int) ≤ (136 : Int) := by omega
  have l142 : (c : Int) ≤ (142 : Int) := by omega
  have l146 : (c : Int) ≤ (146 : Int) := by omega
  have l151 : (c : Int) ≤ (151 : Int) := by omega
  have l156 : (c : Int) ≤ (156 : Int) := by omega
  have l160 : (c : Int) ≤ (160 : Int) := by omega
  have l165 : (c : Int) ≤ (165 : Int) := by omega
  have l170 : (c : Int) ≤ (170 : Int) := by omega
  have l234 : (c : Int) ≤ (234 : Int) := by omega
  have l238 : (c : Int) ≤ (238 : Int) := by omega
  have l242 : (c : Int) ≤ (242 : Int) := by omega
  have l246 : (c : Int) ≤ (246 : Int) := by omega
  have g140 : ¬ (140 : Int) ≤ (c : Int) := by omega
  have g171 : ¬ (171 : Int) ≤ (c : Int) := by omega
  have e132 : ((c : Int) == 132) = true := by rw [beq_iff_eq]; omega
  have e137 : ((c : Int) == 137) = false := by rw [beq_eq_false_iff_ne]; omega
  have e138 : ((c : Int) == 138) = false := by rw [beq_eq_false_iff_ne]; omega
  have e147 : ((c : Int) == 147) = false := by rw [beq_eq_false_iff_ne]; omega
  have e152 : ((c : Int) == 152) = false := by rw [beq_eq_false_iff_ne]; omega
  have e161 : ((c : Int) == 161) = false := by rw [beq_eq_false_iff_ne]; omega
  have e166 : ((c : Int) == 166) = false := by rw [beq_eq_false_iff_ne]; omega
  have e139 : ((c : Int) == 139) = false := by rw [beq_eq_false_iff_ne]; omega
  have e247 : ((c : Int) == 247) = false := by rw [beq_eq_false_iff_ne]; omega
  have e248 : ((c : Int) == 248) = false := by rw [beq_eq_false_iff_ne]; omega
  have e249 : ((c : Int) == 249) = false := by rw [beq_eq_false_iff_ne]; omega
  have H := Lib.hid (h.alloc (.cells #[.int .i64 (-4), .int .i64 (-4)] 3))
  clear h
  go_enter Try.func26, Try.ntmps26
  go_wp2
  go_ret2
  exact ⟨_, rfl, Sat.row_whole (e := 3) 2 H.out (by simp [maxLen]) rfl⟩
set_option maxRecDepth 100000 in
set_option maxHeartbeats 4000000 in
theorem sz_133 (c : Nat) (hb : 133 ≤ c ∧ c ≤ 136) (h : Sat W A w) : Calls Try.prog 26 #[.int .i64 c] w fun e w' => ∃ v, e = .returned (.tuple #[v, .bool true]) ∧ Sat W (rowI v (oneM ((c : Int) - 132) false) * A) w' := by
  have s128 : ¬ (c : Int) < (128 : Int) := by omega
  have l131 : ¬ (c : Int) ≤ (131 : Int) := by omega
  have l136 : (c : Int) ≤ (136 : Int) := by omega
  have l142 : (c : Int) ≤ (142 : Int) := by omega
  have l146 : (c : Int) ≤ (146 : Int) := by omega
  have l151 : (c : Int) ≤ (151 : Int) := by omega
  have l156 : (c : Int) ≤ (156 : Int) := by omega
  have l160 : (c : Int) ≤ (160 : Int) := by omega
  have l165 : (c : Int) ≤ (165 : Int) := by omega
  have l170 : (c : Int) ≤ (170 : Int) := by omega
  have l234 : (c : Int) ≤ (234 : Int) := by omega
  have l238 : (c : Int) ≤ (238 : Int) := by omega
  have l242 : (c : Int) ≤ (242 : Int) := by omega
  have l246 : (c : Int) ≤ (246 : Int) := by omega
  have g140 : ¬ (140 : Int) ≤ (c : Int) := by omega
  have g171 : ¬ (171 : Int) ≤ (c : Int) := by omega
  have e132 : ((c : Int) == 132) = false := by rw [beq_eq_false_iff_ne]; omega
  have e137 : ((c : Int) == 137) = false := by rw [beq_eq_false_iff_ne]; omega
  have e138 : ((c : Int) == 138) = false := by rw [beq_eq_false_iff_ne]; omega
  have e147 : ((c : Int) == 147) = false := by rw [beq_eq_false_iff_ne]; omega
  have e152 : ((c : Int) == 152) = false := by rw [beq_eq_false_iff_ne]; omega
  have e161 : ((c : Int) == 161) = false := by rw [beq_eq_false_iff_ne]; omega
  have e166 : ((c : Int) == 166) = false := by rw [beq_eq_false_iff_ne]; omega
  have e139 : ((c : Int) == 139) = false := by rw [beq_eq_false_iff_ne]; omega
  have e247 : ((c : Int) == 247) = false := by rw [beq_eq_false_iff_ne]; omega
  have e248 : ((c : Int) == 248) = false := by rw [beq_eq_false_iff_ne]; omega
  have e249 : ((c : Int) == 249) = false := by rw [beq_eq_false_iff_ne]; omega
  have hw : wrap64 ((c : Int) - 132) = (c : Int) - 132 := by unfold wrap64; omega
  have HO := Lib.hid (one_any ((c : Int) - 132) (by omega) false h)
  clear h
  go_enter Try.func26, Try.ntmps26
  go_wp2_with fail
  with_reducible refine Calls.mono HO.out ?_
  rintro e w1 ⟨v, rfl, h1⟩
  have H1 := Lib.hid h1
  clear h1 HO
  go_wp2
  go_ret2
  exact ⟨v, rfl, H1.out⟩
set_option maxRecDepth 100000 in
set_option maxHeartbeats 4000000 in
theorem sz_137 (c : Nat) (hb : c = 137) (h : Sat W A w) : Calls Try.prog 26 #[.int .i64 c] w fun e w' => ∃ v, e = .returned (.tuple #[v, .bool true]) ∧ Sat W (rowI v ([-4, -4]) * A) w' := by
  have s128 : ¬ (c : Int) < (128 : Int) := by omega
  have l131 : ¬ (c : Int) ≤ (131 : Int) := by omega
  have l136 : ¬ (c : Int) ≤ (136 : Int) := by omega
  have l142 : (c : Int) ≤ (142 : Int) := by omega
  have l146 : (c : Int) ≤ (146 : Int) := by omega
  have l151 : (c : Int) ≤ (151 : Int) := by omega
  have l156 : (c : Int) ≤ (156 : Int) := by omega
  have l160 : (c : Int) ≤ (160 : Int) := by omega
  have l165 : (c : Int) ≤ (165 : Int) := by omega
  have l170 : (c : Int) ≤ (170 : Int) := by omega
  have l234 : (c : Int) ≤ (234 : Int) := by omega
  have l238 : (c : Int) ≤ (238 : Int) := by omega
  have l242 : (c : Int) ≤ (242 : Int) := by omega
  have l246 : (c : Int) ≤ (246 : Int) := by omega
  have g140 : ¬ (140 : Int) ≤ (c : Int) := by omega
  have g171 : ¬ (171 : Int) ≤ (c : Int) := by omega
  have e132 : ((c : Int) == 132) = false := by rw [beq_eq_false_iff_ne]; omega
  have e137 : ((c : Int) == 137) = true := by rw [beq_iff_eq]; omega
  have e138 : ((c : Int) == 138) = false := by rw [beq_eq_false_iff_ne]; omega
  have e147 : ((c : Int) == 147) = false := by rw [beq_eq_false_iff_ne]; omega
  have e152 : ((c : Int) == 152) = false := by rw [beq_eq_false_iff_ne]; omega
  have e161 : ((c : Int) == 161) = false := by rw [beq_eq_false_iff_ne]; omega
  have e166 : ((c : Int) == 166) = false := by rw [beq_eq_false_iff_ne]; omega
  have e139 : ((c : Int) == 139) = false := by rw [beq_eq_false_iff_ne]; omega
  have e247 : ((c : Int) == 247) = false := by rw [beq_eq_false_iff_ne]; omega
  have e248 : ((c : Int) == 248) = false := by rw [beq_eq_false_iff_ne]; omega
  have e249 : ((c : Int) == 249) = false := by rw [beq_eq_false_iff_ne]; omega
  have H := Lib.hid (h.alloc (.cells #[.int .i64 (-4), .int .i64 (-4)] 3))
  clear h
  go_enter Try.func26, Try.ntmps26
  go_wp2
  go_ret2
  exact ⟨_, rfl, Sat.row_whole (e := 3) 2 H.out (by simp [maxLen]) rfl⟩
set_option maxRecDepth 100000 in
set_option maxHeartbeats 4000000 in
theorem sz_138 (c : Nat) (hb : c = 138) (h : Sat W A w) : Calls Try.prog 26 #[.int .i64 c] w fun e w' => ∃ v, e = .returned (.tuple #[v, .bool true]) ∧ Sat W (rowI v ([]) * A) w' := by
  have s128 : ¬ (c : Int) < (128 : Int) := by omega
  have l131 : ¬ (c : Int) ≤ (131 : Int) := by omega
  have l136 : ¬ (c : Int) ≤ (136 : Int) := by omega
  have l142 : (c : Int) ≤ (142 : Int) := by omega
  have l146 : (c : Int) ≤ (146 : Int) := by omega
  have l151 : (c : Int) ≤ (151 : Int) := by omega
  have l156 : (c : Int) ≤ (156 : Int) := by omega
  have l160 : (c : Int) ≤ (160 : Int) := by omega
  have l165 : (c : Int) ≤ (165 : Int) := by omega
  have l170 : (c : Int) ≤ (170 : Int) := by omega
  have l234 : (c : Int) ≤ (234 : Int) := by omega
  have l238 : (c : Int) ≤ (238 : Int) := by omega
  have l242 : (c : Int) ≤ (242 : Int) := by omega
  have l246 : (c : Int) ≤ (246 : Int) := by omega
  have g140 : ¬ (140 : Int) ≤ (c : Int) := by omega
  have g171 : ¬ (171 : Int) ≤ (c : Int) := by omega
  have e132 : ((c : Int) == 132) = false := by rw [beq_eq_false_iff_ne]; omega
  have e137 : ((c : Int) == 137) = false := by rw [beq_eq_false_iff_ne]; omega
  have e138 : ((c : Int) == 138) = true := by rw [beq_iff_eq]; omega
  have e147 : ((c : Int) == 147) = false := by rw [beq_eq_false_iff_ne]; omega
  have e152 : ((c : Int) == 152) = false := by rw [beq_eq_false_iff_ne]; omega
  have e161 : ((c : Int) == 161) = false := by rw [beq_eq_false_iff_ne]; omega
  have e166 : ((c : Int) == 166) = false := by rw [beq_eq_false_iff_ne]; omega
  have e139 : ((c : Int) == 139) = false := by rw [beq_eq_false_iff_ne]; omega
  have e247 : ((c : Int) == 247) = false := by rw [beq_eq_false_iff_ne]; omega
  have e248 : ((c : Int) == 248) = false := by rw [beq_eq_false_iff_ne]; omega
  have e249 : ((c : Int) == 249) = false := by rw [beq_eq_false_iff_ne]; omega
  have H := Lib.hid h
  clear h
  go_enter Try.func26, Try.ntmps26
  go_wp2
  go_ret2
  exact ⟨_, rfl, Sat.row_nil (e := 3) (size := 1) H.out⟩
set_option maxRecDepth 100000 in
set_option maxHeartbeats 4000000 in
theorem sz_139 (c : Nat) (hb : c = 139) (h : Sat W A w) : Calls Try.prog 26 #[.int .i64 c] w fun e w' => ∃ v, e = .returned (.tuple #[v, .bool true]) ∧ Sat W (rowI v ([-4, -4, -4, -4, -4, -4, -4, -4, -4, -4, -4]) * A) w' := by
  have s128 : ¬ (c : Int) < (128 : Int) := by omega
  have l131 : ¬ (c : Int) ≤ (131 : Int) := by omega
  have l136 : ¬ (c : Int) ≤ (136 : Int) := by omega
  have l142 : (c : Int) ≤ (142 : Int) := by omega
  have l146 : (c : Int) ≤ (146 : Int) := by omega
  have l151 : (c : Int) ≤ (151 : Int) := by omega
  have l156 : (c : Int) ≤ (156 : Int) := by omega
  have l160 : (c : Int) ≤ (160 : Int) := by omega
  have l165 : (c : Int) ≤ (165 : Int) := by omega
  have l170 : (c : Int) ≤ (170 : Int) := by omega
  have l234 : (c : Int) ≤ (234 : Int) := by omega
  have l238 : (c : Int) ≤ (238 : Int) := by omega
  have l242 : (c : Int) ≤ (242 : Int) := by omega
  have l246 : (c : Int) ≤ (246 : Int) := by omega
  have g140 : ¬ (140 : Int) ≤ (c : Int) := by omega
  have g171 : ¬ (171 : Int) ≤ (c : Int) := by omega
  have e132 : ((c : Int) == 132) = false := by rw [beq_eq_false_iff_ne]; omega
  have e137 : ((c : Int) == 137) = false := by rw [beq_eq_false_iff_ne]; omega
  have e138 : ((c : Int) == 138) = false := by rw [beq_eq_false_iff_ne]; omega
  have e147 : ((c : Int) == 147) = false := by rw [beq_eq_false_iff_ne]; omega
  have e152 : ((c : Int) == 152) = false := by rw [beq_eq_false_iff_ne]; omega
  have e161 : ((c : Int) == 161) = false := by rw [beq_eq_false_iff_ne]; omega
  have e166 : ((c : Int) == 166) = false := by rw [beq_eq_false_iff_ne]; omega
  have e139 : ((c : Int) == 139) = true := by rw [beq_iff_eq]; omega
  have e247 : ((c : Int) == 247) = false := by rw [beq_eq_false_iff_ne]; omega
  have e248 : ((c : Int) == 248) = false := by rw [beq_eq_false_iff_ne]; omega
  have e249 : ((c : Int) == 249) = false := by rw [beq_eq_false_iff_ne]; omega
  have H := Lib.hid (h.alloc (.cells #[.int .i64 (-4), .int .i64 (-4), .int .i64 (-4), .int .i64 (-4), .int .i64 (-4), .int .i64 (-4), .int .i64 (-4), .int .i64 (-4), .int .i64 (-4), .int .i64 (-4), .int .i64 (-4)] 3))
  clear h
  go_enter Try.func26, Try.ntmps26
  go_wp2
  go_ret2
  exact ⟨_, rfl, Sat.row_whole (e := 3) 11 H.out (by simp [maxLen]) rfl⟩
set_option maxRecDepth 100000 in
set_option maxHeartbeats 4000000 in
theorem sz_140 (c : Nat) (hb : 140 ≤ c ∧ c ≤ 142) (h : Sat W A w) : Calls Try.prog 26 #[.int .i64 c] w fun e w' => ∃ v, e = .returned (.tuple #[v, .bool true]) ∧ Sat W (rowI v ([]) * A) w' := by
  have s128 : ¬ (c : Int) < (128 : Int) := by omega
  have l131 : ¬ (c : Int) ≤ (131 : Int) := by omega
  have l136 : ¬ (c : Int) ≤ (136 : Int) := by omega
  have l142 : (c : Int) ≤ (142 : Int) := by omega
  have l146 : (c : Int) ≤ (146 : Int) := by omega
  have l151 : (c : Int) ≤ (151 : Int) := by omega
  have l156 : (c : Int) ≤ (156 : Int) := by omega
  have l160 : (c : Int) ≤ (160 : Int) := by omega
  have l165 : (c : Int) ≤ (165 : Int) := by omega
  have l170 : (c : Int) ≤ (170 : Int) := by omega
  have l234 : (c : Int) ≤ (234 : Int) := by omega
  have l238 : (c : Int) ≤ (238 : Int) := by omega
  have l242 : (c : Int) ≤ (242 : Int) := by omega
  have l246 : (c : Int) ≤ (246 : Int) := by omega
  have g140 : (140 : Int) ≤ (c : Int) := by omega
  have g171 : ¬ (171 : Int) ≤ (c : Int) := by omega
  have e132 : ((c : Int) == 132) = false := by rw [beq_eq_false_iff_ne]; omega
  have e137 : ((c : Int) == 137) = false := by rw [beq_eq_false_iff_ne]; omega
  have e138 : ((c : Int) == 138) = false := by rw [beq_eq_false_iff_ne]; omega
  have e147 : ((c : Int) == 147) = false := by rw [beq_eq_false_iff_ne]; omega
  have e152 : ((c : Int) == 152) = false := by rw [beq_eq_false_iff_ne]; omega
  have e161 : ((c : Int) == 161) = false := by rw [beq_eq_false_iff_ne]; omega
  have e166 : ((c : Int) == 166) = false := by rw [beq_eq_false_iff_ne]; omega
  have e139 : ((c : Int) == 139) = false := by rw [beq_eq_false_iff_ne]; omega
  have e247 : ((c : Int) == 247) = false := by rw [beq_eq_false_iff_ne]; omega
  have e248 : ((c : Int) == 248) = false := by rw [beq_eq_false_iff_ne]; omega
  have e249 : ((c : Int) == 249) = false := by rw [beq_eq_false_iff_ne]; omega
  have H := Lib.hid h
  clear h
  go_enter Try.func26, Try.ntmps26
  go_wp2
  go_ret2
  exact ⟨_, rfl, Sat.row_nil (e := 3) (size := 1) H.out⟩
set_option maxRecDepth 100000 in
set_option maxHeartbeats 4000000 in
theorem sz_143 (c : Nat) (hb : 143 ≤ c ∧ c ≤ 146) (h : Sat W A w) : Calls Try.prog 26 #[.int .i64 c] w fun e w' => ∃ v, e = .returned (.tuple #[v, .bool true]) ∧ Sat W (rowI v (oneM ((c : Int) - 142) true) * A) w' := by
  have s128 : ¬ (c : Int) < (128 : Int) := by omega
  have l131 : ¬ (c : Int) ≤ (131 : Int) := by omega
  have l136 : ¬ (c : Int) ≤ (136 : Int) := by omega
  have l142 : ¬ (c : Int) ≤ (142 : Int) := by omega
  have l146 : (c : Int) ≤ (146 : Int) := by omega
  have l151 : (c : Int) ≤ (151 : Int) := by omega
  have l156 : (c : Int) ≤ (156 : Int) := by omega
  have l160 : (c : Int) ≤ (160 : Int) := by omega
  have l165 : (c : Int) ≤ (165 : Int) := by omega
  have l170 : (c : Int) ≤ (170 : Int) := by omega
  have l234 : (c : Int) ≤ (234 : Int) := by omega
  have l238 : (c : Int) ≤ (238 : Int) := by omega
  have l242 : (c : Int) ≤ (242 : Int) := by omega
  have l246 : (c : Int) ≤ (246 : Int) := by omega
  have g140 : (140 : Int) ≤ (c : Int) := by omega
  have g171 : ¬ (171 : Int) ≤ (c : Int) := by omega
  have e132 : ((c : Int) == 132) = false := by rw [beq_eq_false_iff_ne]; omega
  have e137 : ((c : Int) == 137) = false := by rw [beq_eq_false_iff_ne]; omega
  have e138 : ((c : Int) == 138) = false := by rw [beq_eq_false_iff_ne]; omega
  have e147 : ((c : Int) == 147) = false := by rw [beq_eq_false_iff_ne]; omega
  have e152 : ((c : Int) == 152) = false := by rw [beq_eq_false_iff_ne]; omega
  have e161 : ((c : Int) == 161) = false := by rw [beq_eq_false_iff_ne]; omega
  have e166 : ((c : Int) == 166) = false := by rw [beq_eq_false_iff_ne]; omega
  have e139 : ((c : Int) == 139) = false := by rw [beq_eq_false_iff_ne]; omega
  have e247 : ((c : Int) == 247) = false := by rw [beq_eq_false_iff_ne]; omega
  have e248 : ((c : Int) == 248) = false := by rw [beq_eq_false_iff_ne]; omega
  have e249 : ((c : Int) == 249) = false := by rw [beq_eq_false_iff_ne]; omega
  have hw : wrap64 ((c : Int) - 142) = (c : Int) - 142 := by unfold wrap64; omega
  have HO := Lib.hid (one_any ((c : Int) - 142) (by omega) true h)
  clear h
  go_enter Try.func26, Try.ntmps26
  go_wp2_with fail
  with_reducible refine Calls.mono HO.out ?_
  rintro e w1 ⟨v, rfl, h1⟩
  have H1 := Lib.hid h1
  clear h1 HO
  go_wp2
  go_ret2
  exact ⟨v, rfl, H1.out⟩
set_option maxRecDepth 100000 in
set_option maxHeartbeats 4000000 in
theorem sz_147 (c : Nat) (hb : c = 147) (h : Sat W A w) : Calls Try.prog 26 #[.int .i64 c] w fun e w' => ∃ v, e = .returned (.tuple #[v, .bool true]) ∧ Sat W (rowI v ([]) * A) w' := by
  have s128 : ¬ (c : Int) < (128 : Int) := by omega
  have l131 : ¬ (c : Int) ≤ (131 : Int) := by omega
  have l136 : ¬ (c : Int) ≤ (136 : Int) := by omega
  have l142 : ¬ (c : Int) ≤ (142 : Int) := by omega
  have l146 : ¬ (c : Int) ≤ (146 : Int) := by omega
  have l151 : (c : Int) ≤ (151 : Int) := by omega
  have l156 : (c : Int) ≤ (156 : Int) := by omega
  have l160 : (c : Int) ≤ (160 : Int) := by omega
  have l165 : (c : Int) ≤ (165 : Int) := by omega
  have l170 : (c : Int) ≤ (170 : Int) := by omega
  have l234 : (c : Int) ≤ (234 : Int) := by omega
  have l238 : (c : Int) ≤ (238 : Int) := by omega
  have l242 : (c : Int) ≤ (242 : Int) := by omega
  have l246 : (c : Int) ≤ (246 : Int) := by omega
  have g140 : (140 : Int) ≤ (c : Int) := by omega
  have g171 : ¬ (171 : Int) ≤ (c : Int) := by omega
  have e132 : ((c : Int) == 132) = false := by rw [beq_eq_false_iff_ne]; omega
  have e137 : ((c : Int) == 137) = false := by rw [beq_eq_false_iff_ne]; omega
  have e138 : ((c : Int) == 138) = false := by rw [beq_eq_false_iff_ne]; omega
  have e147 : ((c : Int) == 147) = true := by rw [beq_iff_eq]; omega
  have e152 : ((c : Int) == 152) = false := by rw [beq_eq_false_iff_ne]; omega
  have e161 : ((c : Int) == 161) = false := by rw [beq_eq_false_iff_ne]; omega
  have e166 : ((c : Int) == 166) = false := by rw [beq_eq_false_iff_ne]; omega
  have e139 : ((c : Int) == 139) = false := by rw [beq_eq_false_iff_ne]; omega
  have e247 : ((c : Int) == 247) = false := by rw [beq_eq_false_iff_ne]; omega
  have e248 : ((c : Int) == 248) = false := by rw [beq_eq_false_iff_ne]; omega
  have e249 : ((c : Int) == 249) = false := by rw [beq_eq_false_iff_ne]; omega
  have H := Lib.hid h
  clear h
  go_enter Try.func26, Try.ntmps26
  go_wp2
  go_ret2
  exact ⟨_, rfl, Sat.row_nil (e := 3) (size := 1) H.out⟩
set_option maxRecDepth 100000 in
set_option maxHeartbeats 4000000 in
theorem sz_148 (c : Nat) (hb : 148 ≤ c ∧ c ≤ 151) (h : Sat W A w) : Calls Try.prog 26 #[.int .i64 c] w fun e w' => ∃ v, e = .returned (.tuple #[v, .bool true]) ∧ Sat W (rowI v (oneM ((c : Int) - 147) true) * A) w' := by
  have s128 : ¬ (c : Int) < (128 : Int) := by omega
  have l131 : ¬ (c : Int) ≤ (131 : Int) := by omega
  have l136 : ¬ (c : Int) ≤ (136 : Int) := by omega
  have l142 : ¬ (c : Int) ≤ (142 : Int) := by omega
  have l146 : ¬ (c : Int) ≤ (146 : Int) := by omega
  have l151 : (c : Int) ≤ (151 : Int) := by omega
  have l156 : (c : Int) ≤ (156 : Int) := by omega
  have l160 : (c : Int) ≤ (160 : Int) := by omega
  have l165 : (c : Int) ≤ (165 : Int) := by omega
  have l170 : (c : Int) ≤ (170 : Int) := by omega
  have l234 : (c : Int) ≤ (234 : Int) := by omega
  have l238 : (c : Int) ≤ (238 : Int) := by omega
  have l242 : (c : Int) ≤ (242 : Int) := by omega
  have l246 : (c : Int) ≤ (246 : Int) := by omega
  have g140 : (140 : Int) ≤ (c : Int) := by omega
  have g171 : ¬ (171 : Int) ≤ (c : Int) := by omega
  have e132 : ((c : Int) == 132) = false := by rw [beq_eq_false_iff_ne]; omega
  have e137 : ((c : Int) == 137) = false := by rw [beq_eq_false_iff_ne]; omega
  have e138 : ((c : Int) == 138) = false := by rw [beq_eq_false_iff_ne]; omega
  have e147 : ((c : Int) == 147) = false := by rw [beq_eq_false_iff_ne]; omega
  have e152 : ((c : Int) == 152) = false := by rw [beq_eq_false_iff_ne]; omega
  have e161 : ((c : Int) == 161) = false := by rw [beq_eq_false_iff_ne]; omega
  have e166 : ((c : Int) == 166) = false := by rw [beq_eq_false_iff_ne]; omega
  have e139 : ((c : Int) == 139) = false := by rw [beq_eq_false_iff_ne]; omega
  have e247 : ((c : Int) == 247) = false := by rw [beq_eq_false_iff_ne]; omega
  have e248 : ((c : Int) == 248) = false := by rw [beq_eq_false_iff_ne]; omega
  have e249 : ((c : Int) == 249) = false := by rw [beq_eq_false_iff_ne]; omega
  have hw : wrap64 ((c : Int) - 147) = (c : Int) - 147 := by unfold wrap64; omega
  have HO := Lib.hid (one_any ((c : Int) - 147) (by omega) true h)
  clear h
  go_enter Try.func26, Try.ntmps26
  go_wp2_with fail
  with_reducible refine Calls.mono HO.out ?_
  rintro e w1 ⟨v, rfl, h1⟩
  have H1 := Lib.hid h1
  clear h1 HO
  go_wp2
  go_ret2
  exact ⟨v, rfl, H1.out⟩
set_option maxRecDepth 100000 in
set_option maxHeartbeats 4000000 in
theorem sz_152 (c : Nat) (hb : c = 152) (h : Sat W A w) : Calls Try.prog 26 #[.int .i64 c] w fun e w' => ∃ v, e = .returned (.tuple #[v, .bool true]) ∧ Sat W (rowI v ([]) * A) w' := by
  have s128 : ¬ (c : Int) < (128 : Int) := by omega
  have l131 : ¬ (c : Int) ≤ (131 : Int) := by omega
  have l136 : ¬ (c : Int) ≤ (136 : Int) := by omega
  have l142 : ¬ (c : Int) ≤ (142 : Int) := by omega
  have l146 : ¬ (c : Int) ≤ (146 : Int) := by omega
  have l151 : ¬ (c : Int) ≤ (151 : Int) := by omega
  have l156 : (c : Int) ≤ (156 : Int) := by omega
  have l160 : (c : Int) ≤ (160 : Int) := by omega
  have l165 : (c : Int) ≤ (165 : Int) := by omega
  have l170 : (c : Int) ≤ (170 : Int) := by omega
  have l234 : (c : Int) ≤ (234 : Int) := by omega
  have l238 : (c : Int) ≤ (238 : Int) := by omega
  have l242 : (c : Int) ≤ (242 : Int) := by omega
  have l246 : (c : Int) ≤ (246 : Int) := by omega
  have g140 : (140 : Int) ≤ (c : Int) := by omega
  have g171 : ¬ (171 : Int) ≤ (c : Int) := by omega
  have e132 : ((c : Int) == 132) = false := by rw [beq_eq_false_iff_ne]; omega
  have e137 : ((c : Int) == 137) = false := by rw [beq_eq_false_iff_ne]; omega
  have e138 : ((c : Int) == 138) = false := by rw [beq_eq_false_iff_ne]; omega
  have e147 : ((c : Int) == 147) = false := by rw [beq_eq_false_iff_ne]; omega
  have e152 : ((c : Int) == 152) = true := by rw [beq_iff_eq]; omega
  have e161 : ((c : Int) == 161) = false := by rw [beq_eq_false_iff_ne]; omega
  have e166 : ((c : Int) == 166) = false := by rw [beq_eq_false_iff_ne]; omega
  have e139 : ((c : Int) == 139) = false := by rw [beq_eq_false_iff_ne]; omega
  have e247 : ((c : Int) == 247) = false := by rw [beq_eq_false_iff_ne]; omega
  have e248 : ((c : Int) == 248) = false := by rw [beq_eq_false_iff_ne]; omega
  have e249 : ((c : Int) == 249) = false := by rw [beq_eq_false_iff_ne]; omega
  have H := Lib.hid h
  clear h
  go_enter Try.func26, Try.ntmps26
  go_wp2
  go_ret2
  exact ⟨_, rfl, Sat.row_nil (e := 3) (size := 1) H.out⟩
set_option maxRecDepth 100000 in
set_option maxHeartbeats 4000000 in
theorem sz_153 (c : Nat) (hb : 153 ≤ c ∧ c ≤ 156) (h : Sat W A w) : Calls Try.prog 26 #[.int .i64 c] w fun e w' => ∃ v, e = .returned (.tuple #[v, .bool true]) ∧ Sat W (rowI v (oneM ((c : Int) - 152) true) * A) w' := by
  have s128 : ¬ (c : Int) < (128 : Int) := by omega
  have l131 : ¬ (c : Int) ≤ (131 : Int) := by omega
  have l136 : ¬ (c : Int) ≤ (136 : Int) := by omega
  have l142 : ¬ (c : Int) ≤ (142 : Int) := by omega
  have l146 : ¬ (c : Int) ≤ (146 : Int) := by omega
  have l151 : ¬ (c : Int) ≤ (151 : Int) := by omega
  have l156 : (c : Int) ≤ (156 : Int) := by omega
  have l160 : (c : Int) ≤ (160 : Int) := by omega
  have l165 : (c : Int) ≤ (165 : Int) := by omega
  have l170 : (c : Int) ≤ (170 : Int) := by omega
  have l234 : (c : Int) ≤ (234 : Int) := by omega
  have l238 : (c : Int) ≤ (238 : Int) := by omega
  have l242 : (c : Int) ≤ (242 : Int) := by omega
  have l246 : (c : Int) ≤ (246 : Int) := by omega
  have g140 : (140 : Int) ≤ (c : Int) := by omega
  have g171 : ¬ (171 : Int) ≤ (c : Int) := by omega
  have e132 : ((c : Int) == 132) = false := by rw [beq_eq_false_iff_ne]; omega
  have e137 : ((c : Int) == 137) = false := by rw [beq_eq_false_iff_ne]; omega
  have e138 : ((c : Int) == 138) = false := by rw [beq_eq_false_iff_ne]; omega
  have e147 : ((c : Int) == 147) = false := by rw [beq_eq_false_iff_ne]; omega
  have e152 : ((c : Int) == 152) = false := by rw [beq_eq_false_iff_ne]; omega
  have e161 : ((c : Int) == 161) = false := by rw [beq_eq_false_iff_ne]; omega
  have e166 : ((c : Int) == 166) = false := by rw [beq_eq_false_iff_ne]; omega
  have e139 : ((c : Int) == 139) = false := by rw [beq_eq_false_iff_ne]; omega
  have e247 : ((c : Int) == 247) = false := by rw [beq_eq_false_iff_ne]; omega
  have e248 : ((c : Int) == 248) = false := by rw [beq_eq_false_iff_ne]; omega
  have e249 : ((c : Int) == 249) = false := by rw [beq_eq_false_iff_ne]; omega
  have hw : wrap64 ((c : Int) - 152) = (c : Int) - 152 := by unfold wrap64; omega
  have HO := Lib.hid (one_any ((c : Int) - 152) (by omega) true h)
  clear h
  go_enter Try.func26, Try.ntmps26
  go_wp2_with fail
  with_reducible refine Calls.mono HO.out ?_
  rintro e w1 ⟨v, rfl, h1⟩
  have H1 := Lib.hid h1
  clear h1 HO
  go_wp2
  go_ret2
  exact ⟨v, rfl, H1.out⟩
set_option maxRecDepth 100000 in
set_option maxHeartbeats 4000000 in
theorem sz_157 (c : Nat) (hb : 157 ≤ c ∧ c ≤ 160) (h : Sat W A w) : Calls Try.prog 26 #[.int .i64 c] w fun e w' => ∃ v, e = .returned (.tuple #[v, .bool true]) ∧ Sat W (rowI v (oneM ((c : Int) - 156) true) * A) w' := by
  have s128 : ¬ (c : Int) < (128 : Int) := by omega
  have l131 : ¬ (c : Int) ≤ (131 : Int) := by omega
  have l136 : ¬ (c : Int) ≤ (136 : Int) := by omega
  have l142 : ¬ (c : Int) ≤ (142 : Int) := by omega
  have l146 : ¬ (c : Int) ≤ (146 : Int) := by omega
  have l151 : ¬ (c : Int) ≤ (151 : Int) := by omega
  have l156 : ¬ (c : Int) ≤ (156 : Int) := by omega
  have l160 : (c : Int) ≤ (160 : Int) := by omega
  have l165 : (c : Int) ≤ (165 : Int) := by omega
  have l170 : (c : Int) ≤ (170 : Int) := by omega
  have l234 : (c : Int) ≤ (234 : Int) := by omega
  have l238 : (c : Int) ≤ (238 : Int) := by omega
  have l242 : (c : Int) ≤ (242 : Int) := by omega
  have l246 : (c : Int) ≤ (246 : Int) := by omega
  have g140 : (140 : Int) ≤ (c : Int) := by omega
  have g171 : ¬ (171 : Int) ≤ (c : Int) := by omega
  have e132 : ((c : Int) == 132) = false := by rw [beq_eq_false_iff_ne]; omega
  have e137 : ((c : Int) == 137) = false := by rw [beq_eq_false_iff_ne]; omega
  have e138 : ((c : Int) == 138) = false := by rw [beq_eq_false_iff_ne]; omega
  have e147 : ((c : Int) == 147) = false := by rw [beq_eq_false_iff_ne]; omega
  have e152 : ((c : Int) == 152) = false := by rw [beq_eq_false_iff_ne]; omega
  have e161 : ((c : Int) == 161) = false := by rw [beq_eq_false_iff_ne]; omega
  have e166 : ((c : Int) == 166) = false := by rw [beq_eq_false_iff_ne]; omega
  have e139 : ((c : Int) == 139) = false := by rw [beq_eq_false_iff_ne]; omega
  have e247 : ((c : Int) == 247) = false := by rw [beq_eq_false_iff_ne]; omega
  have e248 : ((c : Int) == 248) = false := by rw [beq_eq_false_iff_ne]; omega
  have e249 : ((c : Int) == 249) = false := by rw [beq_eq_false_iff_ne]; omega
  have hw : wrap64 ((c : Int) - 156) = (c : Int) - 156 := by unfold wrap64; omega
  have HO := Lib.hid (one_any ((c : Int) - 156) (by omega) true h)
  clear h
  go_enter Try.func26, Try.ntmps26
  go_wp2_with fail
  with_reducible refine Calls.mono HO.out ?_
  rintro e w1 ⟨v, rfl, h1⟩
  have H1 := Lib.hid h1
  clear h1 HO
  go_wp2
  go_ret2
  exact ⟨v, rfl, H1.out⟩
set_option maxRecDepth 100000 in
set_option maxHeartbeats 4000000 in
theorem sz_161 (c : Nat) (hb : c = 161) (h : Sat W A w) : Calls Try.prog 26 #[.int .i64 c] w fun e w' => ∃ v, e = .returned (.tuple #[v, .bool true]) ∧ Sat W (rowI v ([]) * A) w' := by
  have s128 : ¬ (c : Int) < (128 : Int) := by omega
  have l131 : ¬ (c : Int) ≤ (131 : Int) := by omega
  have l136 : ¬ (c : Int) ≤ (136 : Int) := by omega
  have l142 : ¬ (c : Int) ≤ (142 : Int) := by omega
  have l146 : ¬ (c : Int) ≤ (146 : Int) := by omega
  have l151 : ¬ (c : Int) ≤ (151 : Int) := by omega
  have l156 : ¬ (c : Int) ≤ (156 : Int) := by omega
  have l160 : ¬ (c : Int) ≤ (160 : Int) := by omega
  have l165 : (c : Int) ≤ (165 : Int) := by omega
  have l170 : (c : Int) ≤ (170 : Int) := by omega
  have l234 : (c : Int) ≤ (234 : Int) := by omega
  have l238 : (c : Int) ≤ (238 : Int) := by omega
  have l242 : (c : Int) ≤ (242 : Int) := by omega
  have l246 : (c : Int) ≤ (246 : Int) := by omega
  have g140 : (140 : Int) ≤ (c : Int) := by omega
  have g171 : ¬ (171 : Int) ≤ (c : Int) := by omega
  have e132 : ((c : Int) == 132) = false := by rw [beq_eq_false_iff_ne]; omega
  have e137 : ((c : Int) == 137) = false := by rw [beq_eq_false_iff_ne]; omega
  have e138 : ((c : Int) == 138) = false := by rw [beq_eq_false_iff_ne]; omega
  have e147 : ((c : Int) == 147) = false := by rw [beq_eq_false_iff_ne]; omega
  have e152 : ((c : Int) == 152) = false := by rw [beq_eq_false_iff_ne]; omega
  have e161 : ((c : Int) == 161) = true := by rw [beq_iff_eq]; omega
  have e166 : ((c : Int) == 166) = false := by rw [beq_eq_false_iff_ne]; omega
  have e139 : ((c : Int) == 139) = false := by rw [beq_eq_false_iff_ne]; omega
  have e247 : ((c : Int) == 247) = false := by rw [beq_eq_false_iff_ne]; omega
  have e248 : ((c : Int) == 248) = false := by rw [beq_eq_false_iff_ne]; omega
  have e249 : ((c : Int) == 249) = false := by rw [beq_eq_false_iff_ne]; omega
  have H := Lib.hid h
  clear h
  go_enter Try.func26, Try.ntmps26
  go_wp2
  go_ret2
  exact ⟨_, rfl, Sat.row_nil (e := 3) (size := 1) H.out⟩
set_option maxRecDepth 100000 in
set_option maxHeartbeats 4000000 in
theorem sz_162 (c : Nat) (hb : 162 ≤ c ∧ c ≤ 165) (h : Sat W A w) : Calls Try.prog 26 #[.int .i64 c] w fun e w' => ∃ v, e = .returned (.tuple #[v, .bool true]) ∧ Sat W (rowI v (oneM ((c : Int) - 161) true) * A) w' := by
  have s128 : ¬ (c : Int) < (128 : Int) := by omega
  have l131 : ¬ (c : Int) ≤ (131 : Int) := by omega
  have l136 : ¬ (c : Int) ≤ (136 : Int) := by omega
  have l142 : ¬ (c : Int) ≤ (142 : Int) := by omega
  have l146 : ¬ (c : Int) ≤ (146 : Int) := by omega
  have l151 : ¬ (c : Int) ≤ (151 : Int) := by omega
  have l156 : ¬ (c : Int) ≤ (156 : Int) := by omega
  have l160 : ¬ (c : Int) ≤ (160 : Int) := by omega
  have l165 : (c : Int) ≤ (165 : Int) := by omega
  have l170 : (c : Int) ≤ (170 : Int) := by omega
  have l234 : (c : Int) ≤ (234 : Int) := by omega
  have l238 : (c : Int) ≤ (238 : Int) := by omega
  have l242 : (c : Int) ≤ (242 : Int) := by omega
  have l246 : (c : Int) ≤ (246 : Int) := by omega
  have g140 : (140 : Int) ≤ (c : Int) := by omega
  have g171 : ¬ (171 : Int) ≤ (c : Int) := by omega
  have e132 : ((c : Int) == 132) = false := by rw [beq_eq_false_iff_ne]; omega
  have e137 : ((c : Int) == 137) = false := by rw [beq_eq_false_iff_ne]; omega
  have e138 : ((c : Int) == 138) = false := by rw [beq_eq_false_iff_ne]; omega
  have e147 : ((c : Int) == 147) = false := by rw [beq_eq_false_iff_ne]; omega
  have e152 : ((c : Int) == 152) = false := by rw [beq_eq_false_iff_ne]; omega
  have e161 : ((c : Int) == 161) = false := by rw [beq_eq_false_iff_ne]; omega
  have e166 : ((c : Int) == 166) = false := by rw [beq_eq_false_iff_ne]; omega
  have e139 : ((c : Int) == 139) = false := by rw [beq_eq_false_iff_ne]; omega
  have e247 : ((c : Int) == 247) = false := by rw [beq_eq_false_iff_ne]; omega
  have e248 : ((c : Int) == 248) = false := by rw [beq_eq_false_iff_ne]; omega
  have e249 : ((c : Int) == 249) = false := by rw [beq_eq_false_iff_ne]; omega
  have hw : wrap64 ((c : Int) - 161) = (c : Int) - 161 := by unfold wrap64; omega
  have HO := Lib.hid (one_any ((c : Int) - 161) (by omega) true h)
  clear h
  go_enter Try.func26, Try.ntmps26
  go_wp2_with fail
  with_reducible refine Calls.mono HO.out ?_
  rintro e w1 ⟨v, rfl, h1⟩
  have H1 := Lib.hid h1
  clear h1 HO
  go_wp2
  go_ret2
  exact ⟨v, rfl, H1.out⟩
set_option maxRecDepth 100000 in
set_option maxHeartbeats 4000000 in
theorem sz_166 (c : Nat) (hb : c = 166) (h : Sat W A w) : Calls Try.prog 26 #[.int .i64 c] w fun e w' => ∃ v, e = .returned (.tuple #[v, .bool true]) ∧ Sat W (rowI v ([]) * A) w' := by
  have s128 : ¬ (c : Int) < (128 : Int) := by omega
  have l131 : ¬ (c : Int) ≤ (131 : Int) := by omega
  have l136 : ¬ (c : Int) ≤ (136 : Int) := by omega
  have l142 : ¬ (c : Int) ≤ (142 : Int) := by omega
  have l146 : ¬ (c : Int) ≤ (146 : Int) := by omega
  have l151 : ¬ (c : Int) ≤ (151 : Int) := by omega
  have l156 : ¬ (c : Int) ≤ (156 : Int) := by omega
  have l160 : ¬ (c : Int) ≤ (160 : Int) := by omega
  have l165 : ¬ (c : Int) ≤ (165 : Int) := by omega
  have l170 : (c : Int) ≤ (170 : Int) := by omega
  have l234 : (c : Int) ≤ (234 : Int) := by omega
  have l238 : (c : Int) ≤ (238 : Int) := by omega
  have l242 : (c : Int) ≤ (242 : Int) := by omega
  have l246 : (c : Int) ≤ (246 : Int) := by omega
  have g140 : (140 : Int) ≤ (c : Int) := by omega
  have g171 : ¬ (171 : Int) ≤ (c : Int) := by omega
  have e132 : ((c : Int) == 132) = false := by rw [beq_eq_false_iff_ne]; omega
  have e137 : ((c : Int) == 137) = false := by rw [beq_eq_false_iff_ne]; omega
  have e138 : ((c : Int) == 138) = false := by rw [beq_eq_false_iff_ne]; omega
  have e147 : ((c : Int) == 147) = false := by rw [beq_eq_false_iff_ne]; omega
  have e152 : ((c : Int) == 152) = false := by rw [beq_eq_false_iff_ne]; omega
  have e161 : ((c : Int) == 161) = false := by rw [beq_eq_false_iff_ne]; omega
  have e166 : ((c : Int) == 166) = true := by rw [beq_iff_eq]; omega
  have e139 : ((c : Int) == 139) = false := by rw [beq_eq_false_iff_ne]; omega
  have e247 : ((c : Int) == 247) = false := by rw [beq_eq_false_iff_ne]; omega
  have e248 : ((c : Int) == 248) = false := by rw [beq_eq_false_iff_ne]; omega
  have e249 : ((c : Int) == 249) = false := by rw [beq_eq_false_iff_ne]; omega
  have H := Lib.hid h
  clear h
  go_enter Try.func26, Try.ntmps26
  go_wp2
  go_ret2
  exact ⟨_, rfl, Sat.row_nil (e := 3) (size := 1) H.out⟩
set_option maxRecDepth 100000 in
set_option maxHeartbeats 4000000 in
theorem sz_167 (c : Nat) (hb : 167 ≤ c ∧ c ≤ 170) (h : Sat W A w) : Calls Try.prog 26 #[.int .i64 c] w fun e w' => ∃ v, e = .returned (.tuple #[v, .bool true]) ∧ Sat W (rowI v (oneM ((c : Int) - 166) true) * A) w' := by
  have s128 : ¬ (c : Int) < (128 : Int) := by omega
  have l131 : ¬ (c : Int) ≤ (131 : Int) := by omega
  have l136 : ¬ (c : Int) ≤ (136 : Int) := by omega
  have l142 : ¬ (c : Int) ≤ (142 : Int) := by omega
  have l146 : ¬ (c : Int) ≤ (146 : Int) := by omega
  have l151 : ¬ (c : Int) ≤ (151 : Int) := by omega
  have l156 : ¬ (c : Int) ≤ (156 : Int) := by omega
  have l160 : ¬ (c : Int) ≤ (160 : Int) := by omega
  have l165 : ¬ (c : Int) ≤ (165 : Int) := by omega
  have l170 : (c : Int) ≤ (170 : Int) := by omega
  have l234 : (c : Int) ≤ (234 : Int) := by omega
  have l238 : (c : Int) ≤ (238 : Int) := by omega
  have l242 : (c : Int) ≤ (242 : Int) := by omega
  have l246 : (c : Int) ≤ (246 : Int) := by omega
  have g140 : (140 : Int) ≤ (c : Int) := by omega
  have g171 : ¬ (171 : Int) ≤ (c : Int) := by omega
  have e132 : ((c : Int) == 132) = false := by rw [beq_eq_false_iff_ne]; omega
  have e137 : ((c : Int) == 137) = false := by rw [beq_eq_false_iff_ne]; omega
  have e138 : ((c : Int) == 138) = false := by rw [beq_eq_false_iff_ne]; omega
  have e147 : ((c : Int) == 147) = false := by rw [beq_eq_false_iff_ne]; omega
  have e152 : ((c : Int) == 152) = false := by rw [beq_eq_false_iff_ne]; omega
  have e161 : ((c : Int) == 161) = false := by rw [beq_eq_false_iff_ne]; omega
  have e166 : ((c : Int) == 166) = false := by rw [beq_eq_false_iff_ne]; omega
  have e139 : ((c : Int) == 139) = false := by rw [beq_eq_false_iff_ne]; omega
  have e247 : ((c : Int) == 247) = false := by rw [beq_eq_false_iff_ne]; omega
  have e248 : ((c : Int) == 248) = false := by rw [beq_eq_false_iff_ne]; omega
  have e249 : ((c : Int) == 249) = false := by rw [beq_eq_false_iff_ne]; omega
  have hw : wrap64 ((c : Int) - 166) = (c : Int) - 166 := by unfold wrap64; omega
  have HO := Lib.hid (one_any ((c : Int) - 166) (by omega) true h)
  clear h
  go_enter Try.func26, Try.ntmps26
  go_wp2_with fail
  with_reducible refine Calls.mono HO.out ?_
  rintro e w1 ⟨v, rfl, h1⟩
  have H1 := Lib.hid h1
  clear h1 HO
  go_wp2
  go_ret2
  exact ⟨v, rfl, H1.out⟩
set_option maxRecDepth 100000 in
set_option maxHeartbeats 4000000 in
theorem sz_171 (c : Nat) (hb : 171 ≤ c ∧ c ≤ 234) (h : Sat W A w) : Calls Try.prog 26 #[.int .i64 c] w fun e w' => ∃ v, e = .returned (.tuple #[v, .bool true]) ∧ Sat W (rowI v ([]) * A) w' := by
  have s128 : ¬ (c : Int) < (128 : Int) := by omega
  have l131 : ¬ (c : Int) ≤ (131 : Int) := by omega
  have l136 : ¬ (c : Int) ≤ (136 : Int) := by omega
  have l142 : ¬ (c : Int) ≤ (142 : Int) := by omega
  have l146 : ¬ (c : Int) ≤ (146 : Int) := by omega
  have l151 : ¬ (c : Int) ≤ (151 : Int) := by omega
  have l156 : ¬ (c : Int) ≤ (156 : Int) := by omega
  have l160 : ¬ (c : Int) ≤ (160 : Int) := by omega
  have l165 : ¬ (c : Int) ≤ (165 : Int) := by omega
  have l170 : ¬ (c : Int) ≤ (170 : Int) := by omega
  have l234 : (c : Int) ≤ (234 : Int) := by omega
  have l238 : (c : Int) ≤ (238 : Int) := by omega
  have l242 : (c : Int) ≤ (242 : Int) := by omega
  have l246 : (c : Int) ≤ (246 : Int) := by omega
  have g140 : (140 : Int) ≤ (c : Int) := by omega
  have g171 : (171 : Int) ≤ (c : Int) := by omega
  have e132 : ((c : Int) == 132) = false := by rw [beq_eq_false_iff_ne]; omega
  have e137 : ((c : Int) == 137) = false := by rw [beq_eq_false_iff_ne]; omega
  have e138 : ((c : Int) == 138) = false := by rw [beq_eq_false_iff_ne]; omega
  have e147 : ((c : Int) == 147) = false := by rw [beq_eq_false_iff_ne]; omega
  have e152 : ((c : Int) == 152) = false := by rw [beq_eq_false_iff_ne]; omega
  have e161 : ((c : Int) == 161) = false := by rw [beq_eq_false_iff_ne]; omega
  have e166 : ((c : Int) == 166) = false := by rw [beq_eq_false_iff_ne]; omega
  have e139 : ((c : Int) == 139) = false := by rw [beq_eq_false_iff_ne]; omega
  have e247 : ((c : Int) == 247) = false := by rw [beq_eq_false_iff_ne]; omega
  have e248 : ((c : Int) == 248) = false := by rw [beq_eq_false_iff_ne]; omega
  have e249 : ((c : Int) == 249) = false := by rw [beq_eq_false_iff_ne]; omega
  have H := Lib.hid h
  clear h
  go_enter Try.func26, Try.ntmps26
  go_wp2
  go_ret2
  exact ⟨_, rfl, Sat.row_nil (e := 3) (size := 1) H.out⟩
set_option maxRecDepth 100000 in
set_option maxHeartbeats 4000000 in
theorem sz_235 (c : Nat) (hb : 235 ≤ c ∧ c ≤ 238) (h : Sat W A w) : Calls Try.prog 26 #[.int .i64 c] w fun e w' => ∃ v, e = .returned (.tuple #[v, .bool true]) ∧ Sat W (rowI v (oneM ((c : Int) - 234) false) * A) w' := by
  have s128 : ¬ (c : Int) < (128 : Int) := by omega
  have l131 : ¬ (c : Int) ≤ (131 : Int) := by omega
  have l136 : ¬ (c : Int) ≤ (136 : Int) := by omega
  have l142 : ¬ (c : Int) ≤ (142 : Int) := by omega
  have l146 : ¬ (c : Int) ≤ (146 : Int) := by omega
  have l151 : ¬ (c : Int) ≤ (151 : Int) := by omega
  have l156 : ¬ (c : Int) ≤ (156 : Int) := by omega
  have l160 : ¬ (c : Int) ≤ (160 : Int) := by omega
  have l165 : ¬ (c : Int) ≤ (165 : Int) := by omega
  have l170 : ¬ (c : Int) ≤ (170 : Int) := by omega
  have l234 : ¬ (c : Int) ≤ (234 : Int) := by omega
  have l238 : (c : Int) ≤ (238 : Int) := by omega
  have l242 : (c : Int) ≤ (242 : Int) := by omega
  have l246 : (c : Int) ≤ (246 : Int) := by omega
  have g140 : (140 : Int) ≤ (c : Int) := by omega
  have g171 : (171 : Int) ≤ (c : Int) := by omega
  have e132 : ((c : Int) == 132) = false := by rw [beq_eq_false_iff_ne]; omega
  have e137 : ((c : Int) == 137) = false := by rw [beq_eq_false_iff_ne]; omega
  have e138 : ((c : Int) == 138) = false := by rw [beq_eq_false_iff_ne]; omega
  have e147 : ((c : Int) == 147) = false := by rw [beq_eq_false_iff_ne]; omega
  have e152 : ((c : Int) == 152) = false := by rw [beq_eq_false_iff_ne]; omega
  have e161 : ((c : Int) == 161) = false := by rw [beq_eq_false_iff_ne]; omega
  have e166 : ((c : Int) == 166) = false := by rw [beq_eq_false_iff_ne]; omega
  have e139 : ((c : Int) == 139) = false := by rw [beq_eq_false_iff_ne]; omega
  have e247 : ((c : Int) == 247) = false := by rw [beq_eq_false_iff_ne]; omega
  have e248 : ((c : Int) == 248) = false := by rw [beq_eq_false_iff_ne]; omega
  have e249 : ((c : Int) == 249) = false := by rw [beq_eq_false_iff_ne]; omega
  have hw : wrap64 ((c : Int) - 234) = (c : Int) - 234 := by unfold wrap64; omega
  have HO := Lib.hid (one_any ((c : Int) - 234) (by omega) false h)
  clear h
  go_enter Try.func26, Try.ntmps26
  go_wp2_with fail
  with_reducible refine Calls.mono HO.out ?_
  rintro e w1 ⟨v, rfl, h1⟩
  have H1 := Lib.hid h1
  clear h1 HO
  go_wp2
  go_ret2
  exact ⟨v, rfl, H1.out⟩
set_option maxRecDepth 100000 in
set_option maxHeartbeats 4000000 in
theorem sz_239 (c : Nat) (hb : 239 ≤ c ∧ c ≤ 242) (h : Sat W A w) : Calls Try.prog 26 #[.int .i64 c] w fun e w' => ∃ v, e = .returned (.tuple #[v, .bool true]) ∧ Sat W (rowI v (oneM ((c : Int) - 238) false) * A) w' := by
  have s128 : ¬ (c : Int) < (128 : Int) := by omega
  have l131 : ¬ (c : Int) ≤ (131 : Int) := by omega
  have l136 : ¬ (c : Int) ≤ (136 : Int) := by omega
  have l142 : ¬ (c : Int) ≤ (142 : Int) := by omega
  have l146 : ¬ (c : Int) ≤ (146 : Int) := by omega
  have l151 : ¬ (c : Int) ≤ (151 : Int) := by omega
  have l156 : ¬ (c : Int) ≤ (156 : Int) := by omega
  have l160 : ¬ (c : Int) ≤ (160 : Int) := by omega
  have l165 : ¬ (c : Int) ≤ (165 : Int) := by omega
  have l170 : ¬ (c : Int) ≤ (170 : Int) := by omega
  have l234 : ¬ (c : Int) ≤ (234 : Int) := by omega
  have l238 : ¬ (c : Int) ≤ (238 : Int) := by omega
  have l242 : (c : Int) ≤ (242 : Int) := by omega
  have l246 : (c : Int) ≤ (246 : Int) := by omega
  have g140 : (140 : Int) ≤ (c : Int) := by omega
  have g171 : (171 : Int) ≤ (c : Int) := by omega
  have e132 : ((c : Int) == 132) = false := by rw [beq_eq_false_iff_ne]; omega
  have e137 : ((c : Int) == 137) = false := by rw [beq_eq_false_iff_ne]; omega
  have e138 : ((c : Int) == 138) = false := by rw [beq_eq_false_iff_ne]; omega
  have e147 : ((c : Int) == 147) = false := by rw [beq_eq_false_iff_ne]; omega
  have e152 : ((c : Int) == 152) = false := by rw [beq_eq_false_iff_ne]; omega
  have e161 : ((c : Int) == 161) = false := by rw [beq_eq_false_iff_ne]; omega
  have e166 : ((c : Int) == 166) = false := by rw [beq_eq_false_iff_ne]; omega
  have e139 : ((c : Int) == 139) = false := by rw [beq_eq_false_iff_ne]; omega
  have e247 : ((c : Int) == 247) = false := by rw [beq_eq_false_iff_ne]; omega
  have e248 : ((c : Int) == 248) = false := by rw [beq_eq_false_iff_ne]; omega
  have e249 : ((c : Int) == 249) = false := by rw [beq_eq_false_iff_ne]; omega
  have hw : wrap64 ((c : Int) - 238) = (c : Int) - 238 := by unfold wrap64; omega
  have HO := Lib.hid (one_any ((c : Int) - 238) (by omega) false h)
  clear h
  go_enter Try.func26, Try.ntmps26
  go_wp2_with fail
  with_reducible refine Calls.mono HO.out ?_
  rintro e w1 ⟨v, rfl, h1⟩
  have H1 := Lib.hid h1
  clear h1 HO
  go_wp2
  go_ret2
  exact ⟨v, rfl, H1.out⟩
set_option maxRecDepth 100000 in
set_option maxHeartbeats 4000000 in
theorem sz_243 (c : Nat) (hb : 243 ≤ c ∧ c ≤ 246) (h : Sat W A w) : Calls Try.prog 26 #[.int .i64 c] w fun e w' => ∃ v, e = .returned (.tuple #[v, .bool true]) ∧ Sat W (rowI v ((oneM ((c : Int) - 242) false ++ [-4, -4, -4, 1, 1])) * A) w' := by
  have s128 : ¬ (c : Int) < (128 : Int) := by omega
  have l131 : ¬ (c : Int) ≤ (131 : Int) := by omega
  have l136 : ¬ (c : Int) ≤ (136 : Int) := by omega
  have l142 : ¬ (c : Int) ≤ (142 : Int) := by omega
  have l146 : ¬ (c : Int) ≤ (146 : Int) := by omega
  have l151 : ¬ (c : Int) ≤ (151 : Int) := by omega
  have l156 : ¬ (c : Int) ≤ (156 : Int) := by omega
  have l160 : ¬ (c : Int) ≤ (160 : Int) := by omega
  have l165 : ¬ (c : Int) ≤ (165 : Int) := by omega
  have l170 : ¬ (c : Int) ≤ (170 : Int) := by omega
  have l234 : ¬ (c : Int) ≤ (234 : Int) := by omega
  have l238 : ¬ (c : Int) ≤ (238 : Int) := by omega
  have l242 : ¬ (c : Int) ≤ (242 : Int) := by omega
  have l246 : (c : Int) ≤ (246 : Int) := by omega
  have g140 : (140 : Int) ≤ (c : Int) := by omega
  have g171 : (171 : Int) ≤ (c : Int) := by omega
  have e132 : ((c : Int) == 132) = false := by rw [beq_eq_false_iff_ne]; omega
  have e137 : ((c : Int) == 137) = false := by rw [beq_eq_false_iff_ne]; omega
  have e138 : ((c : Int) == 138) = false := by rw [beq_eq_false_iff_ne]; omega
  have e147 : ((c : Int) == 147) = false := by rw [beq_eq_false_iff_ne]; omega
  have e152 : ((c : Int) == 152) = false := by rw [beq_eq_false_iff_ne]; omega
  have e161 : ((c : Int) == 161) = false := by rw [beq_eq_false_iff_ne]; omega
  have e166 : ((c : Int) == 166) = false := by rw [beq_eq_false_iff_ne]; omega
  have e139 : ((c : Int) == 139) = false := by rw [beq_eq_false_iff_ne]; omega
  have e247 : ((c : Int) == 247) = false := by rw [beq_eq_false_iff_ne]; omega
  have e248 : ((c : Int) == 248) = false := by rw [beq_eq_false_iff_ne]; omega
  have e249 : ((c : Int) == 249) = false := by rw [beq_eq_false_iff_ne]; omega
  have hw : wrap64 ((c : Int) - 242) = (c : Int) - 242 := by unfold wrap64; omega
  have HO := Lib.hid (one_any ((c : Int) - 242) (by omega) false h)
  obtain ⟨i0, hi, hz0, hz1, hz2⟩ := info_parts3 info_int
  have HI := Lib.hid hi
  have HZ0 := Lib.hid hz0
  have HZ1 := Lib.hid hz1
  have HZ2 := Lib.hid hz2
  have hln : (oneM ((c : Int) - 242) false).length = 1 := by unfold oneM; split <;> rfl
  have HLN := Lib.hid hln
  clear h hi hz0 hz1 hz2 hln
  go_enter Try.func26, Try.ntmps26
  go_wp2_with fail
  with_reducible refine Calls.mono HO.out ?_
  rintro e w1 ⟨v, rfl, h1⟩
  have H1 := Lib.hid h1
  clear h1 HO
  obtain ⟨xs, hxs⟩ : ∃ xs, oneM ((c : Int) - 242) false = xs := ⟨_, rfl⟩
  rw [hxs] at H1 HLN
  have HXS := Lib.hid hxs
  clear hxs
  go_wp2_with (at_builtin; refine wpList_append_sep rfl _ _ 31 rfl i0 _ 8 Try.underlying31 HI.out HZ0.out HZ1.out HZ2.out rfl rfl H1.out.allocD ⟨w1.heap.size, 0, none⟩ 5 5 (intsL [-4, -4, -4, 1, 1]) rfl rfl ?_ ?_ ?_ ?_ ?_)
  · exact new_cells _ _ _
  · simp [Value.oneCell']
  · rw [HLN.out]; simp [maxLen]
  · rw [HLN.out]; simp
  intro v2 w2 h2
  have H2 := Lib.hid (show Sat W (rowI v2 (xs ++ [-4, -4, -4, 1, 1]) * A) w2 from by
    have h := h2
    rw [show rowI v2 (xs ++ [-4, -4, -4, 1, 1]) = row v2 (xs.length + 5) 3 1 (intsL xs ++ intsL [-4, -4, -4, 1, 1]) by unfold rowI; rw [List.length_append]; simp]
    exact h)
  clear h2 H1
  go_wp2
  go_ret2
  exact ⟨v2, rfl, by rw [HXS.out]; exact H2.out⟩
set_option maxRecDepth 100000 in
set_option maxHeartbeats 4000000 in
theorem sz_247 (c : Nat) (hb : c = 247) (h : Sat W A w) : Calls Try.prog 26 #[.int .i64 c] w fun e w' => ∃ v, e = .returned (.tuple #[v, .bool true]) ∧ Sat W (rowI v ([1, -4, -4, -4, 1]) * A) w' := by
  have s128 : ¬ (c : Int) < (128 : Int) := by omega
  have l131 : ¬ (c : Int) ≤ (131 : Int) := by omega
  have l136 : ¬ (c : Int) ≤ (136 : Int) := by omega
  have l142 : ¬ (c : Int) ≤ (142 : Int) := by omega
  have l146 : ¬ (c : Int) ≤ (146 : Int) := by omega
  have l151 : ¬ (c : Int) ≤ (151 : Int) := by omega
  have l156 : ¬ (c : Int) ≤ (156 : Int) := by omega
  have l160 : ¬ (c : Int) ≤ (160 : Int) := by omega
  have l165 : ¬ (c : Int) ≤ (165 : Int) := by omega
  have l170 : ¬ (c : Int) ≤ (170 : Int) := by omega
  have l234 : ¬ (c : Int) ≤ (234 : Int) := by omega
  have l238 : ¬ (c : Int) ≤ (238 : Int) := by omega
  have l242 : ¬ (c : Int) ≤ (242 : Int) := by omega
  have l246 : ¬ (c : Int) ≤ (246 : Int) := by omega
  have g140 : (140 : Int) ≤ (c : Int) := by omega
  have g171 : (171 : Int) ≤ (c : Int) := by omega
  have e132 : ((c : Int) == 132) = false := by rw [beq_eq_false_iff_ne]; omega
  have e137 : ((c : Int) == 137) = false := by rw [beq_eq_false_iff_ne]; omega
  have e138 : ((c : Int) == 138) = false := by rw [beq_eq_false_iff_ne]; omega
  have e147 : ((c : Int) == 147) = false := by rw [beq_eq_false_iff_ne]; omega
  have e152 : ((c : Int) == 152) = false := by rw [beq_eq_false_iff_ne]; omega
  have e161 : ((c : Int) == 161) = false := by rw [beq_eq_false_iff_ne]; omega
  have e166 : ((c : Int) == 166) = false := by rw [beq_eq_false_iff_ne]; omega
  have e139 : ((c : Int) == 139) = false := by rw [beq_eq_false_iff_ne]; omega
  have e247 : ((c : Int) == 247) = true := by rw [beq_iff_eq]; omega
  have e248 : ((c : Int) == 248) = false := by rw [beq_eq_false_iff_ne]; omega
  have e249 : ((c : Int) == 249) = false := by rw [beq_eq_false_iff_ne]; omega
  have H := Lib.hid (h.alloc (.cells #[.int .i64 (1), .int .i64 (-4), .int .i64 (-4), .int .i64 (-4), .int .i64 (1)] 3))
  clear h
  go_enter Try.func26, Try.ntmps26
  go_wp2
  go_ret2
  exact ⟨_, rfl, Sat.row_whole (e := 3) 5 H.out (by simp [maxLen]) rfl⟩
set_option maxRecDepth 100000 in
set_option maxHeartbeats 4000000 in
theorem sz_248 (c : Nat) (hb : c = 248) (h : Sat W A w) : Calls Try.prog 26 #[.int .i64 c] w fun e w' => ∃ v, e = .returned (.tuple #[v, .bool true]) ∧ Sat W (rowI v ([-4, -4, -4, -4, -4, -4, 2, 2]) * A) w' := by
  have s128 : ¬ (c : Int) < (128 : Int) := by omega
  have l131 : ¬ (c : Int) ≤ (131 : Int) := by omega
  have l136 : ¬ (c : Int) ≤ (136 : Int) := by omega
  have l142 : ¬ (c : Int) ≤ (142 : Int) := by omega
  have l146 : ¬ (c : Int) ≤ (146 : Int) := by omega
  have l151 : ¬ (c : Int) ≤ (151 : Int) := by omega
  have l156 : ¬ (c : Int) ≤ (156 : Int) := by omega
  have l160 : ¬ (c : Int) ≤ (160 : Int) := by omega
  have l165 : ¬ (c : Int) ≤ (165 : Int) := by omega
  have l170 : ¬ (c : Int) ≤ (170 : Int) := by omega
  have l234 : ¬ (c : Int) ≤ (234 : Int) := by omega
  have l238 : ¬ (c : Int) ≤ (238 : Int) := by omega
  have l242 : ¬ (c : Int) ≤ (242 : Int) := by omega
  have l246 : ¬ (c : Int) ≤ (246 : Int) := by omega
  have g140 : (140 : Int) ≤ (c : Int) := by omega
  have g171 : (171 : Int) ≤ (c : Int) := by omega
  have e132 : ((c : Int) == 132) = false := by rw [beq_eq_false_iff_ne]; omega
  have e137 : ((c : Int) == 137) = false := by rw [beq_eq_false_iff_ne]; omega
  have e138 : ((c : Int) == 138) = false := by rw [beq_eq_false_iff_ne]; omega
  have e147 : ((c : Int) == 147) = false := by rw [beq_eq_false_iff_ne]; omega
  have e152 : ((c : Int) == 152) = false := by rw [beq_eq_false_iff_ne]; omega
  have e161 : ((c : Int) == 161) = false := by rw [beq_eq_false_iff_ne]; omega
  have e166 : ((c : Int) == 166) = false := by rw [beq_eq_false_iff_ne]; omega
  have e139 : ((c : Int) == 139) = false := by rw [beq_eq_false_iff_ne]; omega
  have e247 : ((c : Int) == 247) = false := by rw [beq_eq_false_iff_ne]; omega
  have e248 : ((c : Int) == 248) = true := by rw [beq_iff_eq]; omega
  have e249 : ((c : Int) == 249) = false := by rw [beq_eq_false_iff_ne]; omega
  have H := Lib.hid (h.alloc (.cells #[.int .i64 (-4), .int .i64 (-4), .int .i64 (-4), .int .i64 (-4), .int .i64 (-4), .int .i64 (-4), .int .i64 (2), .int .i64 (2)] 3))
  clear h
  go_enter Try.func26, Try.ntmps26
  go_wp2
  go_ret2
  exact ⟨_, rfl, Sat.row_whole (e := 3) 8 H.out (by simp [maxLen]) rfl⟩
set_option maxRecDepth 100000 in
set_option maxHeartbeats 4000000 in
theorem sz_249 (c : Nat) (hb : c = 249) (h : Sat W A w) : Calls Try.prog 26 #[.int .i64 c] w fun e w' => ∃ v, e = .returned (.tuple #[v, .bool true]) ∧ Sat W (rowI v ([-4, 1]) * A) w' := by
  have s128 : ¬ (c : Int) < (128 : Int) := by omega
  have l131 : ¬ (c : Int) ≤ (131 : Int) := by omega
  have l136 : ¬ (c : Int) ≤ (136 : Int) := by omega
  have l142 : ¬ (c : Int) ≤ (142 : Int) := by omega
  have l146 : ¬ (c : Int) ≤ (146 : Int) := by omega
  have l151 : ¬ (c : Int) ≤ (151 : Int) := by omega
  have l156 : ¬ (c : Int) ≤ (156 : Int) := by omega
  have l160 : ¬ (c : Int) ≤ (160 : Int) := by omega
  have l165 : ¬ (c : Int) ≤ (165 : Int) := by omega
  have l170 : ¬ (c : Int) ≤ (170 : Int) := by omega
  have l234 : ¬ (c : Int) ≤ (234 : Int) := by omega
  have l238 : ¬ (c : Int) ≤ (238 : Int) := by omega
  have l242 : ¬ (c : Int) ≤ (242 : Int) := by omega
  have l246 : ¬ (c : Int) ≤ (246 : Int) := by omega
  have g140 : (140 : Int) ≤ (c : Int) := by omega
  have g171 : (171 : Int) ≤ (c : Int) := by omega
  have e132 : ((c : Int) == 132) = false := by rw [beq_eq_false_iff_ne]; omega
  have e137 : ((c : Int) == 137) = false := by rw [beq_eq_false_iff_ne]; omega
  have e138 : ((c : Int) == 138) = false := by rw [beq_eq_false_iff_ne]; omega
  have e147 : ((c : Int) == 147) = false := by rw [beq_eq_false_iff_ne]; omega
  have e152 : ((c : Int) == 152) = false := by rw [beq_eq_false_iff_ne]; omega
  have e161 : ((c : Int) == 161) = false := by rw [beq_eq_false_iff_ne]; omega
  have e166 : ((c : Int) == 166) = false := by rw [beq_eq_false_iff_ne]; omega
  have e139 : ((c : Int) == 139) = false := by rw [beq_eq_false_iff_ne]; omega
  have e247 : ((c : Int) == 247) = false := by rw [beq_eq_false_iff_ne]; omega
  have e248 : ((c : Int) == 248) = false := by rw [beq_eq_false_iff_ne]; omega
  have e249 : ((c : Int) == 249) = true := by rw [beq_iff_eq]; omega
  have H := Lib.hid (h.alloc (.cells #[.int .i64 (-4), .int .i64 (1)] 3))
  clear h
  go_enter Try.func26, Try.ntmps26
  go_wp2
  go_ret2
  exact ⟨_, rfl, Sat.row_whole (e := 3) 2 H.out (by simp [maxLen]) rfl⟩
set_option maxRecDepth 100000 in
set_option maxHeartbeats 4000000 in
theorem sz_250 (c : Nat) (hb : 250 ≤ c ∧ c ≤ 255) (h : Sat W A w) : Calls Try.prog 26 #[.int .i64 c] w fun e w' => ∃ v, e = .returned (.tuple #[v, .bool false]) ∧ Sat W (rowI v ([]) * A) w' := by
  have s128 : ¬ (c : Int) < (128 : Int) := by omega
  have l131 : ¬ (c : Int) ≤ (131 : Int) := by omega
  have l136 : ¬ (c : Int) ≤ (136 : Int) := by omega
  have l142 : ¬ (c : Int) ≤ (142 : Int) := by omega
  have l146 : ¬ (c : Int) ≤ (146 : Int) := by omega
  have l151 : ¬ (c : Int) ≤ (151 : Int) := by omega
  have l156 : ¬ (c : Int) ≤ (156 : Int) := by omega
  have l160 : ¬ (c : Int) ≤ (160 : Int) := by omega
  have l165 : ¬ (c : Int) ≤ (165 : Int) := by omega
  have l170 : ¬ (c : Int) ≤ (170 : Int) := by omega
  have l234 : ¬ (c : Int) ≤ (234 : Int) := by omega
  have l238 : ¬ (c : Int) ≤ (238 : Int) := by omega
  have l242 : ¬ (c : Int) ≤ (242 : Int) := by omega
  have l246 : ¬ (c : Int) ≤ (246 : Int) := by omega
  have g140 : (140 : Int) ≤ (c : Int) := by omega
  have g171 : (171 : Int) ≤ (c : Int) := by omega
  have e132 : ((c : Int) == 132) = false := by rw [beq_eq_false_iff_ne]; omega
  have e137 : ((c : Int) == 137) = false := by rw [beq_eq_false_iff_ne]; omega
  have e138 : ((c : Int) == 138) = false := by rw [beq_eq_false_iff_ne]; omega
  have e147 : ((c : Int) == 147) = false := by rw [beq_eq_false_iff_ne]; omega
  have e152 : ((c : Int) == 152) = false := by rw [beq_eq_false_iff_ne]; omega
  have e161 : ((c : Int) == 161) = false := by rw [beq_eq_false_iff_ne]; omega
  have e166 : ((c : Int) == 166) = false := by rw [beq_eq_false_iff_ne]; omega
  have e139 : ((c : Int) == 139) = false := by rw [beq_eq_false_iff_ne]; omega
  have e247 : ((c : Int) == 247) = false := by rw [beq_eq_false_iff_ne]; omega
  have e248 : ((c : Int) == 248) = false := by rw [beq_eq_false_iff_ne]; omega
  have e249 : ((c : Int) == 249) = false := by rw [beq_eq_false_iff_ne]; omega
  have H := Lib.hid h
  clear h
  go_enter Try.func26, Try.ntmps26
  go_wp2
  go_ret2
  exact ⟨_, rfl, Sat.row_nil (e := 3) (size := 1) H.out⟩
/-- the document's sizes: four bytes are always signed -/
def refSizes (c : Nat) : List Int := (sizesM c).map fun z => if z = 4 then -4 else z
theorem ite_one (b : Prop) [Decidable b] (x y : Int) : (if b then [x] else [y]) = [if b then x else y] := by split <;> rfl
theorem sizes_any (c : Nat) (hc : c ≤ 255) (h : Sat W A w) : Calls Try.prog 26 #[.int .i64 c] w fun e w' => ∃ v, e = .returned (.tuple #[v, .bool (decide (c ≤ 249))]) ∧ Sat W (rowI v (refSizes c) * A) w' := by
  have hcs : (c ≤ 127) ∨ (128 ≤ c ∧ c ≤ 131) ∨ (c = 132) ∨ (133 ≤ c ∧ c ≤ 136) ∨ (c = 137) ∨ (c = 138) ∨ (c = 139) ∨ (140 ≤ c ∧ c ≤ 142) ∨ (143 ≤ c ∧ c ≤ 146) ∨ (c = 147) ∨ (148 ≤ c ∧ c ≤ 151) ∨ (c = 152) ∨ (153 ≤ c ∧ c ≤ 156) ∨ (157 ≤ c ∧ c ≤ 160) ∨ (c = 161) ∨ (162 ≤ c ∧ c ≤ 165) ∨ (c = 166) ∨ (167 ≤ c ∧ c ≤ 170) ∨ (171 ≤ c ∧ c ≤ 234) ∨ (235 ≤ c ∧ c ≤ 238) ∨ (239 ≤ c ∧ c ≤ 242) ∨ (243 ≤ c ∧ c ≤ 246) ∨ (c = 247) ∨ (c = 248) ∨ (c = 249) ∨ (250 ≤ c ∧ c ≤ 255) := by omega
  rcases hcs with hb | hb | hb | hb | hb | hb | hb | hb | hb | hb | hb | hb | hb | hb | hb | hb | hb | hb | hb | hb | hb | hb | hb | hb | hb | hb
  · have e : refSizes c = [] := by
      have e1 : sizesM c = [] := by
        unfold sizesM
        repeat (first | rw [if_pos (by omega)] | rw [if_neg (by omega)])
      unfold refSizes
      rw [e1]
      rfl
    rw [e, show decide (c ≤ 249) = true by simp; omega]
    exact sz_0 c hb h
  · have e : refSizes c = oneM ((c : Int) - 127) false := by
      have e1 : sizesM c = [(c : Int) - 127] := by
        unfold sizesM
        repeat (first | rw [if_pos (by omega)] | rw [if_neg (by omega)])
      unfold refSizes
      rw [e1]
      unfold oneM
      simp only [List.map_cons, List.map_nil, ite_one, List.cons.injEq, and_true]
      split <;> rename_i h4 <;> split <;> rename_i h5 <;> first | omega | (simp at h5; omega)
    rw [e, show decide (c ≤ 249) = true by simp; omega]
    exact sz_128 c hb h
  · subst hb
    exact sz_132 _ rfl h
  · have e : refSizes c = oneM ((c : Int) - 132) false := by
      have e1 : sizesM c = [(c : Int) - 132] := by
        unfold sizesM
        repeat (first | rw [if_pos (by omega)] | rw [if_neg (by omega)])
      unfold refSizes
      rw [e1]
      unfold oneM
      simp only [List.map_cons, List.map_nil, ite_one, List.cons.injEq, and_true]
      split <;> rename_i h4 <;> split <;> rename_i h5 <;> first | omega | (simp at h5; omega)
    rw [e, show decide (c ≤ 249) = true by simp; omega]
    exact sz_133 c hb h
  · subst hb
    exact sz_137 _ rfl h
  · subst hb
    exact sz_138 _ rfl h
  · subst hb
    exact sz_139 _ rfl h
  · have e : refSizes c = [] := by
      have e1 : sizesM c = [] := by
        unfold sizesM
        repeat (first | rw [if_pos (by omega)] | rw [if_neg (by omega)])
      unfold refSizes
      rw [e1]
      rfl
    rw [e, show decide (c ≤ 249) = true by simp; omega]
    exact sz_140 c hb h
  · have e : refSizes c = oneM ((c : Int) - 142) true := by
      have e1 : sizesM c = [142 - (c : Int)] := by
        unfold sizesM
        repeat (first | rw [if_pos (by omega)] | rw [if_neg (by omega)])
      unfold refSizes
      rw [e1]
      unfold oneM
      simp only [List.map_cons, List.map_nil, ite_one, List.cons.injEq, and_true]
      rw [if_neg (by omega), if_pos (by simp)]; omega
    rw [e, show decide (c ≤ 249) = true by simp; omega]
    exact sz_143 c hb h
  · subst hb
    exact sz_147 _ rfl h
  · have e : refSizes c = oneM ((c : Int) - 147) true := by
      have e1 : sizesM c = [147 - (c : Int)] := by
        unfold sizesM
        repeat (first | rw [if_pos (by omega)] | rw [if_neg (by omega)])
      unfold refSizes
      rw [e1]
      unfold oneM
      simp only [List.map_cons, List.map_nil, ite_one, List.cons.injEq, and_true]
      rw [if_neg (by omega), if_pos (by simp)]; omega
    rw [e, show decide (c ≤ 249) = true by simp; omega]
    exact sz_148 c hb h
  · subst hb
    exact sz_152 _ rfl h
  · have e : refSizes c = oneM ((c : Int) - 152) true := by
      have e1 : sizesM c = [152 - (c : Int)] := by
        unfold sizesM
        repeat (first | rw [if_pos (by omega)] | rw [if_neg (by omega)])
      unfold refSizes
      rw [e1]
      unfold oneM
      simp only [List.map_cons, List.map_nil, ite_one, List.cons.injEq, and_true]
      rw [if_neg (by omega), if_pos (by simp)]; omega
    rw [e, show decide (c ≤ 249) = true by simp; omega]
    exact sz_153 c hb h
  · have e : refSizes c = oneM ((c : Int) - 156) true := by
      have e1 : sizesM c = [156 - (c : Int)] := by
        unfold sizesM
        repeat (first | rw [if_pos (by omega)] | rw [if_neg (by omega)])
      unfold refSizes
      rw [e1]
      unfold oneM
      simp only [List.map_cons, List.map_nil, ite_one, List.cons.injEq, and_true]
      rw [if_neg (by omega), if_pos (by simp)]; omega
    rw [e, show decide (c ≤ 249) = true by simp; omega]
    exact sz_157 c hb h
  · subst hb
    exact sz_161 _ rfl h
  · have e : refSizes c = oneM ((c : Int) - 161) true := by
      have e1 : sizesM c = [161 - (c : Int)] := by
        unfold sizesM
        repeat (first | rw [if_pos (by omega)] | rw [if_neg (by omega)])
      unfold refSizes
      rw [e1]
      unfold oneM
      simp only [List.map_cons, List.map_nil, ite_one, List.cons.injEq, and_true]
      rw [if_neg (by omega), if_pos (by simp)]; omega
    rw [e, show decide (c ≤ 249) = true by simp; omega]
    exact sz_162 c hb h
  · subst hb
    exact sz_166 _ rfl h
  · have e : refSizes c = oneM ((c : Int) - 166) true := by
      have e1 : sizesM c = [166 - (c : Int)] := by
        unfold sizesM
        repeat (first | rw [if_pos (by omega)] | rw [if_neg (by omega)])
      unfold refSizes
      rw [e1]
      unfold oneM
      simp only [List.map_cons, List.map_nil, ite_one, List.cons.injEq, and_true]
      rw [if_neg (by omega), if_pos (by simp)]; omega
    rw [e, show decide (c ≤ 249) = true by simp; omega]
    exact sz_167 c hb h
  · have e : refSizes c = [] := by
      have e1 : sizesM c = [] := by
        unfold sizesM
        repeat (first | rw [if_pos (by omega)] | rw [if_neg (by omega)])
      unfold refSizes
      rw [e1]
      rfl
    rw [e, show decide (c ≤ 249) = true by simp; omega]
    exact sz_171 c hb h
  · have e : refSizes c = oneM ((c : Int) - 234) false := by
      have e1 : sizesM c = [(c : Int) - 234] := by
        unfold sizesM
        repeat (first | rw [if_pos (by omega)] | rw [if_neg (by omega)])
      unfold refSizes
      rw [e1]
      unfold oneM
      simp only [List.map_cons, List.map_nil, ite_one, List.cons.injEq, and_true]
      split <;> rename_i h4 <;> split <;> rename_i h5 <;> first | omega | (simp at h5; omega)
    rw [e, show decide (c ≤ 249) = true by simp; omega]
    exact sz_235 c hb h
  · have e : refSizes c = oneM ((c : Int) - 238) false := by
      have e1 : sizesM c = [(c : Int) - 238] := by
        unfold sizesM
        repeat (first | rw [if_pos (by omega)] | rw [if_neg (by omega)])
      unfold refSizes
      rw [e1]
      unfold oneM
      simp only [List.map_cons, List.map_nil, ite_one, List.cons.injEq, and_true]
      split <;> rename_i h4 <;> split <;> rename_i h5 <;> first | omega | (simp at h5; omega)
    rw [e, show decide (c ≤ 249) = true by simp; omega]
    exact sz_239 c hb h
  · have e : refSizes c = (oneM ((c : Int) - 242) false ++ [-4, -4, -4, 1, 1]) := by
      have e1 : sizesM c = [(c : Int) - 242, 4, 4, 4, 1, 1] := by
        unfold sizesM
        repeat (first | rw [if_pos (by omega)] | rw [if_neg (by omega)])
      unfold refSizes
      rw [e1]
      unfold oneM
      simp only [List.map_cons, List.map_nil, ite_one]
      congr 1
      split <;> rename_i h4 <;> split <;> rename_i h5 <;> first | omega | (simp at h5; omega)
    rw [e, show decide (c ≤ 249) = true by simp; omega]
    exact sz_243 c hb h
  · subst hb
    exact sz_247 _ rfl h
  · subst hb
    exact sz_248 _ rfl h
  · subst hb
    exact sz_249 _ rfl h
  · have e : refSizes c = [] := by
      have e1 : sizesM c = [] := by
        unfold sizesM
        repeat (first | rw [if_pos (by omega)] | rw [if_neg (by omega)])
      unfold refSizes
      rw [e1]
      rfl
    rw [e, show decide (c ≤ 249) = false by simp; omega]
    exact sz_250 c hb h

end Go.Proofs.Ytjeinldhbajknaa
