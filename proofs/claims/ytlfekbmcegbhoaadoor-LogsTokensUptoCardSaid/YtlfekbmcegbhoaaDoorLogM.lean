
/-
  The reference of logs: a token as text. Conditions: those that each theorem names.
-/
import Derived.Test.YtlfekbmcegbhoaaDoorLogL
namespace Go.Proofs.YtlfekbmcegbhoaaDoor
open Go.RowKit Go.Sp
variable {W w w' : World} {F F' : HProp}

abbrev tokBx (k : Int) (c : UInt8) (n : ByteArray) : Obj := .cells #[.int .i64 k, .int .u8 c.toNat, .string n] 55

/-- what the reference lays at its beginning -/
theorem tokR_start (k : Int) (c : UInt8) (n : ByteArray) (C : List Int) (h : Sat W F w) :
    Sat W (pts (w.heap.size + 1) (codesO C 40) * (pts w.heap.size (tokBx k c n) * F)) (((w.alloc (tokBx k c n)).alloc (codesO C 40)).alloc (.cells #[.int .u8 92] 5)) ∧
    (convert 22 9 (.slice (some ⟨w.heap.size + 2, 0, none⟩) 1 1)).run Tryd.prog (((w.alloc (tokBx k c n)).alloc (codesO C 40)).alloc (.cells #[.int .u8 92] 5)) = .ok (.string ⟨#[92]⟩) (((w.alloc (tokBx k c n)).alloc (codesO C 40)).alloc (.cells #[.int .u8 92] 5)) := by
  refine ⟨((h.alloc (tokBx k c n)).alloc (codesO C 40)).allocD.of_eq (by simp), ?_⟩
  have hcv := conv_int ((w.alloc (tokBx k c n)).alloc (codesO C 40)) 92 92 rfl
  rw [show ((w.alloc (tokBx k c n)).alloc (codesO C 40)).heap.size = w.heap.size + 2 by simp] at hcv
  exact hcv


set_option maxRecDepth 100000 in
set_option maxHeartbeats 4000000 in
theorem tokR_6 (C : List Int) (c : UInt8) (n : ByteArray) (h : Sat W F w) : Calls Tryd.prog 20 #[.agg #[.int .i64 6, .int .u8 c.toNat, .string n], codesV C] w fun e w' => e = .returned ((.string ⟨(shownB c ++ shownB c).toArray⟩)) ∧ Sat W F w' := by
  obtain ⟨h0, hcv⟩ := tokR_start (6) c (n) C h
  have x0 := h0.r.cell (i := 0) rfl
  have x1 := h0.r.cell (i := 1) rfl
  have x2 := h0.r.cell (i := 2) rfl
  have lx := h0.r.lt
  have HX0 := Lib.hid h0
  have hcat := cat_mk (shownB c) (shownB c)
  have hle := shownB_le c
  have hsz : (⟨(shownB c).toArray⟩ : ByteArray).size = (shownB c).length := by simp [ByteArray.size]
  have HS := Lib.hid (fun (w' : World) (h : Sat W (pts w.heap.size (tokBx 6 c n) * F) w') => byteR_any c h)
  generalize (⟨(shownB c ++ shownB c).toArray⟩ : ByteArray) = s2 at *
  generalize (⟨(shownB c).toArray⟩ : ByteArray) = s at *
  generalize (shownB c).length = q at *
  clear h h0
  go_enter Tryd.func20, Tryd.ntmps20
  go_wp2_with fail
  generalize ((w.alloc (tokBx 6 c n)).alloc (codesO C 40)).alloc (.cells #[.int .u8 92] 5) = W2 at *
  generalize w.heap.size = bt at *
  refine wp_region_tail (Sat W (pts bt (tokBx 6 c n) * F)) 6 (by kernel_rfl) (by kernel_rfl) (HX0.out.r.drew) ?_
  simp only [List.take_succ_cons, List.take_zero, List.drop_succ_cons, List.drop_zero]
  repeat (refine wpQuiet_step (fun K hK => ?_); go_simp; first | (refine hK _ ?_; clear hK K) | (apply Exists.intro; refine ⟨fun w' hw' => ?_, hK _ ?_⟩; (first | rfl | (go_at_call 35; with_reducible refine Calls.mono (HS.out _ hw') ?_; exact fun _ _ ⟨h1, h2⟩ => ⟨h1, h2⟩) | (have y0 := hw'.cell (i := 0) rfl; have y1 := hw'.cell (i := 1) rfl; have ly := hw'.lt; go_simp; first | done | rfl)); clear hK K))
  refine wpQuiet_nil ?_
  intro w9 hw9
  have H9 := Lib.hid hw9.r
  clear hw9
  go_wp2
  go_ret
  exact ⟨rfl, H9.out⟩


set_option maxRecDepth 100000 in
set_option maxHeartbeats 4000000 in
theorem tokR_char (C : List Int) (k : Int) (c : UInt8) (n : ByteArray) (hk : k ≠ 6) (h1 : 1 ≤ k) (h13 : k ≤ 13) (h5 : k ≠ 5) (h9 : k ≠ 9) (h : Sat W F w) :
    Calls Tryd.prog 20 #[.agg #[.int .i64 k, .int .u8 c.toNat, .string n], codesV C] w fun e w' => e = .returned ((.string ⟨(shownB c).toArray⟩)) ∧ Sat W F w' := by
  have hc : k = 1 ∨ k = 2 ∨ k = 3 ∨ k = 4 ∨ k = 7 ∨ k = 8 ∨ k = 10 ∨ k = 11 ∨ k = 12 ∨ k = 13 := by omega
  clear hk h1 h13 h5 h9
  rcases hc with rfl | rfl | rfl | rfl | rfl | rfl | rfl | rfl | rfl | rfl
  · obtain ⟨h0, hcv⟩ := tokR_start 1 c n C h
    have x0 := h0.r.cell (i := 0) rfl
    have x1 := h0.r.cell (i := 1) rfl
    have lx := h0.r.lt
    have HS := Lib.hid (byteR_any c h0.r)
    generalize (⟨(shownB c).toArray⟩ : ByteArray) = s at *
    clear h h0
    go_enter Tryd.func20, Tryd.ntmps20
    go_wp2_with fail
    refine Calls.mono HS.out ?_
    rintro e w1 ⟨rfl, h2⟩
    have H2 := Lib.hid h2.r
    clear h2
    go_wp2
    go_ret
    exact ⟨rfl, H2.out⟩
  · obtain ⟨h0, hcv⟩ := tokR_start 2 c n C h
    have x0 := h0.r.cell (i := 0) rfl
    have x1 := h0.r.cell (i := 1) rfl
    have lx := h0.r.lt
    have HS := Lib.hid (byteR_any c h0.r)
    generalize (⟨(shownB c).toArray⟩ : ByteArray) = s at *
    clear h h0
    go_enter Tryd.func20, Tryd.ntmps20
    go_wp2_with fail
    refine Calls.mono HS.out ?_
    rintro e w1 ⟨rfl, h2⟩
    have H2 := Lib.hid h2.r
    clear h2
    go_wp2
    go_ret
    exact ⟨rfl, H2.out⟩
  · obtain ⟨h0, hcv⟩ := tokR_start 3 c n C h
    have x0 := h0.r.cell (i := 0) rfl
    have x1 := h0.r.cell (i := 1) rfl
    have lx := h0.r.lt
    have HS := Lib.hid (byteR_any c h0.r)
    generalize (⟨(shownB c).toArray⟩ : ByteArray) = s at *
    clear h h0
    go_enter Tryd.func20, Tryd.ntmps20
    go_wp2_with fail
    refine Calls.mono HS.out ?_
    rintro e w1 ⟨rfl, h2⟩
    have H2 := Lib.hid h2.r
    clear h2
    go_wp2
    go_ret
    exact ⟨rfl, H2.out⟩
  · obtain ⟨h0, hcv⟩ := tokR_start 4 c n C h
    have x0 := h0.r.cell (i := 0) rfl
    have x1 := h0.r.cell (i := 1) rfl
    have lx := h0.r.lt
    have HS := Lib.hid (byteR_any c h0.r)
    generalize (⟨(shownB c).toArray⟩ : ByteArray) = s at *
    clear h h0
    go_enter Tryd.func20, Tryd.ntmps20
    go_wp2_with fail
    refine Calls.mono HS.out ?_
    rintro e w1 ⟨rfl, h2⟩
    have H2 := Lib.hid h2.r
    clear h2
    go_wp2
    go_ret
    exact ⟨rfl, H2.out⟩
  · obtain ⟨h0, hcv⟩ := tokR_start 7 c n C h
    have x0 := h0.r.cell (i := 0) rfl
    have x1 := h0.r.cell (i := 1) rfl
    have lx := h0.r.lt
    have HS := Lib.hid (byteR_any c h0.r)
    generalize (⟨(shownB c).toArray⟩ : ByteArray) = s at *
    clear h h0
    go_enter Tryd.func20, Tryd.ntmps20
    go_wp2_with fail
    refine Calls.mono HS.out ?_
    rintro e w1 ⟨rfl, h2⟩
    have H2 := Lib.hid h2.r
    clear h2
    go_wp2
    go_ret
    exact ⟨rfl, H2.out⟩
  · obtain ⟨h0, hcv⟩ := tokR_start 8 c n C h
    have x0 := h0.r.cell (i := 0) rfl
    have x1 := h0.r.cell (i := 1) rfl
    have lx := h0.r.lt
    have HS := Lib.hid (byteR_any c h0.r)
    generalize (⟨(shownB c).toArray⟩ : ByteArray) = s at *
    clear h h0
    go_enter Tryd.func20, Tryd.ntmps20
    go_wp2_with fail
    refine Calls.mono HS.out ?_
    rintro e w1 ⟨rfl, h2⟩
    have H2 := Lib.hid h2.r
    clear h2
    go_wp2
    go_ret
    exact ⟨rfl, H2.out⟩
  · obtain ⟨h0, hcv⟩ := tokR_start 10 c n C h
    have x0 := h0.r.cell (i := 0) rfl
    have x1 := h0.r.cell (i := 1) rfl
    have lx := h0.r.lt
    have HS := Lib.hid (byteR_any c h0.r)
    generalize (⟨(shownB c).toArray⟩ : ByteArray) = s at *
    clear h h0
    go_enter Tryd.func20, Tryd.ntmps20
    go_wp2_with fail
    refine Calls.mono HS.out ?_
    rintro e w1 ⟨rfl, h2⟩
    have H2 := Lib.hid h2.r
    clear h2
    go_wp2
    go_ret
    exact ⟨rfl, H2.out⟩
  · obtain ⟨h0, hcv⟩ := tokR_start 11 c n C h
    have x0 := h0.r.cell (i := 0) rfl
    have x1 := h0.r.cell (i := 1) rfl
    have lx := h0.r.lt
    have HS := Lib.hid (byteR_any c h0.r)
    generalize (⟨(shownB c).toArray⟩ : ByteArray) = s at *
    clear h h0
    go_enter Tryd.func20, Tryd.ntmps20
    go_wp2_with fail
    refine Calls.mono HS.out ?_
    rintro e w1 ⟨rfl, h2⟩
    have H2 := Lib.hid h2.r
    clear h2
    go_wp2
    go_ret
    exact ⟨rfl, H2.out⟩
  · obtain ⟨h0, hcv⟩ := tokR_start 12 c n C h
    have x0 := h0.r.cell (i := 0) rfl
    have x1 := h0.r.cell (i := 1) rfl
    have lx := h0.r.lt
    have HS := Lib.hid (byteR_any c h0.r)
    generalize (⟨(shownB c).toArray⟩ : ByteArray) = s at *
    clear h h0
    go_enter Tryd.func20, Tryd.ntmps20
    go_wp2_with fail
    refine Calls.mono HS.out ?_
    rintro e w1 ⟨rfl, h2⟩
    have H2 := Lib.hid h2.r
    clear h2
    go_wp2
    go_ret
    exact ⟨rfl, H2.out⟩
  · obtain ⟨h0, hcv⟩ := tokR_start 13 c n C h
    have x0 := h0.r.cell (i := 0) rfl
    have x1 := h0.r.cell (i := 1) rfl
    have lx := h0.r.lt
    have HS := Lib.hid (byteR_any c h0.r)
    generalize (⟨(shownB c).toArray⟩ : ByteArray) = s at *
    clear h h0
    go_enter Tryd.func20, Tryd.ntmps20
    go_wp2_with fail
    refine Calls.mono HS.out ?_
    rintro e w1 ⟨rfl, h2⟩
    have H2 := Lib.hid h2.r
    clear h2
    go_wp2
    go_ret
    exact ⟨rfl, H2.out⟩

set_option maxRecDepth 100000 in
set_option maxHeartbeats 4000000 in
theorem tokR_17 (C : List Int) (c : UInt8) (n : ByteArray) (h : Sat W F w) : Calls Tryd.prog 20 #[.agg #[.int .i64 17, .int .u8 c.toNat, .string n], codesV C] w fun e w' => e = .returned (.string ⟨#[35, UInt8.ofNat (48 + c.toNat % 10)]⟩) ∧ Sat W F w' := by
  obtain ⟨h0, hcv⟩ := tokR_start (17) c (n) C h
  have x0 := h0.r.cell (i := 0) rfl
  have x1 := h0.r.cell (i := 1) rfl
  have x2 := h0.r.cell (i := 2) rfl
  have lx := h0.r.lt
  have HX0 := Lib.hid h0
  obtain ⟨k, hk⟩ : ∃ k, c.toNat % 10 = k := ⟨_, rfl⟩
  have HS := Lib.hid (numR_one k (by omega) HX0.out.r.r)
  have hm : (wrap64 (c.toNat : Int)).tmod 10 = (k : Int) := by have hc := c.toNat_lt; rw [IntWalk.wrap64_in _ (by omega), Int.tmod_eq_emod_of_nonneg (by omega)]; omega
  have hm2 : (c.toNat : Int) % 10 = (k : Int) := by omega
  have hcat : (⟨#[35]⟩ : ByteArray) ++ ⟨#[UInt8.ofNat (48 + k)]⟩ = ⟨#[35, UInt8.ofNat (48 + k)]⟩ := by apply ByteArray.ext; simp
  rw [hk]
  have z1 : (⟨#[UInt8.ofNat (48 + k)]⟩ : ByteArray).size = 1 := rfl
  generalize (⟨#[35, UInt8.ofNat (48 + k)]⟩ : ByteArray) = s2 at *
  generalize (⟨#[UInt8.ofNat (48 + k)]⟩ : ByteArray) = s at *
  clear h h0 hk
  go_enter Tryd.func20, Tryd.ntmps20
  go_wp2_with fail
  refine Calls.mono HS.out ?_
  rintro e w1 ⟨rfl, h1⟩
  have H1 := Lib.hid h1
  clear h1
  go_wp2
  go_ret
  exact ⟨rfl, H1.out⟩

set_option maxRecDepth 100000 in
set_option maxHeartbeats 4000000 in
theorem tokR_q (C : List Int) (k : Int) (c : UInt8) (n : ByteArray) (hk : k ≠ 6) (hn : ¬ ((1 ≤ k ∧ k ≤ 13) ∧ k ≠ 5 ∧ k ≠ 9)) (h17 : k ≠ 17) (h16 : k ≠ 16) (h : Sat W F w) :
    Calls Tryd.prog 20 #[.agg #[.int .i64 k, .int .u8 c.toNat, .string n], codesV C] w fun e w' => e = .returned (.string ⟨#[63]⟩) ∧ Sat W F w' := by
  obtain ⟨h0, hcv⟩ := tokR_start (k) c (n) C h
  have x0 := h0.r.cell (i := 0) rfl
  have x1 := h0.r.cell (i := 1) rfl
  have x2 := h0.r.cell (i := 2) rfl
  have lx := h0.r.lt
  have HX0 := Lib.hid h0
  have q1 : (k == 1) = false := by simp; omega
  have q2 : (k == 2) = false := by simp; omega
  have q3 : (k == 3) = false := by simp; omega
  have q4 : (k == 4) = false := by simp; omega
  have q6 : (k == 6) = false := by simp; omega
  have q7 : (k == 7) = false := by simp; omega
  have q8 : (k == 8) = false := by simp; omega
  have q10 : (k == 10) = false := by simp; omega
  have q11 : (k == 11) = false := by simp; omega
  have q12 : (k == 12) = false := by simp; omega
  have q13 : (k == 13) = false := by simp; omega
  have q17 : (k == 17) = false := by simp; omega
  have q16 : (k == 16) = false := by simp; omega
  clear h h0 hk hn h17 h16
  go_enter Tryd.func20, Tryd.ntmps20
  go_wp2
  go_ret
  exact ⟨rfl, HX0.out.r.r⟩

set_option maxRecDepth 100000 in
set_option maxHeartbeats 4000000 in
theorem tokR_cs0 (C : List Int) (c : UInt8) (h : Sat W F w) : Calls Tryd.prog 20 #[.agg #[.int .i64 16, .int .u8 c.toNat, .string ⟨#[]⟩], codesV C] w fun e w' => e = .returned ((.string ⟨csnameB.toArray⟩)) ∧ Sat W F w' := by
  obtain ⟨h0, hcv⟩ := tokR_start (16) c (⟨#[]⟩) C h
  have x0 := h0.r.cell (i := 0) rfl
  have x1 := h0.r.cell (i := 1) rfl
  have x2 := h0.r.cell (i := 2) rfl
  have lx := h0.r.lt
  have HX0 := Lib.hid h0
  clear h h0
  go_enter Tryd.func20, Tryd.ntmps20
  go_wp2
  go_ret
  exact ⟨rfl, HX0.out.r.r⟩

set_option maxRecDepth 100000 in
set_option maxHeartbeats 4000000 in
theorem tokR_cs (C : List Int) (hC : C.length = 256) (ch : UInt8) (c : UInt8) (l : List UInt8) (hl : l.length ≤ 10000000) (h : Sat W F w) :
    Calls Tryd.prog 20 #[.agg #[.int .i64 16, .int .u8 ch.toNat, (.string ⟨(c :: l).toArray⟩)], codesV C] w fun e w' => e = .returned ((.string ⟨(csB C (c :: l)).toArray⟩)) ∧ Sat W F w' := by
  obtain ⟨h0, hcv⟩ := tokR_start (16) ch (⟨(c :: l).toArray⟩) C h
  have x0 := h0.r.cell (i := 0) rfl
  have x1 := h0.r.cell (i := 1) rfl
  have x2 := h0.r.cell (i := 2) rfl
  have lx := h0.r.lt
  have HX0 := Lib.hid h0
  have HC := Lib.hid hC
  have HSP := Lib.hid (bytesR_any (c :: l) (by simp; omega) h0)
  have hsz : (⟨(c :: l).toArray⟩ : ByteArray).size = l.length + 1 := by simp [ByteArray.size]
  have hsl := spelledB_len (c :: l)
  simp only [List.length_cons] at hsl
  have hcs : csB C (c :: l) = [92] ++ spelledB (c :: l) ++ (if 0 < l.length ∨ codeAt C c = 11 then [32] else []) := rfl
  have cat1 : (⟨#[92]⟩ : ByteArray) ++ ⟨(spelledB (c :: l)).toArray⟩ = ⟨([92] ++ spelledB (c :: l)).toArray⟩ := cat_mk [92] _
  have cat2 : (⟨([92] ++ spelledB (c :: l)).toArray⟩ : ByteArray) ++ ⟨#[32]⟩ = ⟨([92] ++ spelledB (c :: l) ++ [32]).toArray⟩ := cat_mk _ [32]
  have hne : ((c :: l : List UInt8) == []) = false := rfl
  have htl : (⟨(c :: l).toArray⟩ : ByteArray).toList = c :: l := by rw [Lib.toList_data]
  have hget : ∀ h : 0 < (⟨(c :: l).toArray⟩ : ByteArray).size, (⟨(c :: l).toArray⟩ : ByteArray)[0]'h = c := fun h => by
    have := Lib.getElem_mk (c :: l) 0 h
    simpa using this.symm
  have hsz1 : (⟨(spelledB (c :: l)).toArray⟩ : ByteArray).size = (spelledB (c :: l)).length := by simp [ByteArray.size]
  have hsz2 : (⟨([92] ++ spelledB (c :: l)).toArray⟩ : ByteArray).size = (spelledB (c :: l)).length + 1 := by simp [ByteArray.size]
  obtain ⟨q, hq⟩ : ∃ q, (spelledB (c :: l)).length = q := ⟨_, rfl⟩
  rw [hq] at hsz1 hsz2 hsl
  rw [hcs]
  generalize spelledB (c :: l) = sp at *
  have HFIN := Lib.hid (show (0 < l.length ∨ codeAt C c = 11) → [92] ++ sp ++ (if 0 < l.length ∨ codeAt C c = 11 then [32] else []) = [92] ++ sp ++ [32] from fun h => by rw [if_pos h])
  have HFIN2 := Lib.hid (show ¬ (0 < l.length ∨ codeAt C c = 11) → [92] ++ sp ++ (if 0 < l.length ∨ codeAt C c = 11 then [32] else []) = [92] ++ sp from fun h => by rw [if_neg h, List.append_nil])
  obtain ⟨res, hres⟩ : ∃ res, [92] ++ sp ++ (if 0 < l.length ∨ codeAt C c = 11 then [32] else []) = res := ⟨_, rfl⟩
  rw [hres] at HFIN HFIN2
  rw [hres]
  clear hres hcs hq
  obtain ⟨m, hm⟩ : ∃ m, l.length = m := ⟨_, rfl⟩
  rw [hm] at hsz hsl hl HFIN HFIN2
  generalize ([92] ++ sp ++ [32] : List UInt8) = r3 at *
  generalize ([92] ++ sp : List UInt8) = r2 at *
  obtain ⟨S3, hS3⟩ : ∃ S3, (⟨r3.toArray⟩ : ByteArray) = S3 := ⟨_, rfl⟩
  obtain ⟨S2, hS2⟩ : ∃ S2, (⟨r2.toArray⟩ : ByteArray) = S2 := ⟨_, rfl⟩
  rw [hS3] at cat2
  rw [hS2] at cat1 cat2 hsz2
  have HS3 := Lib.hid hS3
  have HS2 := Lib.hid hS2
  clear hS3 hS2
  generalize (⟨sp.toArray⟩ : ByteArray) = S1 at *
  generalize (⟨(c :: l).toArray⟩ : ByteArray) = s at *
  have hc8 : (c.toNat : Int) < 256 := by have := c.toNat_lt; omega
  have kk0 := codes_cell h0 HC.out c
  have lk0 := h0.lt
  clear h h0 hC hm
  by_cases hlt : 0 < m
  · have i1 : (1 : Int) < (m : Int) + 1 := by omega
    have HR := Lib.hid (show (⟨res.toArray⟩ : ByteArray) = S3 by rw [HFIN.out (.inl hlt), HS3.out])
    go_enter Tryd.func20, Tryd.ntmps20
    go_wp2_with fail
    refine Calls.mono HSP.out ?_
    rintro e w1 ⟨rfl, h2⟩
    have H2 := Lib.hid h2.r.r
    clear h2 x0 x2 lx
    go_wp2
    go_ret
    exact ⟨by rw [HR.out]; rfl, H2.out⟩
  · have i1 : ¬ (1 : Int) < (m : Int) + 1 := by omega
    by_cases h11 : codeAt C c = 11
    · have q1 : (codeAt C c == 11) = true := by simp [h11]
      have HR := Lib.hid (show (⟨res.toArray⟩ : ByteArray) = S3 by rw [HFIN.out (.inr h11), HS3.out])
      clear h11
      go_enter Tryd.func20, Tryd.ntmps20
      go_wp2_with fail
      refine Calls.mono HSP.out ?_
      rintro e w1 ⟨rfl, h2⟩
      have H2 := Lib.hid h2.r.r
      clear h2 x0 x2 lx
      go_wp2
      go_ret
      exact ⟨by rw [HR.out]; rfl, H2.out⟩
    · have q1 : (codeAt C c == 11) = false := by simpa using h11
      have HR := Lib.hid (show (⟨res.toArray⟩ : ByteArray) = S2 by rw [HFIN2.out (by rintro (h | h); exact hlt h; exact h11 h), HS2.out])
      clear h11
      go_enter Tryd.func20, Tryd.ntmps20
      go_wp2_with fail
      refine Calls.mono HSP.out ?_
      rintro e w1 ⟨rfl, h2⟩
      have H2 := Lib.hid h2.r.r
      clear h2 x0 x2 lx
      go_wp2
      go_ret
      exact ⟨by rw [HR.out]; rfl, H2.out⟩

theorem tokR_any (C : List Int) (hC : C.length = 256) (t : Tok) (hb : t.name.size ≤ 2000000) (h : Sat W F w) : Calls Tryd.prog 20 #[Tok.val t, codesV C] w fun e w' => e = .returned ((.string ⟨(tokenB C t).toArray⟩)) ∧ Sat W F w' := by
  obtain ⟨k, c, n⟩ := t
  unfold tokenB
  simp only
  by_cases h6 : k = 6
  · subst h6
    rw [if_pos rfl]
    exact tokR_6 C c n h
  · rw [if_neg h6]
    by_cases hp : (1 ≤ k ∧ k ≤ 13) ∧ k ≠ 5 ∧ k ≠ 9
    · rw [if_pos hp]
      exact tokR_char C k c n h6 hp.1.1 hp.1.2 hp.2.1 hp.2.2 h
    · rw [if_neg hp]
      by_cases h17 : k = 17
      · subst h17
        rw [if_pos rfl]
        exact tokR_17 C c n h
      · rw [if_neg h17]
        by_cases h16 : k = 16
        · subst h16
          rw [if_neg (by simp)]
          obtain ⟨l, hl⟩ : ∃ l, n.data.toList = l := ⟨_, rfl⟩
          have hn : n = ⟨l.toArray⟩ := by rw [← hl]
          rw [hl]
          have hb2 : l.length ≤ 2000000 := by
            have : n.size ≤ 2000000 := hb
            rw [hn] at this
            simpa [ByteArray.size] using this
          rw [hn]
          cases l with
          | nil => exact tokR_cs0 C c h
          | cons d r => exact tokR_cs C hC c d r (by simp at hb2; omega) h
        · rw [if_pos h16]
          exact tokR_q C k c n h6 hp h17 h16 h

end Go.Proofs.YtlfekbmcegbhoaaDoor
