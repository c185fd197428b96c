
/-
  Package logs: a token as text. Conditions: those that each theorem names.
-/
import Derived.Test.YtpcdbeicpmjooaaDoorLogC
namespace Go.Proofs.YtpcdbeicpmjooaaDoor
open Go.RowKit Go.Sp
variable {W w w' : World} {F F' : HProp}

def csnameB : List UInt8 := [92, 99, 115, 110, 97, 109, 101, 92, 101, 110, 100, 99, 115, 110, 97, 109, 101, 32]

/-- a name behind its escape -/
def csB (C : List Int) : List UInt8 → List UInt8
  | [] => csnameB
  | c :: l => [92] ++ spelledB (c :: l) ++ (if 0 < l.length ∨ codeAt C c = 11 then [32] else [])

/-- a token as text -/
def tokenB (C : List Int) (t : Tok) : List UInt8 :=
  if t.cat = 6 then shownB t.chr ++ shownB t.chr
  else if (1 ≤ t.cat ∧ t.cat ≤ 13) ∧ t.cat ≠ 5 ∧ t.cat ≠ 9 then shownB t.chr
  else if t.cat = 17 then [35, UInt8.ofNat (48 + t.chr.toNat % 10)]
  else if t.cat ≠ 16 then [63]
  else csB C t.name.data.toList

theorem cat_mk (a b : List UInt8) : (⟨a.toArray⟩ : ByteArray) ++ ⟨b.toArray⟩ = ⟨(a ++ b).toArray⟩ := by
  apply ByteArray.ext
  simp

set_option maxRecDepth 100000 in
set_option maxHeartbeats 4000000 in
theorem token_6 (C : List Int) (c : UInt8) (n : ByteArray) (h : Sat W F w) : Calls Tryd.prog 12 #[.agg #[.int .i64 6, .int .u8 c.toNat, .string n], codesV C] w fun e w' => e = .returned ((.string ⟨(shownB c ++ shownB c).toArray⟩)) ∧ Sat W F w' := by
  have h0 := ((h.alloc (.cells #[.int .i64 6, .int .u8 c.toNat, .string n] 26)).allocD (o := codesO C 22))
  have x0 := h0.cell (i := 0) rfl
  have x1 := h0.cell (i := 1) rfl
  have lx := h0.lt
  have H0 := Lib.hid h0
  have hcat := cat_mk (shownB c) (shownB c)
  have hle := shownB_le c
  have hsz : (⟨(shownB c).toArray⟩ : ByteArray).size = (shownB c).length := by simp [ByteArray.size]
  have HS := Lib.hid (fun (w' : World) (h : Sat W (pts w.heap.size (.cells #[.int .i64 6, .int .u8 c.toNat, .string n] 26) * F) w') => shown_any c h)
  generalize (⟨(shownB c ++ shownB c).toArray⟩ : ByteArray) = s2 at *
  generalize (⟨(shownB c).toArray⟩ : ByteArray) = s at *
  generalize (shownB c).length = q at *
  clear h h0
  go_enter Tryd.func12, Tryd.ntmps12
  go_wp2_with fail
  generalize (w.alloc (.cells #[.int .i64 6, .int .u8 c.toNat, .string n] 26)).alloc (codesO C 22) = W2 at *
  generalize w.heap.size = bt at *
  refine wp_region_tail (Sat W (pts bt (.cells #[.int .i64 6, .int .u8 c.toNat, .string n] 26) * F)) 6 (by kernel_rfl) (by kernel_rfl) (H0.out.drew) ?_
  simp only [List.take_succ_cons, List.take_zero, List.drop_succ_cons, List.drop_zero]
  repeat (refine wpQuiet_step (fun K hK => ?_); go_simp; first | (refine hK _ ?_; clear hK K) | (apply Exists.intro; refine ⟨fun w' hw' => ?_, hK _ ?_⟩; (first | rfl | (go_at_call 21; with_reducible refine Calls.mono (HS.out _ hw') ?_; exact fun _ _ ⟨h1, h2⟩ => ⟨h1, h2⟩) | (have y0 := hw'.cell (i := 0) rfl; have y1 := hw'.cell (i := 1) rfl; have ly := hw'.lt; go_simp; first | done | rfl)); clear hK K))
  refine wpQuiet_nil ?_
  intro w9 hw9
  have H9 := Lib.hid hw9.r
  clear hw9
  go_wp2
  go_ret
  exact ⟨rfl, H9.out⟩

set_option maxRecDepth 100000 in
set_option maxHeartbeats 4000000 in
theorem token_char (C : List Int) (k : Int) (c : UInt8) (n : ByteArray) (hk : k ≠ 6) (h1 : 1 ≤ k) (h13 : k ≤ 13) (h5 : k ≠ 5) (h9 : k ≠ 9) (h : Sat W F w) :
    Calls Tryd.prog 12 #[.agg #[.int .i64 k, .int .u8 c.toNat, .string n], codesV C] w fun e w' => e = .returned ((.string ⟨(shownB c).toArray⟩)) ∧ Sat W F w' := by
  have h0 := ((h.alloc (.cells #[.int .i64 k, .int .u8 c.toNat, .string n] 26)).allocD (o := codesO C 22))
  have x0 := h0.cell (i := 0) rfl
  have x1 := h0.cell (i := 1) rfl
  have lx := h0.lt
  have HS := Lib.hid (shown_any c h0)
  have q6 : (k == 6) = false := by simpa using hk
  have q5 : (k != 5) = true := by simpa using h5
  have q9 : (k != 9) = true := by simpa using h9
  generalize (⟨(shownB c).toArray⟩ : ByteArray) = s at *
  clear h h0 hk h5 h9
  go_enter Tryd.func12, Tryd.ntmps12
  go_wp2_with fail
  refine Calls.mono HS.out ?_
  rintro e w1 ⟨rfl, h2⟩
  have H2 := Lib.hid h2.r
  clear h2
  go_wp2
  go_ret
  exact ⟨rfl, H2.out⟩

set_option maxRecDepth 100000 in
set_option maxHeartbeats 4000000 in
theorem token_17 (C : List Int) (c : UInt8) (n : ByteArray) (h : Sat W F w) : Calls Tryd.prog 12 #[.agg #[.int .i64 17, .int .u8 c.toNat, .string n], codesV C] w fun e w' => e = .returned (.string ⟨#[35, UInt8.ofNat (48 + c.toNat % 10)]⟩) ∧ Sat W F w' := by
  have h0 := ((h.alloc (.cells #[.int .i64 17, .int .u8 c.toNat, .string n] 26)).allocD (o := codesO C 22))
  have x0 := h0.cell (i := 0) rfl
  have x1 := h0.cell (i := 1) rfl
  have lx := h0.lt
  have H0 := Lib.hid h0.r
  obtain ⟨k, hk⟩ : ∃ k, c.toNat % 10 = k := ⟨_, rfl⟩
  have HS := Lib.hid (itoa_any k (by omega))
  have hm : (wrap64 (c.toNat : Int)).tmod 10 = (k : Int) := by have hc := c.toNat_lt; rw [IntWalk.wrap64_in _ (by omega), Int.tmod_eq_emod_of_nonneg (by omega)]; omega
  have hm2 : (c.toNat : Int) % 10 = (k : Int) := by omega
  have hcat : (⟨#[35]⟩ : ByteArray) ++ ⟨#[UInt8.ofNat (48 + k)]⟩ = ⟨#[35, UInt8.ofNat (48 + k)]⟩ := by apply ByteArray.ext; simp
  rw [hk]
  have z1 : (⟨#[UInt8.ofNat (48 + k)]⟩ : ByteArray).size = 1 := rfl
  generalize (⟨#[35, UInt8.ofNat (48 + k)]⟩ : ByteArray) = s2 at *
  generalize (⟨#[UInt8.ofNat (48 + k)]⟩ : ByteArray) = s at *
  clear h h0 hk
  go_enter Tryd.func12, Tryd.ntmps12
  go_wp2_with fail
  refine Calls.mono (HS.out _) ?_
  rintro e w1 ⟨rfl, rfl⟩
  go_wp2
  go_ret
  exact ⟨rfl, H0.out⟩

set_option maxRecDepth 100000 in
set_option maxHeartbeats 4000000 in
theorem token_q (C : List Int) (k : Int) (c : UInt8) (n : ByteArray) (hk : k ≠ 6) (hn : ¬ ((1 ≤ k ∧ k ≤ 13) ∧ k ≠ 5 ∧ k ≠ 9)) (h17 : k ≠ 17) (h16 : k ≠ 16) (h : Sat W F w) :
    Calls Tryd.prog 12 #[.agg #[.int .i64 k, .int .u8 c.toNat, .string n], codesV C] w fun e w' => e = .returned (.string ⟨#[63]⟩) ∧ Sat W F w' := by
  have h0 := ((h.alloc (.cells #[.int .i64 k, .int .u8 c.toNat, .string n] 26)).allocD (o := codesO C 22))
  have x0 := h0.cell (i := 0) rfl
  have x1 := h0.cell (i := 1) rfl
  have lx := h0.lt
  have H0 := Lib.hid h0.r
  have q6 : (k == 6) = false := by simpa using hk
  have q17 : (k == 17) = false := by simpa using h17
  have q16 : (k != 16) = true := by simpa using h16
  have hps : (¬ 1 ≤ k) ∨ (1 ≤ k ∧ ¬ k ≤ 13) ∨ k = 5 ∨ k = 9 := by omega
  clear h h0 hk hn h17 h16
  rcases hps with j1 | ⟨j1, j2⟩ | rfl | rfl
  all_goals
    go_enter Tryd.func12, Tryd.ntmps12
    go_wp2
    go_ret
    exact ⟨rfl, H0.out⟩

set_option maxRecDepth 100000 in
set_option maxHeartbeats 4000000 in
theorem token_cs0 (C : List Int) (c : UInt8) (h : Sat W F w) : Calls Tryd.prog 12 #[.agg #[.int .i64 16, .int .u8 c.toNat, .string ⟨#[]⟩], codesV C] w fun e w' => e = .returned ((.string ⟨csnameB.toArray⟩)) ∧ Sat W F w' := by
  have h0 := ((h.alloc (.cells #[.int .i64 16, .int .u8 c.toNat, .string ⟨#[]⟩] 26)).allocD (o := codesO C 22))
  have x0 := h0.cell (i := 0) rfl
  have x2 := h0.cell (i := 2) rfl
  have lx := h0.lt
  have H0 := Lib.hid h0.r
  clear h h0
  go_enter Tryd.func12, Tryd.ntmps12
  go_wp2
  go_ret
  exact ⟨rfl, H0.out⟩

set_option maxRecDepth 100000 in
set_option maxHeartbeats 4000000 in
theorem token_cs (C : List Int) (hC : C.length = 256) (ch : UInt8) (c : UInt8) (l : List UInt8) (hl : l.length ≤ 10000000) (h : Sat W F w) :
    Calls Tryd.prog 12 #[.agg #[.int .i64 16, .int .u8 ch.toNat, (.string ⟨(c :: l).toArray⟩)], codesV C] w fun e w' => e = .returned ((.string ⟨(csB C (c :: l)).toArray⟩)) ∧ Sat W F w' := by
  have h0 := ((h.alloc (.cells #[.int .i64 16, .int .u8 ch.toNat, (.string ⟨(c :: l).toArray⟩)] 26)).alloc (codesO C 22)).of_eq (show _ = pts (w.heap.size + 1) (codesO C 22) * (pts w.heap.size (.cells #[.int .i64 16, .int .u8 ch.toNat, (.string ⟨(c :: l).toArray⟩)] 26) * F) by simp)
  have x0 := h0.r.cell (i := 0) rfl
  have x2 := h0.r.cell (i := 2) rfl
  have lx := h0.r.lt
  have HX0 := Lib.hid h0
  have HC := Lib.hid hC
  have HSP := Lib.hid (spelled_any (c :: l) (by simp; omega) h0)
  have hsz : (⟨(c :: l).toArray⟩ : ByteArray).size = l.length + 1 := by simp [ByteArray.size]
  have hsl := spelledB_len (c :: l)
  simp only [List.length_cons] at hsl
  have hcs : csB C (c :: l) = [92] ++ spelledB (c :: l) ++ (if 0 < l.length ∨ codeAt C c = 11 then [32] else []) := rfl
  have cat1 : (⟨#[92]⟩ : ByteArray) ++ ⟨(spelledB (c :: l)).toArray⟩ = ⟨([92] ++ spelledB (c :: l)).toArray⟩ := cat_mk [92] _
  have cat2 : (⟨([92] ++ spelledB (c :: l)).toArray⟩ : ByteArray) ++ ⟨#[32]⟩ = ⟨([92] ++ spelledB (c :: l) ++ [32]).toArray⟩ := cat_mk _ [32]
  have hne : ((c :: l : List UInt8) == []) = false := rfl
  have htl : (⟨(c :: l).toArray⟩ : ByteArray).toList = c :: l := by rw [Lib.toList_data]
  have hget : ∀ h : 0 < (⟨(c :: l).toArray⟩ : ByteArray).size, (⟨(c :: l).toArray⟩ : ByteArray)[0]'h = c := fun h => by
    have := Lib.getElem_mk (c :: l) 0 h
    simpa using this.symm
  have hsz1 : (⟨(spelledB (c :: l)).toArray⟩ : ByteArray).size = (spelledB (c :: l)).length := by simp [ByteArray.size]
  have hsz2 : (⟨([92] ++ spelledB (c :: l)).toArray⟩ : ByteArray).size = (spelledB (c :: l)).length + 1 := by simp [ByteArray.size]
  obtain ⟨q, hq⟩ : ∃ q, (spelledB (c :: l)).length = q := ⟨_, rfl⟩
  rw [hq] at hsz1 hsz2 hsl
  rw [hcs]
  generalize spelledB (c :: l) = sp at *
  have HFIN := Lib.hid (show (0 < l.length ∨ codeAt C c = 11) → [92] ++ sp ++ (if 0 < l.length ∨ codeAt C c = 11 then [32] else []) = [92] ++ sp ++ [32] from fun h => by rw [if_pos h])
  have HFIN2 := Lib.hid (show ¬ (0 < l.length ∨ codeAt C c = 11) → [92] ++ sp ++ (if 0 < l.length ∨ codeAt C c = 11 then [32] else []) = [92] ++ sp from fun h => by rw [if_neg h, List.append_nil])
  obtain ⟨res, hres⟩ : ∃ res, [92] ++ sp ++ (if 0 < l.length ∨ codeAt C c = 11 then [32] else []) = res := ⟨_, rfl⟩
  rw [hres] at HFIN HFIN2
  rw [hres]
  clear hres hcs hq
  obtain ⟨m, hm⟩ : ∃ m, l.length = m := ⟨_, rfl⟩
  rw [hm] at hsz hsl hl HFIN HFIN2
  generalize ([92] ++ sp ++ [32] : List UInt8) = r3 at *
  generalize ([92] ++ sp : List UInt8) = r2 at *
  obtain ⟨S3, hS3⟩ : ∃ S3, (⟨r3.toArray⟩ : ByteArray) = S3 := ⟨_, rfl⟩
  obtain ⟨S2, hS2⟩ : ∃ S2, (⟨r2.toArray⟩ : ByteArray) = S2 := ⟨_, rfl⟩
  rw [hS3] at cat2
  rw [hS2] at cat1 cat2 hsz2
  have HS3 := Lib.hid hS3
  have HS2 := Lib.hid hS2
  clear hS3 hS2
  generalize (⟨sp.toArray⟩ : ByteArray) = S1 at *
  generalize (⟨(c :: l).toArray⟩ : ByteArray) = s at *
  have hc8 : (c.toNat : Int) < 256 := by have := c.toNat_lt; omega
  clear h h0 hC hm
  go_enter Tryd.func12, Tryd.ntmps12
  go_wp2_with fail
  refine Calls.mono HSP.out ?_
  rintro e w1 ⟨rfl, h2⟩
  have y2 := h2.r.cell (i := 2) rfl
  have ly := h2.r.lt
  have k0 := codes_cell h2 HC.out c
  have lk := h2.lt
  have H2 := Lib.hid h2.r.r
  clear h2 x0 x2 lx
  by_cases hlt : 0 < m
  · have i1 : (1 : Int) < (m : Int) + 1 := by omega
    have HR := Lib.hid (show (⟨res.toArray⟩ : ByteArray) = S3 by rw [HFIN.out (.inl hlt), HS3.out])
    go_wp2
    go_ret
    exact ⟨by rw [HR.out]; rfl, H2.out⟩
  · have i1 : ¬ (1 : Int) < (m : Int) + 1 := by omega
    by_cases h11 : codeAt C c = 11
    · have q1 : (codeAt C c == 11) = true := by simp [h11]
      have HR := Lib.hid (show (⟨res.toArray⟩ : ByteArray) = S3 by rw [HFIN.out (.inr h11), HS3.out])
      clear h11
      go_wp2
      go_ret
      exact ⟨by rw [HR.out]; rfl, H2.out⟩
    · have q1 : (codeAt C c == 11) = false := by simpa using h11
      have HR := Lib.hid (show (⟨res.toArray⟩ : ByteArray) = S2 by rw [HFIN2.out (by rintro (h | h); exact hlt h; exact h11 h), HS2.out])
      clear h11
      go_wp2
      go_ret
      exact ⟨by rw [HR.out]; rfl, H2.out⟩

theorem token_any (C : List Int) (hC : C.length = 256) (t : Tok) (hb : t.name.size ≤ 2000000) (h : Sat W F w) : Calls Tryd.prog 12 #[Tok.val t, codesV C] w fun e w' => e = .returned ((.string ⟨(tokenB C t).toArray⟩)) ∧ Sat W F w' := by
  obtain ⟨k, c, n⟩ := t
  unfold tokenB
  simp only
  by_cases h6 : k = 6
  · subst h6
    rw [if_pos rfl]
    exact token_6 C c n h
  · rw [if_neg h6]
    by_cases hp : (1 ≤ k ∧ k ≤ 13) ∧ k ≠ 5 ∧ k ≠ 9
    · rw [if_pos hp]
      exact token_char C k c n h6 hp.1.1 hp.1.2 hp.2.1 hp.2.2 h
    · rw [if_neg hp]
      by_cases h17 : k = 17
      · subst h17
        rw [if_pos rfl]
        exact token_17 C c n h
      · rw [if_neg h17]
        by_cases h16 : k = 16
        · subst h16
          rw [if_neg (by simp)]
          obtain ⟨l, hl⟩ : ∃ l, n.data.toList = l := ⟨_, rfl⟩
          have hn : n = ⟨l.toArray⟩ := by rw [← hl]
          rw [hl]
          have hb2 : l.length ≤ 2000000 := by
            have : n.size ≤ 2000000 := hb
            rw [hn] at this
            simpa [ByteArray.size] using this
          rw [hn]
          cases l with
          | nil => exact token_cs0 C c h
          | cons d r => exact token_cs C hC c d r (by simp at hb2; omega) h
        · rw [if_pos h16]
          exact token_q C k c n h6 hp h17 h16 h

end Go.Proofs.YtpcdbeicpmjooaaDoor
