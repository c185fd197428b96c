import Derived.Test.YticljfpippbkkaaMTF
/-
  Values of registers: are they right? Conditions: those that each theorem names.
-/
namespace Go.Proofs.Yticljfpippbkkaa
open Go.RowKit Go.Sp
variable {W w w' : World} {F A : HProp}

set_option maxRecDepth 100000 in
theorem notok_any (t : Tok) (w : World) : Calls Try.prog 89 #[Tok.val t] w fun e w' => e = .returned (.bool (!tokOK t)) ∧ Ext w w' := by
  have HT := Lib.hid (token_any t)
  have hs := (Sat.start w).alloc (.cells #[.int .i64 t.cat, .int .u8 t.chr.toNat, .string t.name] 28)
  have x0 := hs.cell (i := 0) rfl
  have x1 := hs.cell (i := 1) rfl
  have x2 := hs.cell (i := 2) rfl
  have HX := Lib.hid hs.r.toExt
  clear hs
  go_enter Try.func89, Try.ntmps89
  go_upto_region 1 with fail
  generalize w.alloc (.cells #[.int .i64 t.cat, .int .u8 t.chr.toNat, .string t.name] 28) = W1 at *
  generalize w.heap.size = bt at *
  go_wp2_with fail
  refine Calls.mono (HT.out _) ?_
  rintro e w2 ⟨rfl, hx⟩
  have HY := Lib.hid (HX.out.trans hx)
  clear hx
  go_wp2
  go_ret
  exact ⟨rfl, HY.out⟩

/-- where the first token lies that may not be kept -/
def badAt : List Tok → Nat → Int
  | [], _ => -1
  | t :: L, k => if tokOK t then badAt L (k + 1) else k
theorem badAt_drop (L : List Tok) (k : Nat) (h : k < L.length) : badAt (L.drop k) k = if tokOK L[k] then badAt (L.drop (k + 1)) (k + 1) else k := by
  rw [List.drop_eq_getElem_cons h, badAt]
theorem badAt_end (L : List Tok) (k : Nat) (h : L.length ≤ k) : badAt (L.drop k) k = -1 := by
  rw [List.drop_of_length_le h, badAt]
theorem badAt_all (L : List Tok) (k : Nat) : (0 ≤ badAt L k) ↔ L.all tokOK = false := by
  induction L generalizing k with
  | nil => simp [badAt]
  | cons t L ih =>
    rw [badAt]
    cases h : tokOK t
    · simp [h]
    · simp only [if_true, List.all_cons, h, Bool.true_and]; exact ih (k + 1)

abbrev notokV : Value := .func (.func 89) #[] #[]

set_option maxRecDepth 100000 in
set_option maxHeartbeats 4000000 in
theorem index_any (v : Value) (L : List Tok) (w : World) (hv : RdT w v L) (hl : L.length ≤ 1000000000) :
    Calls Try.prog 100 #[v, notokV] w fun e w' => e = .returned (.int .i64 (badAt L 0)) ∧ Ext w w' := by
  obtain ⟨a, cap, rfl⟩ := hv.val
  have HV := Lib.hid hv
  obtain ⟨n, hn⟩ : ∃ n, L.length = n := ⟨_, rfl⟩
  have HN := Lib.hid hn
  rw [hn] at hl HV
  rw [hn]
  obtain ⟨r, hr⟩ : ∃ r, badAt L 0 = r := ⟨_, rfl⟩
  rw [hr]
  have HR := Lib.hid hr
  clear hv hn hr
  go_enter Try.func100, Try.ntmps100
  go_wp2_with fail
  go_loopg [8] n (fun g s8 wx => ∃ k : Nat, k ≤ n ∧ g = n - k ∧ s8 = .int .i64 k ∧ r = badAt (L.drop k) k ∧ Ext w wx)
  case atStart => exact ⟨0, by omega, rfl, rfl, HR.out.symm, Ext.refl w⟩
  case round =>
    obtain ⟨k, hk, rfl, rfl, hb, hx⟩ := hrel
    have HX := Lib.hid hx
    have HB := Lib.hid hb
    clear hx hb
    by_cases hlt : k < n
    · have i1 : (k : Int) < (n : Int) := by omega
      have hkl : k < L.length := by rw [HN.out]; exact hlt
      obtain ⟨b', off, rfl, ⟨a0, a1, a2⟩, hb'⟩ := (HV.out.ext HX.out).at (i := k) hkl
      have HBD := Lib.hid (badAt_drop L k hkl)
      obtain ⟨t, ht⟩ : ∃ t, L[k] = t := ⟨_, rfl⟩
      rw [ht] at a0 a1 a2 HBD
      have hnt := notok_any t wr
      clear ht hkl
      by_cases ho : tokOK t = true
      · rw [ho] at hnt
        have HNT := Lib.hid hnt
        have HR2 := Lib.hid (show r = badAt (L.drop (k + 1)) (k + 1) by rw [HB.out, HBD.out, if_pos ho])
        clear hnt ho
        go_wp2_with fail
        refine Calls.mono HNT.out ?_
        rintro e w1 ⟨rfl, hx⟩
        have H1 := Lib.hid (HX.out.trans hx)
        clear hx a0 a1 a2 hb'
        go_wp2
        go_roundg (n - (k + 1))
        case measure => omega
        case rel => exact ⟨k + 1, by omega, rfl, by go_num, HR2.out, H1.out⟩
      · have ho2 : tokOK t = false := by simpa using ho
        rw [ho2] at hnt
        have HNT := Lib.hid hnt
        have HR2 := Lib.hid (show r = (k : Int) by rw [HB.out, HBD.out, if_neg ho])
        clear hnt ho ho2
        go_wp2_with fail
        refine Calls.mono HNT.out ?_
        rintro e w1 ⟨rfl, hx⟩
        have H1 := Lib.hid (HX.out.trans hx)
        clear hx a0 a1 a2 hb'
        go_wp2
        go_ret
        exact ⟨by rw [HR2.out]; rfl, H1.out⟩
    · have hkn : n = k := by omega
      subst hkn
      have HR2 := Lib.hid (show r = -1 by rw [HB.out, badAt_end L n (by rw [HN.out]; exact Nat.le_refl _)])
      go_wp2
      go_ret
      exact ⟨by rw [HR2.out]; rfl, HX.out⟩

set_option maxRecDepth 100000 in
theorem contains_any (v : Value) (L : List Tok) (w : World) (hv : RdT w v L) (hl : L.length ≤ 1000000000) :
    Calls Try.prog 88 #[v, notokV] w fun e w' => e = .returned (.bool (!L.all tokOK)) ∧ Ext w w' := by
  have HI := Lib.hid (index_any v L w hv hl)
  obtain ⟨a, cap, rfl⟩ := hv.val
  have hall := badAt_all L 0
  generalize badAt L 0 = r at *
  generalize L.length = n at *
  clear hv
  cases hq : L.all tokOK
  · rw [hq] at hall
    have h0 : 0 ≤ r := hall.2 rfl
    clear hall hq
    go_enter Try.func88, Try.ntmps88
    go_wp2_with fail
    refine Calls.mono HI.out ?_
    rintro e w1 ⟨rfl, hx⟩
    have H1 := Lib.hid hx
    clear hx
    go_wp2
    go_ret
    exact ⟨rfl, H1.out⟩
  · rw [hq] at hall
    have h0 : ¬ 0 ≤ r := fun h => by have := hall.1 h; cases this
    clear hall hq
    go_enter Try.func88, Try.ntmps88
    go_wp2_with fail
    refine Calls.mono HI.out ?_
    rintro e w1 ⟨rfl, hx⟩
    have H1 := Lib.hid hx
    clear hx
    go_wp2
    go_ret
    exact ⟨by have : decide (0 ≤ r) = false := decide_eq_false (by omega); simp [this], H1.out⟩

/-- is it a value of a class? -/
def rightM (c : Int) (v : RegS) : Bool :=
  if c = 1 then bareN v && withB v.n 2147483647
  else if c = 2 then bareN v && withB v.n 1073741823
  else if c = 3 then bareG v && (glueE v.g == 0)
  else if c = 4 then bareT v && (decide (v.toks.length ≤ 20000) && v.toks.all tokOK)
  else bareN v && decide (0 ≤ v.n ∧ v.n ≤ 15)

/-- a value as the program has it -/
def valA (v : RegS) (s : Value) : Value := .agg #[.int .i64 v.n, .int .i64 v.g.nat, .int .i64 v.g.stretch, .int .i64 v.g.shrink, .int .i64 v.g.so, .int .i64 v.g.ko, s]
abbrev valO (v : RegS) (s : Value) : Obj := .cells #[.int .i64 v.n, .int .i64 v.g.nat, .int .i64 v.g.stretch, .int .i64 v.g.shrink, .int .i64 v.g.so, .int .i64 v.g.ko, s] 59
theorem valAt_box {v : RegS} {s : Value} {b : Nat} (h : Sat W (pts b (valO v s) * A) w) (hr : RdT w s v.toks) : ValAt w b v s :=
  ⟨h.cell rfl, h.cell rfl, h.cell rfl, h.cell rfl, h.cell rfl, h.cell rfl, h.cell rfl, hr⟩


set_option maxRecDepth 100000 in
set_option maxHeartbeats 4000000 in
theorem right_count {v : RegS} {s : Value} (w : World) (hr : RdT w s v.toks) (c most : Int) (hc : c = 1 ∧ most = 2147483647 ∨ c = 2 ∧ most = 1073741823) :
    Calls Try.prog 63 #[valA v s, .int .i64 c] w fun e w' => e = .returned (.bool (bareN v && withB v.n most)) ∧ Ext w w' := by
  obtain ⟨n, ⟨g1, g2, g3, g4, g5⟩, L⟩ := v
  have hs0 := (Sat.start w).alloc (valO ⟨n, ⟨g1, g2, g3, g4, g5⟩, L⟩ s)
  have hva := valAt_box hs0 (hr.ext hs0.r.toExt)
  have HX := Lib.hid hs0.r.toExt
  have HS := Lib.hid hs0
  have HV := Lib.hid hva
  simp only [valA] at *
  clear hs0 hva hr
  obtain ⟨q, hq⟩ : ∃ q, bareN ⟨n, ⟨g1, g2, g3, g4, g5⟩, L⟩ = q := ⟨_, rfl⟩
  rw [hq]
  have HQ := Lib.hid hq
  clear hq
  rcases hc with ⟨rfl, rfl⟩ | ⟨rfl, rfl⟩
  all_goals
    cases q
    · go_enter Try.func63, Try.ntmps63
      go_upto_region 1 with fail
      generalize w.alloc (.cells #[.int .i64 n, .int .i64 g1, .int .i64 g2, .int .i64 g3, .int .i64 g4, .int .i64 g5, s] 59) = W1 at *
      generalize w.heap.size = bv at *
      have c0 := HV.out.c0
      have c1 := HV.out.c1
      have c2 := HV.out.c2
      have c3 := HV.out.c3
      have c4 := HV.out.c4
      have c5 := HV.out.c5
      have c6 := HV.out.c6
      simp only at c0 c1 c2 c3 c4 c5 c6
      have hb := bareN_any HV.out
      rw [HQ.out] at hb
      have HB := Lib.hid hb
      clear hb
      go_wp2_with fail
      refine Calls.mono HB.out ?_
      rintro e w' ⟨rfl, rfl⟩
      go_wp2
      go_ret
      exact ⟨rfl, HX.out⟩
    · go_enter Try.func63, Try.ntmps63
      go_upto_region 1 with fail
      generalize w.alloc (.cells #[.int .i64 n, .int .i64 g1, .int .i64 g2, .int .i64 g3, .int .i64 g4, .int .i64 g5, s] 59) = W1 at *
      generalize w.heap.size = bv at *
      have c0 := HV.out.c0
      have c1 := HV.out.c1
      have c2 := HV.out.c2
      have c3 := HV.out.c3
      have c4 := HV.out.c4
      have c5 := HV.out.c5
      have c6 := HV.out.c6
      simp only at c0 c1 c2 c3 c4 c5 c6
      have hb := bareN_any HV.out
      rw [HQ.out] at hb
      have HB := Lib.hid hb
      clear hb
      go_wp2_with fail
      refine Calls.mono HB.out ?_
      rintro e w' ⟨rfl, rfl⟩
      go_wp2_with fail
      refine Calls.mono (within_any _ _ (by omega) (by omega) _) ?_
      rintro e w' ⟨rfl, rfl⟩
      go_wp2
      go_ret
      exact ⟨rfl, HX.out⟩

end Go.Proofs.Yticljfpippbkkaa

/-
  Values of registers: are they right? Conditions: those that each theorem names.
-/
namespace Go.Proofs.Yticljfpippbkkaa
open Go.RowKit Go.Sp
variable {W w w' : World} {F A : HProp}


set_option maxRecDepth 100000 in
set_option maxHeartbeats 4000000 in
theorem right_code {v : RegS} {s : Value} (w : World) (hr : RdT w s v.toks) (c : Int) (h1 : c ≠ 1) (h2 : c ≠ 2) (h3 : c ≠ 3) (h4 : c ≠ 4) :
    Calls Try.prog 63 #[valA v s, .int .i64 c] w fun e w' => e = .returned (.bool (bareN v && decide (0 ≤ v.n ∧ v.n ≤ 15))) ∧ Ext w w' := by
  have q1 : (c == 1) = false := by simpa using h1
  have q2 : (c == 2) = false := by simpa using h2
  have q3 : (c == 3) = false := by simpa using h3
  have q4 : (c == 4) = false := by simpa using h4
  clear h1 h2 h3 h4
  obtain ⟨n, ⟨g1, g2, g3, g4, g5⟩, L⟩ := v
  have hs0 := (Sat.start w).alloc (valO ⟨n, ⟨g1, g2, g3, g4, g5⟩, L⟩ s)
  have hva := valAt_box hs0 (hr.ext hs0.r.toExt)
  have HX := Lib.hid hs0.r.toExt
  have HS := Lib.hid hs0
  have HV := Lib.hid hva
  simp only [valA] at *
  clear hs0 hva hr
  obtain ⟨q, hq⟩ : ∃ q, bareN ⟨n, ⟨g1, g2, g3, g4, g5⟩, L⟩ = q := ⟨_, rfl⟩
  rw [hq]
  have HQ := Lib.hid hq
  clear hq
  cases q
  · go_enter Try.func63, Try.ntmps63
    go_upto_region 1 with fail
    generalize w.alloc (.cells #[.int .i64 n, .int .i64 g1, .int .i64 g2, .int .i64 g3, .int .i64 g4, .int .i64 g5, s] 59) = W1 at *
    generalize w.heap.size = bv at *
    have c0 := HV.out.c0
    have c1 := HV.out.c1
    have c2 := HV.out.c2
    have c3 := HV.out.c3
    have c4 := HV.out.c4
    have c5 := HV.out.c5
    have c6 := HV.out.c6
    simp only at c0 c1 c2 c3 c4 c5 c6
    have hb := bareN_any HV.out
    rw [HQ.out] at hb
    have HB := Lib.hid hb
    clear hb
    go_wp2_with fail
    refine Calls.mono HB.out ?_
    rintro e w' ⟨rfl, rfl⟩
    go_wp2
    go_ret
    first | exact ⟨rfl, HX.out⟩ | exact ⟨by simp; omega, HX.out⟩
  · by_cases k1 : 0 ≤ n
    · by_cases k2 : n ≤ 15
      · rw [show decide (0 ≤ n ∧ n ≤ 15) = true by simp [k1, k2]]
        go_enter Try.func63, Try.ntmps63
        go_upto_region 1 with fail
        generalize w.alloc (.cells #[.int .i64 n, .int .i64 g1, .int .i64 g2, .int .i64 g3, .int .i64 g4, .int .i64 g5, s] 59) = W1 at *
        generalize w.heap.size = bv at *
        have c0 := HV.out.c0
        have c1 := HV.out.c1
        have c2 := HV.out.c2
        have c3 := HV.out.c3
        have c4 := HV.out.c4
        have c5 := HV.out.c5
        have c6 := HV.out.c6
        simp only at c0 c1 c2 c3 c4 c5 c6
        have hb := bareN_any HV.out
        rw [HQ.out] at hb
        have HB := Lib.hid hb
        clear hb
        go_wp2_with fail
        refine Calls.mono HB.out ?_
        rintro e w' ⟨rfl, rfl⟩
        go_wp2
        go_ret
        first | exact ⟨rfl, HX.out⟩ | exact ⟨by simp; omega, HX.out⟩
      · rw [show decide (0 ≤ n ∧ n ≤ 15) = false by simp only [decide_eq_false_iff_not]; omega]
        go_enter Try.func63, Try.ntmps63
        go_upto_region 1 with fail
        generalize w.alloc (.cells #[.int .i64 n, .int .i64 g1, .int .i64 g2, .int .i64 g3, .int .i64 g4, .int .i64 g5, s] 59) = W1 at *
        generalize w.heap.size = bv at *
        have c0 := HV.out.c0
        have c1 := HV.out.c1
        have c2 := HV.out.c2
        have c3 := HV.out.c3
        have c4 := HV.out.c4
        have c5 := HV.out.c5
        have c6 := HV.out.c6
        simp only at c0 c1 c2 c3 c4 c5 c6
        have hb := bareN_any HV.out
        rw [HQ.out] at hb
        have HB := Lib.hid hb
        clear hb
        go_wp2_with fail
        refine Calls.mono HB.out ?_
        rintro e w' ⟨rfl, rfl⟩
        go_wp2
        go_ret
        first | exact ⟨rfl, HX.out⟩ | exact ⟨by simp; omega, HX.out⟩
    · rw [show decide (0 ≤ n ∧ n ≤ 15) = false by simp only [decide_eq_false_iff_not]; omega]
      go_enter Try.func63, Try.ntmps63
      go_upto_region 1 with fail
      generalize w.alloc (.cells #[.int .i64 n, .int .i64 g1, .int .i64 g2, .int .i64 g3, .int .i64 g4, .int .i64 g5, s] 59) = W1 at *
      generalize w.heap.size = bv at *
      have c0 := HV.out.c0
      have c1 := HV.out.c1
      have c2 := HV.out.c2
      have c3 := HV.out.c3
      have c4 := HV.out.c4
      have c5 := HV.out.c5
      have c6 := HV.out.c6
      simp only at c0 c1 c2 c3 c4 c5 c6
      have hb := bareN_any HV.out
      rw [HQ.out] at hb
      have HB := Lib.hid hb
      clear hb
      go_wp2_with fail
      refine Calls.mono HB.out ?_
      rintro e w' ⟨rfl, rfl⟩
      go_wp2
      go_ret
      first | exact ⟨rfl, HX.out⟩ | exact ⟨by simp; omega, HX.out⟩

set_option maxRecDepth 100000 in
set_option maxHeartbeats 4000000 in
theorem right_skip {v : RegS} {s : Value} (w : World) (hr : RdT w s v.toks) :
    Calls Try.prog 63 #[valA v s, .int .i64 3] w fun e w' => e = .returned (.bool (bareG v && (glueE v.g == 0))) ∧ Ext w w' := by
  obtain ⟨n, ⟨g1, g2, g3, g4, g5⟩, L⟩ := v
  have hs0 := (Sat.start w).alloc (valO ⟨n, ⟨g1, g2, g3, g4, g5⟩, L⟩ s)
  have hva := valAt_box hs0 (hr.ext hs0.r.toExt)
  have HX := Lib.hid hs0.r.toExt
  have HS := Lib.hid hs0
  have HV := Lib.hid hva
  simp only [valA] at *
  clear hs0 hva hr
  obtain ⟨q, hq⟩ : ∃ q, bareG ⟨n, ⟨g1, g2, g3, g4, g5⟩, L⟩ = q := ⟨_, rfl⟩
  rw [hq]
  have HQ := Lib.hid hq
  clear hq
  have HGL := Lib.hid (fun w => glue_any ⟨g1, g2, g3, g4, g5⟩ w)
  obtain ⟨z, hz⟩ : ∃ z, glueE ⟨g1, g2, g3, g4, g5⟩ = z := ⟨_, rfl⟩
  rw [hz] at HGL
  rw [hz]
  clear hz
  cases q
  · go_enter Try.func63, Try.ntmps63
    go_upto_region 1 with fail
    generalize w.alloc (.cells #[.int .i64 n, .int .i64 g1, .int .i64 g2, .int .i64 g3, .int .i64 g4, .int .i64 g5, s] 59) = W1 at *
    generalize w.heap.size = bv at *
    have c0 := HV.out.c0
    have c1 := HV.out.c1
    have c2 := HV.out.c2
    have c3 := HV.out.c3
    have c4 := HV.out.c4
    have c5 := HV.out.c5
    have c6 := HV.out.c6
    simp only at c0 c1 c2 c3 c4 c5 c6
    have hb := bareG_any HV.out
    rw [HQ.out] at hb
    have HB := Lib.hid hb
    clear hb
    go_wp2_with fail
    refine Calls.mono HB.out ?_
    rintro e w' ⟨rfl, rfl⟩
    go_wp2
    go_ret
    first | exact ⟨rfl, HX.out⟩ | exact ⟨by simp; omega, HX.out⟩
  · go_enter Try.func63, Try.ntmps63
    go_upto_region 1 with fail
    generalize w.alloc (.cells #[.int .i64 n, .int .i64 g1, .int .i64 g2, .int .i64 g3, .int .i64 g4, .int .i64 g5, s] 59) = W1 at *
    generalize w.heap.size = bv at *
    have c0 := HV.out.c0
    have c1 := HV.out.c1
    have c2 := HV.out.c2
    have c3 := HV.out.c3
    have c4 := HV.out.c4
    have c5 := HV.out.c5
    have c6 := HV.out.c6
    simp only at c0 c1 c2 c3 c4 c5 c6
    have hb := bareG_any HV.out
    rw [HQ.out] at hb
    have HB := Lib.hid hb
    clear hb
    go_wp2_with fail
    refine Calls.mono HB.out ?_
    rintro e w' ⟨rfl, rfl⟩
    go_wp2_with fail
    refine Calls.mono (HGL.out _) ?_
    rintro e w2 ⟨rfl, hx⟩
    have H2 := Lib.hid (HX.out.trans hx)
    clear hx c0 c1 c2 c3 c4 c5 c6
    go_wp2
    go_ret
    exact ⟨rfl, H2.out⟩

set_option maxRecDepth 100000 in
set_option maxHeartbeats 4000000 in
theorem right_toks {v : RegS} {s : Value} (w : World) (hr : RdT w s v.toks) :
    Calls Try.prog 63 #[valA v s, .int .i64 4] w fun e w' => e = .returned (.bool (bareT v && (decide (v.toks.length ≤ 20000) && v.toks.all tokOK))) ∧ Ext w w' := by
  obtain ⟨sa, sc, rfl⟩ := hr.val
  obtain ⟨n, ⟨g1, g2, g3, g4, g5⟩, L⟩ := v
  have hs0 := (Sat.start w).alloc (valO ⟨n, ⟨g1, g2, g3, g4, g5⟩, L⟩ (.slice sa L.length sc))
  have hva := valAt_box hs0 (hr.ext hs0.r.toExt)
  have HX := Lib.hid hs0.r.toExt
  have HV := Lib.hid hva
  have HCT := Lib.hid (fun (hl : L.length ≤ 1000000000) => contains_any _ L _ (hr.ext hs0.r.toExt) hl)
  simp only [valA] at *
  clear hs0 hva hr
  obtain ⟨q, hq⟩ : ∃ q, bareT ⟨n, ⟨g1, g2, g3, g4, g5⟩, L⟩ = q := ⟨_, rfl⟩
  rw [hq]
  have HQ := Lib.hid hq
  clear hq
  obtain ⟨k, hk⟩ : ∃ k, L.length = k := ⟨_, rfl⟩
  rw [hk] at HV HCT HX
  rw [hk]
  obtain ⟨al, hal⟩ : ∃ al, L.all tokOK = al := ⟨_, rfl⟩
  rw [hal] at HCT
  rw [hal]
  clear hal hk
  obtain ⟨s, hs⟩ : ∃ s, Value.slice sa k sc = s := ⟨_, rfl⟩
  cases q
  · rw [hs] at HV HX ⊢
    clear HCT hs
    go_enter Try.func63, Try.ntmps63
    go_upto_region 1 with fail
    generalize w.alloc (.cells #[.int .i64 n, .int .i64 g1, .int .i64 g2, .int .i64 g3, .int .i64 g4, .int .i64 g5, s] 59) = W1 at *
    generalize w.heap.size = bv at *
    have c0 := HV.out.c0
    have c1 := HV.out.c1
    have c2 := HV.out.c2
    have c3 := HV.out.c3
    have c4 := HV.out.c4
    have c5 := HV.out.c5
    have c6 := HV.out.c6
    simp only at c0 c1 c2 c3 c4 c5 c6
    have hb := bareT_any HV.out
    rw [HQ.out] at hb
    have HB := Lib.hid hb
    clear hb
    go_wp2_with fail
    refine Calls.mono HB.out ?_
    rintro e w' ⟨rfl, rfl⟩
    go_wp2
    go_ret
    first | exact ⟨rfl, HX.out⟩ | exact ⟨by simp; omega, HX.out⟩
  · clear hs
    by_cases hk20 : k ≤ 20000
    · rw [show decide (k ≤ 20000) = true by simp [hk20]]
      have j1 : (k : Int) ≤ 20000 := by omega
      have HC2 := Lib.hid (HCT.out (by omega))
      clear HCT
      go_enter Try.func63, Try.ntmps63
      go_upto_region 1 with fail
      generalize w.alloc (.cells #[.int .i64 n, .int .i64 g1, .int .i64 g2, .int .i64 g3, .int .i64 g4, .int .i64 g5, .slice sa k sc] 59) = W1 at *
      generalize w.heap.size = bv at *
      have c6 := HV.out.c6
      have hb := bareT_any HV.out
      rw [HQ.out] at hb
      have HB := Lib.hid hb
      clear hb
      go_wp2_with fail
      refine Calls.mono HB.out ?_
      rintro e w' ⟨rfl, rfl⟩
      go_wp2_with fail
      refine Calls.mono HC2.out ?_
      rintro e w2 ⟨rfl, hx⟩
      have H2 := Lib.hid (HX.out.trans hx)
      clear hx c6
      go_wp2
      go_ret
      first | exact ⟨rfl, H2.out⟩ | exact ⟨by simp, H2.out⟩
    · rw [show decide (k ≤ 20000) = false by simp; omega]
      have j1 : ¬ (k : Int) ≤ 20000 := by omega
      clear HCT
      go_enter Try.func63, Try.ntmps63
      go_upto_region 1 with fail
      generalize w.alloc (.cells #[.int .i64 n, .int .i64 g1, .int .i64 g2, .int .i64 g3, .int .i64 g4, .int .i64 g5, .slice sa k sc] 59) = W1 at *
      generalize w.heap.size = bv at *
      have c6 := HV.out.c6
      have hb := bareT_any HV.out
      rw [HQ.out] at hb
      have HB := Lib.hid hb
      clear hb
      go_wp2_with fail
      refine Calls.mono HB.out ?_
      rintro e w' ⟨rfl, rfl⟩
      go_wp2
      go_ret
      first | exact ⟨rfl, HX.out⟩ | exact ⟨by simp; omega, HX.out⟩

theorem right_any {v : RegS} {s : Value} (w : World) (hr : RdT w s v.toks) (c : Int) :
    Calls Try.prog 63 #[valA v s, .int .i64 c] w fun e w' => e = .returned (.bool (rightM c v)) ∧ Ext w w' := by
  by_cases h1 : c = 1
  · rw [rightM, if_pos h1]; exact right_count w hr c _ (.inl ⟨h1, rfl⟩)
  · by_cases h2 : c = 2
    · rw [rightM, if_neg h1, if_pos h2]; exact right_count w hr c _ (.inr ⟨h2, rfl⟩)
    · by_cases h3 : c = 3
      · rw [rightM, if_neg h1, if_neg h2, if_pos h3, h3]; exact right_skip w hr
      · by_cases h4 : c = 4
        · rw [rightM, if_neg h1, if_neg h2, if_neg h3, if_pos h4, h4]; exact right_toks w hr
        · rw [rightM, if_neg h1, if_neg h2, if_neg h3, if_neg h4]; exact right_code w hr c h1 h2 h3 h4

end Go.Proofs.Yticljfpippbkkaa

/-
  A table: registers are told. Conditions: those that each theorem names.
-/
namespace Go.Proofs.Yticljfpippbkkaa
open Go.RowKit Go.Sp
variable {W w w' : World} {F A : HProp}

theorem wrongE_ok {c i : Nat} (hc : 1 ≤ c ∧ c ≤ 5) (hi : i < 256) : wrongE (c : Int) (i : Int) = 0 := by
  rw [wrongE, if_neg (by omega), if_neg (by omega)]

/-- the cells of a register -/
structure RegAt (w : World) (b o : Nat) (v : RegV) : Prop where
  c0 : w.cell? ⟨b, o, none⟩ = some (.int .i64 v.n)
  c1 : w.cell? ⟨b, o + 1, none⟩ = some (.int .i64 v.g.nat)
  c2 : w.cell? ⟨b, o + 2, none⟩ = some (.int .i64 v.g.stretch)
  c3 : w.cell? ⟨b, o + 3, none⟩ = some (.int .i64 v.g.shrink)
  c4 : w.cell? ⟨b, o + 4, none⟩ = some (.int .i64 v.g.so)
  c5 : w.cell? ⟨b, o + 5, none⟩ = some (.int .i64 v.g.ko)
  c6 : w.cell? ⟨b, o + 6, none⟩ = some v.s

theorem reg_at {b nm : Nat} {R : Nat → RegV} {gs lt : Value} (h : Sat W (pts b (.cells (tabCells nm R gs lt) 64) * A) w) {c i : Nat} (hc : c ≤ 5) (hi : i < 256) :
    RegAt w b (1 + c * 1792 + i * 7) (R (c * 256 + i)) := by
  have hj : c * 256 + i < 1536 := by omega
  have e : ∀ o, 1 + c * 1792 + i * 7 + o = 1 + (c * 256 + i) * 7 + o := fun o => by omega
  refine ⟨?_, ?_, ?_, ?_, ?_, ?_, ?_⟩
  · have := h.cell (i := 1 + (c * 256 + i) * 7 + 0) (tab_reg nm R gs lt hj (by omega))
    rw [← e] at this; exact this
  · have := h.cell (i := 1 + (c * 256 + i) * 7 + 1) (tab_reg nm R gs lt hj (by omega))
    rw [← e] at this; exact this
  · have := h.cell (i := 1 + (c * 256 + i) * 7 + 2) (tab_reg nm R gs lt hj (by omega))
    rw [← e] at this; exact this
  · have := h.cell (i := 1 + (c * 256 + i) * 7 + 3) (tab_reg nm R gs lt hj (by omega))
    rw [← e] at this; exact this
  · have := h.cell (i := 1 + (c * 256 + i) * 7 + 4) (tab_reg nm R gs lt hj (by omega))
    rw [← e] at this; exact this
  · have := h.cell (i := 1 + (c * 256 + i) * 7 + 5) (tab_reg nm R gs lt hj (by omega))
    rw [← e] at this; exact this
  · have := h.cell (i := 1 + (c * 256 + i) * 7 + 6) (tab_reg nm R gs lt hj (by omega))
    rw [← e] at this; exact this

theorem set7 (a0 a1 a2 a3 a4 a5 a6 b0 b1 b2 b3 b4 b5 b6 : Value) : (((((((#[a0, a1, a2, a3, a4, a5, a6] : Array Value).setIfInBounds 0 b0).setIfInBounds 1 b1).setIfInBounds 2 b2).setIfInBounds 3 b3).setIfInBounds 4 b4).setIfInBounds 5 b5).setIfInBounds 6 b6 = #[b0, b1, b2, b3, b4, b5, b6] := by simp
/-- a value's seven cells, set -/
theorem sat_set7 {b : Nat} {e : TypeId} {f : Nat × Nat} {a0 a1 a2 a3 a4 a5 a6 : Value} (h : Sat W (pts b (.cells #[a0, a1, a2, a3, a4, a5, a6] e f) * A) w) (b0 b1 b2 b3 b4 b5 b6 : Value) :
    Sat W (pts b (.cells #[b0, b1, b2, b3, b4, b5, b6] e f) * A) (((((((w.setCell ⟨b, 0, none⟩ b0).setCell ⟨b, 1, none⟩ b1).setCell ⟨b, 2, none⟩ b2).setCell ⟨b, 3, none⟩ b3).setCell ⟨b, 4, none⟩ b4).setCell ⟨b, 5, none⟩ b5).setCell ⟨b, 6, none⟩ b6) := by
  have h2 := ((((((h.set (i := 0) (v := b0)).set (i := 1) (v := b1)).set (i := 2) (v := b2)).set (i := 3) (v := b3)).set (i := 4) (v := b4)).set (i := 5) (v := b5)).set (i := 6) (v := b6)
  rw [set7] at h2
  exact h2

abbrev zeroVal : Obj := .cells #[.int .i64 0, .int .i64 0, .int .i64 0, .int .i64 0, .int .i64 0, .int .i64 0, .slice none 0 0] 59

set_option maxRecDepth 100000 in
set_option maxHeartbeats 8000000 in
theorem get_any {b N : Nat} {S : TabS} {c i : Nat} (hc : 1 ≤ c ∧ c ≤ 5) (hi : i < 256) (h : TabAt W F b N S w) :
    Calls Try.prog 45 #[.pointer (some ⟨b, 0, none⟩), .int .i64 c, .int .i64 i] w fun e w' => ∃ u, e = .returned (.tuple #[valA (S.regs (c * 256 + i)) u, .int .i64 0]) ∧ TabAt W (rowT u (S.regs (c * 256 + i)).toks * F) b N S w' := by
  have hz := h.allocD (o := .cells #[.int .i64 0, .int .i64 0, .int .i64 0, .int .i64 0, .int .i64 0, .int .i64 0, .slice none 0 0] 59)
  have HW := Lib.hid (wrong_any (c : Int) (i : Int) hz)
  rw [wrongE_ok hc hi] at HW
  obtain ⟨m, nm, gs, lt, R, V, hT, hs⟩ := h
  obtain ⟨hr, hl⟩ := hT.1 (c * 256 + i) (by omega)
  have hrd := hs.r.ro_rd hr.2.2
  have HK := Lib.hid (show ∀ (u : Value) (L : List Tok) (w' : World), Sat W (rowT u L * (pts b (.cells (tabCells nm R gs lt) 64) * (roH m * (mapH Value.string Mean.val nm N S.names * (row gs V.length 143 4 (flatG V) * (grpsH m V S.groups * F)))))) w' → TabAt W (rowT u L * F) b N S w' from
    fun u L w' h => ⟨m, nm, gs, lt, R, V, hT, h.of_eq (by ac_rfl)⟩)
  have hs0 := hs.alloc zeroVal
  have ra := reg_at hs0.r hc.2 hi
  have lb := hs0.r.lt
  obtain ⟨c0, c1, c2, c3, c4, c5, c6⟩ := ra
  obtain ⟨hr1, hr2, hr3⟩ := hr
  rw [hr1] at c0
  rw [hr2] at c1 c2 c3 c4 c5
  generalize S.regs (c * 256 + i) = z at *
  obtain ⟨zn, ⟨z1, z2, z3, z4, z5⟩, L⟩ := z
  simp only at c0 c1 c2 c3 c4 c5 hl hr3 hrd
  generalize (R (c * 256 + i)).s = sv at *
  obtain ⟨sa, sc, rfl⟩ := hrd.val
  have HR3 := Lib.hid hr3
  have HL := Lib.hid hl
  obtain ⟨k, hk⟩ : ∃ k, L.length = k := ⟨_, rfl⟩
  have HKK := Lib.hid hk
  rw [hk] at c6 HR3
  have HS := Lib.hid hs0
  have i1 : (c : Int) < 6 := by omega
  have i2 : (i : Int) < 256 := by omega
  clear hz hs0 hs hT hr1 hr2 hr3 hrd hl hk
  go_enter Try.func45, Try.ntmps45
  go_wp2_with fail
  refine Calls.mono HW.out ?_
  rintro e w' ⟨rfl, rfl⟩
  go_upto_region 4 with fail
  generalize w.alloc (.cells #[.int .i64 0, .int .i64 0, .int .i64 0, .int .i64 0, .int .i64 0, .int .i64 0, .slice none 0 0] 59) = W1 at *
  generalize w.heap.size = bz at *
  have hv0 := HS.out.alloc (.cells #[.int .i64 zn, .int .i64 z1, .int .i64 z2, .int .i64 z3, .int .i64 z4, .int .i64 z5, .slice sa k sc] 59)
  have HCL := Lib.hid (clone_any (.slice sa k sc) L (fun w' h => h.r.r.r.ro_rd HR3.out) (by have := HL.out; omega) hv0)
  have v6 := hv0.cell (i := 6) rfl
  have lv := hv0.lt
  clear hv0
  generalize hbv : W1.heap.size = bv at *
  go_upto_region 5 with fail
  generalize W1.alloc (.cells #[.int .i64 zn, .int .i64 z1, .int .i64 z2, .int .i64 z3, .int .i64 z4, .int .i64 z5, .slice sa k sc] 59) = W2 at *
  clear hbv c0 c1 c2 c3 c4 c5 c6
  go_wp2_with fail
  refine Calls.mono HCL.out ?_
  rintro e w3 ⟨u, rfl, h3⟩
  obtain ⟨ua, uc, rfl, -⟩ := (rowT_rd h3).capd
  rw [HKK.out] at h3
  have e0 := h3.r.cell (i := 0) rfl
  have e1 := h3.r.cell (i := 1) rfl
  have e2 := h3.r.cell (i := 2) rfl
  have e3 := h3.r.cell (i := 3) rfl
  have e4 := h3.r.cell (i := 4) rfl
  have e5 := h3.r.cell (i := 5) rfl
  have e6 := h3.r.cell (i := 6) rfl
  have fe := h3.r.free (i := 6)
  have le := h3.r.lt
  have y0 := h3.r.r.cell (i := 0) rfl
  have y1 := h3.r.r.cell (i := 1) rfl
  have y2 := h3.r.r.cell (i := 2) rfl
  have y3 := h3.r.r.cell (i := 3) rfl
  have y4 := h3.r.r.cell (i := 4) rfl
  have y5 := h3.r.r.cell (i := 5) rfl
  have y6 := h3.r.r.cell (i := 6) rfl
  have f0 := h3.r.r.free (i := 0)
  have f1 := h3.r.r.free (i := 1)
  have f2 := h3.r.r.free (i := 2)
  have f3 := h3.r.r.free (i := 3)
  have f4 := h3.r.r.free (i := 4)
  have f5 := h3.r.r.free (i := 5)
  have f6 := h3.r.r.free (i := 6)
  have lz := h3.r.r.lt
  have n1 := h3.r.ne
  have n2 := n1.symm
  rw [HKK.out]
  have H3 := Lib.hid h3
  clear h3 v6
  go_wp2
  have g1 := H3.out.rot.set (i := 6) (v := .slice ua k uc)
  have g2 := g1.of_eq (show _ = pts bz zeroVal * (pts bv (.cells ((#[.int .i64 zn, .int .i64 z1, .int .i64 z2, .int .i64 z3, .int .i64 z4, .int .i64 z5, .slice sa k sc] : Array Value).setIfInBounds 6 (.slice ua k uc)) 59) * (rowT (.slice ua k uc) L * (pts b (.cells (tabCells nm R gs lt) 64) * (roH m * (mapH Value.string Mean.val nm N S.names * (row gs V.length 143 4 (flatG V) * (grpsH m V S.groups * F))))))) by ac_rfl)
  have g3 := sat_set7 g2 (.int .i64 zn) (.int .i64 z1) (.int .i64 z2) (.int .i64 z3) (.int .i64 z4) (.int .i64 z5) (.slice ua k uc)
  have G3 := Lib.hid g3
  have w0 := g3.cell (i := 0) rfl
  have w1 := g3.cell (i := 1) rfl
  have w2 := g3.cell (i := 2) rfl
  have w3 := g3.cell (i := 3) rfl
  have w4 := g3.cell (i := 4) rfl
  have w5 := g3.cell (i := 5) rfl
  have w6 := g3.cell (i := 6) rfl
  clear g1 g2 g3
  (try simp only [Exit.inBlock, Exit.then])
  refine bodyPost_ret (v := .tuple #[valA ⟨zn, ⟨z1, z2, z3, z4, z5⟩, L⟩ (.slice ua k uc), .int .i64 0]) (by unfold results valA; go_simp) rfl ?_
  exact ⟨_, rfl, HK.out _ _ _ (G3.out.r.r)⟩
end Go.Proofs.Yticljfpippbkkaa
