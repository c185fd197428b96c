
/-
  Values of registers: are they right? Conditions: those that each theorem names.
-/
import Derived.Test.YtebggkgciocciaaGreatTabI
namespace Go.Proofs.YtebggkgciocciaaGreat
open Go.RowKit Go.Sp
variable {W w w' : World} {F A : HProp}

set_option maxRecDepth 100000 in
theorem notok_any (t : Tok) (w : World) : Calls Tryz.prog 75 #[Tok.val t] w fun e w' => e = .returned (.bool (!tokOK t)) ∧ Ext w w' := by
  have HT := Lib.hid (token_any t)
  have hs := (Sat.start w).alloc (.cells #[.int .i64 t.cat, .int .u8 t.chr.toNat, .string t.name] 40)
  have x0 := hs.cell (i := 0) rfl
  have x1 := hs.cell (i := 1) rfl
  have x2 := hs.cell (i := 2) rfl
  have HX := Lib.hid hs.r.toExt
  clear hs
  go_enter Tryz.func75, Tryz.ntmps75
  go_upto_region 1 with fail
  generalize w.alloc (.cells #[.int .i64 t.cat, .int .u8 t.chr.toNat, .string t.name] 40) = W1 at *
  generalize w.heap.size = bt at *
  go_wp2_with fail
  refine Calls.mono (HT.out _) ?_
  rintro e w2 ⟨rfl, hx⟩
  have HY := Lib.hid (HX.out.trans hx)
  clear hx
  go_wp2
  go_ret
  exact ⟨rfl, HY.out⟩

/-- where the first token lies that may not be kept -/
def badAt : List Tok → Nat → Int
  | [], _ => -1
  | t :: L, k => if tokOK t then badAt L (k + 1) else k
theorem badAt_drop (L : List Tok) (k : Nat) (h : k < L.length) : badAt (L.drop k) k = if tokOK L[k] then badAt (L.drop (k + 1)) (k + 1) else k := by
  rw [List.drop_eq_getElem_cons h, badAt]
theorem badAt_end (L : List Tok) (k : Nat) (h : L.length ≤ k) : badAt (L.drop k) k = -1 := by
  rw [List.drop_of_length_le h, badAt]
theorem badAt_all (L : List Tok) (k : Nat) : (0 ≤ badAt L k) ↔ L.all tokOK = false := by
  induction L generalizing k with
  | nil => simp [badAt]
  | cons t L ih =>
    rw [badAt]
    cases h : tokOK t
    · simp [h]
    · simp only [if_true, List.all_cons, h, Bool.true_and]; exact ih (k + 1)

abbrev notokV : Value := .func (.func 75) #[] #[]

set_option maxRecDepth 100000 in
set_option maxHeartbeats 4000000 in
theorem index_any (v : Value) (L : List Tok) (w : World) (hv : RdT w v L) (hl : L.length ≤ 1000000000) :
    Calls Tryz.prog 89 #[v, notokV] w fun e w' => e = .returned (.int .i64 (badAt L 0)) ∧ Ext w w' := by
  obtain ⟨a, cap, rfl⟩ := hv.val
  have HV := Lib.hid hv
  obtain ⟨n, hn⟩ : ∃ n, L.length = n := ⟨_, rfl⟩
  have HN := Lib.hid hn
  rw [hn] at hl HV
  rw [hn]
  obtain ⟨r, hr⟩ : ∃ r, badAt L 0 = r := ⟨_, rfl⟩
  rw [hr]
  have HR := Lib.hid hr
  clear hv hn hr
  go_enter Tryz.func89, Tryz.ntmps89
  go_wp2_with fail
  go_loopg [8] n (fun g s8 wx => ∃ k : Nat, k ≤ n ∧ g = n - k ∧ s8 = .int .i64 k ∧ r = badAt (L.drop k) k ∧ Ext w wx)
  case atStart => exact ⟨0, by omega, rfl, rfl, HR.out.symm, Ext.refl w⟩
  case round =>
    obtain ⟨k, hk, rfl, rfl, hb, hx⟩ := hrel
    have HX := Lib.hid hx
    have HB := Lib.hid hb
    clear hx hb
    by_cases hlt : k < n
    · have i1 : (k : Int) < (n : Int) := by omega
      have hkl : k < L.length := by rw [HN.out]; exact hlt
      obtain ⟨b', off, rfl, ⟨a0, a1, a2⟩, hb'⟩ := (HV.out.ext HX.out).at (i := k) hkl
      have HBD := Lib.hid (badAt_drop L k hkl)
      obtain ⟨t, ht⟩ : ∃ t, L[k] = t := ⟨_, rfl⟩
      rw [ht] at a0 a1 a2 HBD
      have hnt := notok_any t wr
      clear ht hkl
      by_cases ho : tokOK t = true
      · rw [ho] at hnt
        have HNT := Lib.hid hnt
        have HR2 := Lib.hid (show r = badAt (L.drop (k + 1)) (k + 1) by rw [HB.out, HBD.out, if_pos ho])
        clear hnt ho
        go_wp2_with fail
        refine Calls.mono HNT.out ?_
        rintro e w1 ⟨rfl, hx⟩
        have H1 := Lib.hid (HX.out.trans hx)
        clear hx a0 a1 a2 hb'
        go_wp2
        go_roundg (n - (k + 1))
        case measure => omega
        case rel => exact ⟨k + 1, by omega, rfl, by go_num, HR2.out, H1.out⟩
      · have ho2 : tokOK t = false := by simpa using ho
        rw [ho2] at hnt
        have HNT := Lib.hid hnt
        have HR2 := Lib.hid (show r = (k : Int) by rw [HB.out, HBD.out, if_neg ho])
        clear hnt ho ho2
        go_wp2_with fail
        refine Calls.mono HNT.out ?_
        rintro e w1 ⟨rfl, hx⟩
        have H1 := Lib.hid (HX.out.trans hx)
        clear hx a0 a1 a2 hb'
        go_wp2
        go_ret
        exact ⟨by rw [HR2.out]; rfl, H1.out⟩
    · have hkn : n = k := by omega
      subst hkn
      have HR2 := Lib.hid (show r = -1 by rw [HB.out, badAt_end L n (by rw [HN.out]; exact Nat.le_refl _)])
      go_wp2
      go_ret
      exact ⟨by rw [HR2.out]; rfl, HX.out⟩

set_option maxRecDepth 100000 in
theorem contains_any (v : Value) (L : List Tok) (w : World) (hv : RdT w v L) (hl : L.length ≤ 1000000000) :
    Calls Tryz.prog 74 #[v, notokV] w fun e w' => e = .returned (.bool (!L.all tokOK)) ∧ Ext w w' := by
  have HI := Lib.hid (index_any v L w hv hl)
  obtain ⟨a, cap, rfl⟩ := hv.val
  have hall := badAt_all L 0
  generalize badAt L 0 = r at *
  generalize L.length = n at *
  clear hv
  cases hq : L.all tokOK
  · rw [hq] at hall
    have h0 : 0 ≤ r := hall.2 rfl
    clear hall hq
    go_enter Tryz.func74, Tryz.ntmps74
    go_wp2_with fail
    refine Calls.mono HI.out ?_
    rintro e w1 ⟨rfl, hx⟩
    have H1 := Lib.hid hx
    clear hx
    go_wp2
    go_ret
    exact ⟨rfl, H1.out⟩
  · rw [hq] at hall
    have h0 : ¬ 0 ≤ r := fun h => by have := hall.1 h; cases this
    clear hall hq
    go_enter Tryz.func74, Tryz.ntmps74
    go_wp2_with fail
    refine Calls.mono HI.out ?_
    rintro e w1 ⟨rfl, hx⟩
    have H1 := Lib.hid hx
    clear hx
    go_wp2
    go_ret
    exact ⟨by have : decide (0 ≤ r) = false := decide_eq_false (by omega); simp [this], H1.out⟩

/-- is it a value of a class? -/
def rightM (c : Int) (v : RegS) : Bool :=
  if c = 1 then bareN v && withB v.n 2147483647
  else if c = 2 then bareN v && withB v.n 1073741823
  else if c = 3 then bareG v && (glueE v.g == 0)
  else if c = 4 then bareT v && (decide (v.toks.length ≤ 20000) && v.toks.all tokOK)
  else bareN v && decide (0 ≤ v.n ∧ v.n ≤ 15)

/-- a value as the program has it -/
def valA (v : RegS) (s : Value) : Value := .agg #[.int .i64 v.n, .int .i64 v.g.nat, .int .i64 v.g.stretch, .int .i64 v.g.shrink, .int .i64 v.g.so, .int .i64 v.g.ko, s]
abbrev valO (v : RegS) (s : Value) : Obj := .cells #[.int .i64 v.n, .int .i64 v.g.nat, .int .i64 v.g.stretch, .int .i64 v.g.shrink, .int .i64 v.g.so, .int .i64 v.g.ko, s] 29
theorem valAt_box {v : RegS} {s : Value} {b : Nat} (h : Sat W (pts b (valO v s) * A) w) (hr : RdT w s v.toks) : ValAt w b v s :=
  ⟨h.cell rfl, h.cell rfl, h.cell rfl, h.cell rfl, h.cell rfl, h.cell rfl, h.cell rfl, hr⟩


set_option maxRecDepth 100000 in
set_option maxHeartbeats 4000000 in
theorem right_count {v : RegS} {s : Value} (w : World) (hr : RdT w s v.toks) (c most : Int) (hc : c = 1 ∧ most = 2147483647 ∨ c = 2 ∧ most = 1073741823) :
    Calls Tryz.prog 50 #[valA v s, .int .i64 c] w fun e w' => e = .returned (.bool (bareN v && withB v.n most)) ∧ Ext w w' := by
  obtain ⟨n, ⟨g1, g2, g3, g4, g5⟩, L⟩ := v
  have hs0 := (Sat.start w).alloc (valO ⟨n, ⟨g1, g2, g3, g4, g5⟩, L⟩ s)
  have hva := valAt_box hs0 (hr.ext hs0.r.toExt)
  have HX := Lib.hid hs0.r.toExt
  have HS := Lib.hid hs0
  have HV := Lib.hid hva
  simp only [valA] at *
  clear hs0 hva hr
  obtain ⟨q, hq⟩ : ∃ q, bareN ⟨n, ⟨g1, g2, g3, g4, g5⟩, L⟩ = q := ⟨_, rfl⟩
  rw [hq]
  have HQ := Lib.hid hq
  clear hq
  rcases hc with ⟨rfl, rfl⟩ | ⟨rfl, rfl⟩
  all_goals
    cases q
    · go_enter Tryz.func50, Tryz.ntmps50
      go_upto_region 1 with fail
      generalize w.alloc (.cells #[.int .i64 n, .int .i64 g1, .int .i64 g2, .int .i64 g3, .int .i64 g4, .int .i64 g5, s] 29) = W1 at *
      generalize w.heap.size = bv at *
      have c0 := HV.out.c0
      have c1 := HV.out.c1
      have c2 := HV.out.c2
      have c3 := HV.out.c3
      have c4 := HV.out.c4
      have c5 := HV.out.c5
      have c6 := HV.out.c6
      simp only at c0 c1 c2 c3 c4 c5 c6
      have hb := bareN_any HV.out
      rw [HQ.out] at hb
      have HB := Lib.hid hb
      clear hb
      go_wp2_with fail
      refine Calls.mono HB.out ?_
      rintro e w' ⟨rfl, rfl⟩
      go_wp2
      go_ret
      exact ⟨rfl, HX.out⟩
    · go_enter Tryz.func50, Tryz.ntmps50
      go_upto_region 1 with fail
      generalize w.alloc (.cells #[.int .i64 n, .int .i64 g1, .int .i64 g2, .int .i64 g3, .int .i64 g4, .int .i64 g5, s] 29) = W1 at *
      generalize w.heap.size = bv at *
      have c0 := HV.out.c0
      have c1 := HV.out.c1
      have c2 := HV.out.c2
      have c3 := HV.out.c3
      have c4 := HV.out.c4
      have c5 := HV.out.c5
      have c6 := HV.out.c6
      simp only at c0 c1 c2 c3 c4 c5 c6
      have hb := bareN_any HV.out
      rw [HQ.out] at hb
      have HB := Lib.hid hb
      clear hb
      go_wp2_with fail
      refine Calls.mono HB.out ?_
      rintro e w' ⟨rfl, rfl⟩
      go_wp2_with fail
      refine Calls.mono (within_any _ _ (by omega) (by omega) _) ?_
      rintro e w' ⟨rfl, rfl⟩
      go_wp2
      go_ret
      exact ⟨rfl, HX.out⟩

end Go.Proofs.YtebggkgciocciaaGreat
