
/-
  A table: Advance, Multiply, Divide, whole. Conditions: those that each theorem names.
-/
import Derived.Test.YtebggkgciocciaaTabZ
namespace Go.Proofs.Ytebggkgciocciaa
open Go.RowKit Go.Sp
variable {W w w' : World} {F A : HProp}

theorem adv_clo {b6 b8 : Nat} {c : Int} {old v : RegS} {u s : Value} (h8 : ValAt w b8 v s) (hr : RdT w u old.toks) (h6 : w.cell? ⟨b6, 0, none⟩ = some (.int .i64 c)) :
    Calls Try.prog 37 #[valA old u, .pointer (some ⟨b6, 0, none⟩), .pointer (some ⟨b8, 0, none⟩)] w fun e w' => ∃ r er, e = .returned (.tuple #[valA r (.slice none 0 0), .int .i64 er]) ∧ r.toks = [] ∧ CloR c (wrap64 (old.n + v.n)) 0 r er ∧ Ext w w' := by
  by_cases hc : c = 3
  · subst hc
    refine (adv3_any h8 hr h6).mono ?_
    rintro e w' ⟨r, er, he, ht, hx⟩
    exact ⟨r, er, he, ht, ⟨ht, fun h => absurd rfl h⟩, hx⟩
  · refine (adv1_any (n := v.n) hc hr h6 h8.c0).mono ?_
    rintro e w' ⟨he, hx⟩
    exact ⟨_, _, he, rfl, ⟨rfl, fun _ => ⟨rfl, rfl⟩⟩, hx⟩
theorem mul_clo {b6 b8 : Nat} {c n : Int} {old : RegS} {u : Value} (h8 : w.cell? ⟨b8, 0, none⟩ = some (.int .i64 n)) (hr : RdT w u old.toks) (h6 : w.cell? ⟨b6, 0, none⟩ = some (.int .i64 c)) :
    Calls Try.prog 40 #[valA old u, .pointer (some ⟨b6, 0, none⟩), .pointer (some ⟨b8, 0, none⟩)] w fun e w' => ∃ r er, e = .returned (.tuple #[valA r (.slice none 0 0), .int .i64 er]) ∧ r.toks = [] ∧ CloR c (wrap64 (old.n * n)) 0 r er ∧ Ext w w' := by
  by_cases hc : c = 3
  · subst hc
    refine (mul3_any h8 hr h6).mono ?_
    rintro e w' ⟨r, er, he, ht, hx⟩
    exact ⟨r, er, he, ht, ⟨ht, fun h => absurd rfl h⟩, hx⟩
  · refine (mul1_any hc hr h6 h8).mono ?_
    rintro e w' ⟨he, hx⟩
    exact ⟨_, _, he, rfl, ⟨rfl, fun _ => ⟨rfl, rfl⟩⟩, hx⟩
/-- the number and the error of a quotient -/
def divZ (x n : Int) : Int := if n = 0 then 0 else wrap64 (x.tdiv n)
def divEr (n : Int) : Int := if n = 0 then 20 else 0
theorem div_clo {b6 b8 : Nat} {c n : Int} {old : RegS} {u : Value} (h8 : w.cell? ⟨b8, 0, none⟩ = some (.int .i64 n)) (hr : RdT w u old.toks) (h6 : w.cell? ⟨b6, 0, none⟩ = some (.int .i64 c)) :
    Calls Try.prog 42 #[valA old u, .pointer (some ⟨b8, 0, none⟩), .pointer (some ⟨b6, 0, none⟩)] w fun e w' => ∃ r er, e = .returned (.tuple #[valA r (.slice none 0 0), .int .i64 er]) ∧ r.toks = [] ∧ CloR c (divZ old.n n) (divEr n) r er ∧ Ext w w' := by
  by_cases hn : n = 0
  · subst hn
    refine (div0_any hr h6 h8).mono ?_
    rintro e w' ⟨he, hx⟩
    exact ⟨_, _, he, rfl, ⟨rfl, fun _ => ⟨rfl, rfl⟩⟩, hx⟩
  · by_cases hc : c = 3
    · subst hc
      refine (div3_any (by rw [beq_eq_false_iff_ne]; exact hn) h8 hr h6).mono ?_
      rintro e w' ⟨r, er, he, ht, hx⟩
      exact ⟨r, er, he, ht, ⟨ht, fun h => absurd rfl h⟩, hx⟩
    · refine (div1_any hc hn hr h6 h8).mono ?_
      rintro e w' ⟨he, hx⟩
      exact ⟨_, _, he, rfl, ⟨rfl, fun _ => ⟨by rw [divZ, if_neg hn], by rw [divEr, if_neg hn]⟩⟩, hx⟩

theorem ent_adv (caps : Array Value) : ∀ v w, (callFunc 37 (#[v] ++ caps)).run Try.prog w = .ok (.enter 37 (#[v] ++ caps)) w := by
  intro v w
  go_simp
theorem ent_mul (caps : Array Value) : ∀ v w, (callFunc 40 (#[v] ++ caps)).run Try.prog w = .ok (.enter 40 (#[v] ++ caps)) w := by
  intro v w
  go_simp
theorem ent_div (caps : Array Value) : ∀ v w, (callFunc 42 (#[v] ++ caps)).run Try.prog w = .ok (.enter 42 (#[v] ++ caps)) w := by
  intro v w
  go_simp

/-- what Advance, Multiply and Divide do: an error and nothing else, or what 'sum' does -/
def ArithR (S S' : TabS) (c i : Int) (g : Bool) (E : Int) (z : Int → Int) (ok : Prop) (er0 : Int) : Prop :=
  (¬ ok ∧ E ≠ 0 ∧ S' = S) ∨ (ok ∧ ∃ c' i' : Nat, c = c' ∧ i = i' ∧ 1 ≤ c' ∧ c' ≤ 5 ∧ i' < 256 ∧ ∃ r er, CloR c (z (S.regs (c' * 256 + i')).n) er0 r er ∧ E = sumE c r er ∧ S' = sumT S c' i' r er g)

def advOK (c i : Int) (v : RegS) : Prop := wrongE c i = 0 ∧ c ≠ 4 ∧ c ≠ 5 ∧ rightM c v = true


set_option maxRecDepth 100000 in
set_option maxHeartbeats 4000000 in
theorem advance_any {b N : Nat} {S : TabS} (c i : Int) {v : RegS} {s : Value} (g : Bool) (hv : ∀ w', Sat W F w' → RdT w' s v.toks) (h : TabAt W F b N S w) :
    Calls Try.prog 16 #[.pointer (some ⟨b, 0, none⟩), .int .i64 c, .int .i64 i, valA v s, .bool g] w fun e w' => ∃ E S', e = .returned (.int .i64 E) ∧ ArithR S S' c i g E (fun x => wrap64 (x + v.n)) (advOK c i v) 0 ∧ TabAt W F b N S' w' := by
  obtain ⟨sa, sc, rfl⟩ := (hv w h.sat).val
  have hb := (h.allocX (.cells #[.int .i64 c] 3)).allocX (valO v (.slice sa v.toks.length sc))
  obtain ⟨bv, hbv⟩ : ∃ bv, w.heap.size = bv := ⟨_, rfl⟩
  rw [show (w.alloc (.cells #[.int .i64 c] 3)).heap.size = w.heap.size + 1 by simp, hbv] at hb
  have HV := Lib.hid hv
  have HB := Lib.hid hb
  have HW := Lib.hid (wrong_any c i hb)
  have HR := Lib.hid (right_any _ (hv _ hb.sat.r.r) c)
  have c0 := hb.sat.cell (i := 0) rfl
  have c1 := hb.sat.cell (i := 1) rfl
  have c2 := hb.sat.cell (i := 2) rfl
  have c3 := hb.sat.cell (i := 3) rfl
  have c4 := hb.sat.cell (i := 4) rfl
  have c5 := hb.sat.cell (i := 5) rfl
  have c6 := hb.sat.cell (i := 6) rfl
  have lv := hb.sat.lt
  have k0 := hb.sat.r.cell (i := 0) rfl
  have lk := hb.sat.r.lt
  by_cases hw : wrongE c i = 0
  · obtain ⟨c', i', rfl, rfl, i1, i2, i3⟩ := wrongE_nat hw
    rw [hw] at HW
    by_cases h4 : (c' : Int) = 4
    · have HNO := Lib.hid (show ArithR S S (c' : Int) i' g 1 (fun x => wrap64 (x + v.n)) (advOK c' i' v) 0 from .inl ⟨fun h => h.2.1 h4, by decide, rfl⟩)
      have q4 : ((c' : Int) == 4) = true := by rw [beq_iff_eq]; exact h4
      obtain ⟨n, ⟨g1, g2, g3, g4, g5⟩, L⟩ := v
      simp only [valA] at *
      obtain ⟨k, hk⟩ : ∃ k, L.length = k := ⟨_, rfl⟩
      simp only [hk] at *
      clear h hv hw hb HV
      clear HR h4
      go_enter Try.func16, Try.ntmps16
      go_wp2_with fail
      refine Calls.mono HW.out ?_
      rintro e w' ⟨rfl, rfl⟩
      go_wp2
      go_ret
      exact ⟨_, S, rfl, HNO.out, HB.out.less.less⟩
    · have q4 : ((c' : Int) == 4) = false := by rw [beq_eq_false_iff_ne]; exact h4
      by_cases h5 : (c' : Int) = 5
      · have HNO := Lib.hid (show ArithR S S (c' : Int) i' g 1 (fun x => wrap64 (x + v.n)) (advOK c' i' v) 0 from .inl ⟨fun h => h.2.2.1 h5, by decide, rfl⟩)
        have q5 : ((c' : Int) == 5) = true := by rw [beq_iff_eq]; exact h5
        obtain ⟨n, ⟨g1, g2, g3, g4, g5⟩, L⟩ := v
        simp only [valA] at *
        obtain ⟨k, hk⟩ : ∃ k, L.length = k := ⟨_, rfl⟩
        simp only [hk] at *
        clear h hv hw hb HV
        clear HR h4 h5
        go_enter Try.func16, Try.ntmps16
        go_wp2_with fail
        refine Calls.mono HW.out ?_
        rintro e w' ⟨rfl, rfl⟩
        go_wp2
        go_ret
        exact ⟨_, S, rfl, HNO.out, HB.out.less.less⟩
      · have q5 : ((c' : Int) == 5) = false := by rw [beq_eq_false_iff_ne]; exact h5
        by_cases hr : rightM (c' : Int) v = true
        · rw [hr] at HR
          have HOK := Lib.hid (show ∀ r er, CloR (c' : Int) (wrap64 ((S.regs (c' * 256 + i')).n + v.n)) 0 r er → ArithR S (sumT S c' i' r er g) (c' : Int) i' g (sumE c' r er) (fun x => wrap64 (x + v.n)) (advOK c' i' v) 0 from fun r er h => .inr ⟨⟨hw, h4, h5, hr⟩, c', i', rfl, rfl, i1, i2, i3, r, er, h, rfl, rfl⟩)
          have HSUM := Lib.hid (show ∀ w1, Ext ((w.alloc (.cells #[.int .i64 c'] 3)).alloc (valO v (.slice sa v.toks.length sc))) w1 → _ from fun w1 hx => sum_any (F := pts (bv + 1) (valO v (.slice sa v.toks.length sc)) * (pts bv (.cells #[.int .i64 c'] 3) * F)) g 37 #[.pointer (some ⟨bv, 0, none⟩), .pointer (some ⟨bv + 1, 0, none⟩)] (CloR (c' : Int) (wrap64 ((S.regs (c' * 256 + i')).n + v.n)) 0) i2 i3 (ent_adv _)
            (fun u w' hu hs => adv_clo (valAt_box hs (HV.out _ hs.r.r)) hu (hs.r.cell rfl)) (HB.out.ext hx))
          obtain ⟨n, ⟨g1, g2, g3, g4, g5⟩, L⟩ := v
          simp only [valA] at *
          obtain ⟨k, hk⟩ : ∃ k, L.length = k := ⟨_, rfl⟩
          simp only [hk] at *
          clear h hv hw hb HV
          clear h4 h5 hr
          go_enter Try.func16, Try.ntmps16
          go_wp2_with fail
          refine Calls.mono HW.out ?_
          rintro e w' ⟨rfl, rfl⟩
          generalize (w.alloc (.cells #[.int .i64 c'] 3)).alloc (.cells #[.int .i64 n, .int .i64 g1, .int .i64 g2, .int .i64 g3, .int .i64 g4, .int .i64 g5, .slice sa k sc] 40) = W1 at *
          go_wp2_with fail
          refine Calls.mono HR.out ?_
          rintro e w2 ⟨rfl, hx⟩
          have HS2 := Lib.hid (HSUM.out _ hx)
          have kk := hx.cell k0
          clear c0 c1 c2 c3 c4 c5 c6 lv k0 lk hx
          go_wp2_with fail
          refine Calls.mono HS2.out ?_
          rintro e w3 ⟨r, er, hcl, rfl, h3⟩
          have HCL := Lib.hid (HOK.out _ _ hcl)
          have H3 := Lib.hid h3
          clear hcl h3 HS2 HSUM
          go_wp2
          go_ret
          exact ⟨_, _, rfl, HCL.out, H3.out.less.less⟩
        · simp only [Bool.not_eq_true] at hr
          rw [hr] at HR
          have HNO := Lib.hid (show ArithR S S (c' : Int) i' g 1 (fun x => wrap64 (x + v.n)) (advOK c' i' v) 0 from .inl ⟨fun h => (by rw [h.2.2.2] at hr; cases hr), by decide, rfl⟩)
          obtain ⟨n, ⟨g1, g2, g3, g4, g5⟩, L⟩ := v
          simp only [valA] at *
          obtain ⟨k, hk⟩ : ∃ k, L.length = k := ⟨_, rfl⟩
          simp only [hk] at *
          clear h hv hw hb HV
          clear h4 h5 hr
          go_enter Try.func16, Try.ntmps16
          go_wp2_with fail
          refine Calls.mono HW.out ?_
          rintro e w' ⟨rfl, rfl⟩
          generalize (w.alloc (.cells #[.int .i64 c'] 3)).alloc (.cells #[.int .i64 n, .int .i64 g1, .int .i64 g2, .int .i64 g3, .int .i64 g4, .int .i64 g5, .slice sa k sc] 40) = W1 at *
          go_wp2_with fail
          refine Calls.mono HR.out ?_
          rintro e w2 ⟨rfl, hx⟩
          have H3 := Lib.hid (HB.out.ext hx)
          clear c0 c1 c2 c3 c4 c5 c6 lv k0 lk hx
          go_wp2
          go_ret
          exact ⟨_, _, rfl, HNO.out, H3.out.less.less⟩
  · have q1 : (wrongE c i == 0) = false := by rw [beq_eq_false_iff_ne]; exact hw
    have HNO := Lib.hid (show ArithR S S c i g (wrongE c i) (fun x => wrap64 (x + v.n)) (advOK c i v) 0 from .inl ⟨fun h => hw h.1, hw, rfl⟩)
    generalize wrongE c i = er at *
    obtain ⟨n, ⟨g1, g2, g3, g4, g5⟩, L⟩ := v
    simp only [valA] at *
    obtain ⟨k, hk⟩ : ∃ k, L.length = k := ⟨_, rfl⟩
    simp only [hk] at *
    clear h hv hw hb HR
    go_enter Try.func16, Try.ntmps16
    go_wp2_with fail
    refine Calls.mono HW.out ?_
    rintro e w' ⟨rfl, rfl⟩
    go_wp2
    go_ret
    exact ⟨_, S, rfl, HNO.out, HB.out.less.less⟩

def scaleE (c i n : Int) : Int := if wrongE c i ≠ 0 then wrongE c i else if c = 4 ∨ c = 5 then 1 else if withB n 2147483647 = true then 0 else 11

set_option maxRecDepth 100000 in
theorem scale_any {b N : Nat} {S : TabS} (c i n : Int) (h : TabAt W F b N S w) : Calls Try.prog 39 #[.pointer (some ⟨b, 0, none⟩), .int .i64 c, .int .i64 i, .int .i64 n] w fun e w' => e = .returned (.int .i64 (scaleE c i n)) ∧ w = w' := by
  have HW := Lib.hid (wrong_any c i h)
  have hwi := within_any n 2147483647 (by decide) (by decide) w
  clear h
  by_cases hw : wrongE c i = 0
  · rw [hw] at HW
    by_cases h4 : c = 4
    · have e1 : scaleE c i n = 1 := by rw [scaleE, if_neg (by omega), if_pos (.inl h4)]
      rw [e1]
      have q4 : (c == 4) = true := by rw [beq_iff_eq]; exact h4
      clear h4 hw e1 hwi
      go_enter Try.func39, Try.ntmps39
      go_wp2_with fail
      refine Calls.mono HW.out ?_
      rintro e w' ⟨rfl, rfl⟩
      go_wp2
      go_ret
      exact ⟨rfl, rfl⟩
    · have q4 : (c == 4) = false := by rw [beq_eq_false_iff_ne]; exact h4
      by_cases h5 : c = 5
      · have e1 : scaleE c i n = 1 := by rw [scaleE, if_neg (by omega), if_pos (.inr h5)]
        rw [e1]
        have q5 : (c == 5) = true := by rw [beq_iff_eq]; exact h5
        clear h4 h5 hw e1 hwi
        go_enter Try.func39, Try.ntmps39
        go_wp2_with fail
        refine Calls.mono HW.out ?_
        rintro e w' ⟨rfl, rfl⟩
        go_wp2
        go_ret
        exact ⟨rfl, rfl⟩
      · have q5 : (c == 5) = false := by rw [beq_eq_false_iff_ne]; exact h5
        by_cases hn : withB n 2147483647 = true
        · have e1 : scaleE c i n = 0 := by rw [scaleE, if_neg (by omega), if_neg (by omega), if_pos hn]
          rw [e1]
          rw [hn] at hwi
          have HWI := Lib.hid hwi
          clear h4 h5 hw e1 hwi hn
          go_enter Try.func39, Try.ntmps39
          go_wp2_with fail
          refine Calls.mono HW.out ?_
          rintro e w' ⟨rfl, rfl⟩
          go_wp2_with fail
          refine Calls.mono HWI.out ?_
          rintro e w' ⟨rfl, rfl⟩
          go_wp2
          go_ret
          exact ⟨rfl, rfl⟩
        · have e1 : scaleE c i n = 11 := by rw [scaleE, if_neg (by omega), if_neg (by omega), if_neg hn]
          rw [e1]
          simp only [Bool.not_eq_true] at hn
          rw [hn] at hwi
          have HWI := Lib.hid hwi
          clear h4 h5 hw e1 hwi hn
          go_enter Try.func39, Try.ntmps39
          go_wp2_with fail
          refine Calls.mono HW.out ?_
          rintro e w' ⟨rfl, rfl⟩
          go_wp2_with fail
          refine Calls.mono HWI.out ?_
          rintro e w' ⟨rfl, rfl⟩
          go_wp2
          go_ret
          exact ⟨rfl, rfl⟩
  · have e1 : scaleE c i n = wrongE c i := by rw [scaleE, if_pos hw]
    rw [e1]
    have q1 : (wrongE c i == 0) = false := by rw [beq_eq_false_iff_ne]; exact hw
    generalize wrongE c i = er at *
    clear hw e1 hwi
    go_enter Try.func39, Try.ntmps39
    go_wp2_with fail
    refine Calls.mono HW.out ?_
    rintro e w' ⟨rfl, rfl⟩
    go_wp2
    go_ret
    exact ⟨rfl, rfl⟩

set_option maxRecDepth 100000 in
set_option maxHeartbeats 4000000 in
theorem multiply_any {b N : Nat} {S : TabS} (c i n : Int) (g : Bool) (h : TabAt W F b N S w) :
    Calls Try.prog 17 #[.pointer (some ⟨b, 0, none⟩), .int .i64 c, .int .i64 i, .int .i64 n, .bool g] w fun e w' => ∃ E S', e = .returned (.int .i64 E) ∧ ArithR S S' c i g E (fun x => wrap64 (x * n)) (scaleE c i n = 0) 0 ∧ TabAt W F b N S' w' := by
  have hb := (h.allocX (.cells #[.int .i64 c] 3)).allocX (.cells #[.int .i64 n] 3)
  obtain ⟨bv, hbv⟩ : ∃ bv, w.heap.size = bv := ⟨_, rfl⟩
  rw [show (w.alloc (.cells #[.int .i64 c] 3)).heap.size = w.heap.size + 1 by simp, hbv] at hb
  have HB := Lib.hid hb
  have HW := Lib.hid (scale_any c i n hb)
  have c0 := hb.sat.cell (i := 0) rfl
  have lv := hb.sat.lt
  have k0 := hb.sat.r.cell (i := 0) rfl
  have lk := hb.sat.r.lt
  by_cases hw : scaleE c i n = 0
  · have hw2 : wrongE c i = 0 := by
      by_cases h : wrongE c i = 0
      · exact h
      · rw [scaleE, if_pos h] at hw; exact hw
    obtain ⟨c', i', rfl, rfl, i1, i2, i3⟩ := wrongE_nat hw2
    have HOK := Lib.hid (show ∀ r er, CloR (c' : Int) ((fun x => wrap64 (x * n)) (S.regs (c' * 256 + i')).n) 0 r er → ArithR S (sumT S c' i' r er g) (c' : Int) i' g (sumE c' r er) (fun x => wrap64 (x * n)) (scaleE c' i' n = 0) 0 from fun r er h => .inr ⟨hw, c', i', rfl, rfl, i1, i2, i3, r, er, h, rfl, rfl⟩)
    rw [hw] at HW
    have HSUM := Lib.hid (show _ from sum_any (F := pts (bv + 1) (.cells #[.int .i64 n] 3) * (pts bv (.cells #[.int .i64 c'] 3) * F)) g 40 #[.pointer (some ⟨bv, 0, none⟩), .pointer (some ⟨bv + 1, 0, none⟩)] (CloR (c' : Int) ((fun x => wrap64 (x * n)) (S.regs (c' * 256 + i')).n) 0) i2 i3 (ent_mul _)
      (fun u w' hu hs => mul_clo (hs.cell rfl) hu (hs.r.cell rfl)) HB.out)
    clear h hb hw hw2
    go_enter Try.func17, Try.ntmps17
    go_wp2_with fail
    refine Calls.mono HW.out ?_
    rintro e w' ⟨rfl, rfl⟩
    go_wp2_with fail
    refine Calls.mono HSUM.out ?_
    rintro e w3 ⟨r, er, hcl, rfl, h3⟩
    have HCL := Lib.hid (HOK.out _ _ hcl)
    have H3 := Lib.hid h3
    clear hcl h3 HSUM c0 k0
    go_wp2
    go_ret
    exact ⟨_, _, rfl, HCL.out, H3.out.less.less⟩
  · have q1 : (scaleE c i n == 0) = false := by rw [beq_eq_false_iff_ne]; exact hw
    have HNO := Lib.hid (show ArithR S S c i g (scaleE c i n) (fun x => wrap64 (x * n)) (scaleE c i n = 0) 0 from .inl ⟨hw, hw, rfl⟩)
    generalize scaleE c i n = er at *
    clear h hw hb
    go_enter Try.func17, Try.ntmps17
    go_wp2_with fail
    refine Calls.mono HW.out ?_
    rintro e w' ⟨rfl, rfl⟩
    go_wp2
    go_ret
    exact ⟨_, S, rfl, HNO.out, HB.out.less.less⟩

set_option maxRecDepth 100000 in
set_option maxHeartbeats 4000000 in
theorem divide_any {b N : Nat} {S : TabS} (c i n : Int) (g : Bool) (h : TabAt W F b N S w) :
    Calls Try.prog 18 #[.pointer (some ⟨b, 0, none⟩), .int .i64 c, .int .i64 i, .int .i64 n, .bool g] w fun e w' => ∃ E S', e = .returned (.int .i64 E) ∧ ArithR S S' c i g E (fun x => divZ x n) (scaleE c i n = 0) (divEr n) ∧ TabAt W F b N S' w' := by
  have hb := (h.allocX (.cells #[.int .i64 c] 3)).allocX (.cells #[.int .i64 n] 3)
  obtain ⟨bv, hbv⟩ : ∃ bv, w.heap.size = bv := ⟨_, rfl⟩
  rw [show (w.alloc (.cells #[.int .i64 c] 3)).heap.size = w.heap.size + 1 by simp, hbv] at hb
  have HB := Lib.hid hb
  have HW := Lib.hid (scale_any c i n hb)
  have c0 := hb.sat.cell (i := 0) rfl
  have lv := hb.sat.lt
  have k0 := hb.sat.r.cell (i := 0) rfl
  have lk := hb.sat.r.lt
  by_cases hw : scaleE c i n = 0
  · have hw2 : wrongE c i = 0 := by
      by_cases h : wrongE c i = 0
      · exact h
      · rw [scaleE, if_pos h] at hw; exact hw
    obtain ⟨c', i', rfl, rfl, i1, i2, i3⟩ := wrongE_nat hw2
    have HOK := Lib.hid (show ∀ r er, CloR (c' : Int) ((fun x => divZ x n) (S.regs (c' * 256 + i')).n) (divEr n) r er → ArithR S (sumT S c' i' r er g) (c' : Int) i' g (sumE c' r er) (fun x => divZ x n) (scaleE c' i' n = 0) (divEr n) from fun r er h => .inr ⟨hw, c', i', rfl, rfl, i1, i2, i3, r, er, h, rfl, rfl⟩)
    rw [hw] at HW
    have HSUM := Lib.hid (show _ from sum_any (F := pts (bv + 1) (.cells #[.int .i64 n] 3) * (pts bv (.cells #[.int .i64 c'] 3) * F)) g 42 #[.pointer (some ⟨bv + 1, 0, none⟩), .pointer (some ⟨bv, 0, none⟩)] (CloR (c' : Int) ((fun x => divZ x n) (S.regs (c' * 256 + i')).n) (divEr n)) i2 i3 (ent_div _)
      (fun u w' hu hs => div_clo (hs.cell rfl) hu (hs.r.cell rfl)) HB.out)
    clear h hb hw hw2
    go_enter Try.func18, Try.ntmps18
    go_wp2_with fail
    refine Calls.mono HW.out ?_
    rintro e w' ⟨rfl, rfl⟩
    go_wp2_with fail
    refine Calls.mono HSUM.out ?_
    rintro e w3 ⟨r, er, hcl, rfl, h3⟩
    have HCL := Lib.hid (HOK.out _ _ hcl)
    have H3 := Lib.hid h3
    clear hcl h3 HSUM c0 k0
    go_wp2
    go_ret
    exact ⟨_, _, rfl, HCL.out, H3.out.less.less⟩
  · have q1 : (scaleE c i n == 0) = false := by rw [beq_eq_false_iff_ne]; exact hw
    have HNO := Lib.hid (show ArithR S S c i g (scaleE c i n) (fun x => divZ x n) (scaleE c i n = 0) (divEr n) from .inl ⟨hw, hw, rfl⟩)
    generalize scaleE c i n = er at *
    clear h hw hb
    go_enter Try.func18, Try.ntmps18
    go_wp2_with fail
    refine Calls.mono HW.out ?_
    rintro e w' ⟨rfl, rfl⟩
    go_wp2
    go_ret
    exact ⟨_, S, rfl, HNO.out, HB.out.less.less⟩

end Go.Proofs.Ytebggkgciocciaa
