
/-
  A table: Set. Conditions: those that each theorem names.
-/
import Derived.Test.YtebggkgciocciaaGreatTabP
namespace Go.Proofs.YtebggkgciocciaaGreat
open Go.RowKit Go.Sp
variable {W w w' : World} {F A : HProp}

/-- a table with a register put -/
noncomputable def putS (S : TabS) (c i : Nat) (v : RegS) : Bool → TabS
  | true => { S with regs := setS S.regs (c * 256 + i) v, groups := S.groups.map (·.delR ((c : Int), (i : Int))) }
  | false => { S with regs := setS S.regs (c * 256 + i) v, groups := S.groups.dropLast ++ (S.groups.getLast?.map (·.keepR ((c : Int), (i : Int)) (S.regs (c * 256 + i)))).toList }

theorem put_any {b N : Nat} {S : TabS} {c i : Nat} {v : RegS} {s : Value} (g : Bool) (hc : c ≤ 5) (hi : i < 256) (hl : v.toks.length ≤ 20000) (hv : ∀ w', Sat W F w' → RdT w' s v.toks) (h : TabAt W F b N S w) :
    Calls Tryz.prog 51 #[.pointer (some ⟨b, 0, none⟩), .int .i64 c, .int .i64 i, valA v s, .bool g] w fun e w' => e = .returned (.tuple #[]) ∧ TabAt W F b N (putS S c i v g) w' := by
  cases g with
  | true => exact put_glob hc hi hl hv h
  | false =>
    rcases List.eq_nil_or_concat S.groups with hg | ⟨S0, g, hg⟩
    · have := put_flat hc hi hg hl hv h
      rw [putS, hg]
      simp only [List.dropLast_nil, List.getLast?_nil, Option.map_none, Option.toList_none, List.nil_append]
      rw [← hg]
      exact this
    · rw [List.concat_eq_append] at hg
      have := put_loc S0 g hg hc hi hl hv h
      rw [putS, hg, List.dropLast_concat, List.getLast?_concat]
      exact this

def setE (c i : Int) (v : RegS) : Int := if wrongE c i ≠ 0 then wrongE c i else if rightM c v = true then 0 else 1
noncomputable def setT (S : TabS) (c i : Int) (v : RegS) (g : Bool) : TabS := if setE c i v = 0 then putS S c.toNat i.toNat v g else S

theorem wrongE_nat {c i : Int} (h : wrongE c i = 0) : ∃ c' i' : Nat, c = c' ∧ i = i' ∧ 1 ≤ c' ∧ c' ≤ 5 ∧ i' < 256 := by
  rw [wrongE] at h
  split at h
  · omega
  · split at h
    · omega
    · exact ⟨c.toNat, i.toNat, by omega, by omega, by omega, by omega, by omega⟩

theorem rightM_len {c : Int} {v : RegS} (h : rightM c v = true) : v.toks.length ≤ 20000 := by
  unfold rightM bareN bareG bareT at h
  repeat' split at h
  all_goals (simp only [Bool.and_eq_true, beq_iff_eq, decide_eq_true_eq] at h; omega)

theorem TabAt.allocX {b N : Nat} {S : TabS} (h : TabAt W F b N S w) (o : Obj) : TabAt W (pts w.heap.size o * F) b N S (w.alloc o) := by
  obtain ⟨m, nm, gs, lt, R, V, h1, h2⟩ := h
  exact ⟨m, nm, gs, lt, R, V, h1, (h2.alloc o).of_eq (by ac_rfl)⟩


set_option maxRecDepth 100000 in
set_option maxHeartbeats 4000000 in
theorem set_any {b N : Nat} {S : TabS} (c i : Int) {v : RegS} {s : Value} (g : Bool) (hv : ∀ w', Sat W F w' → RdT w' s v.toks) (h : TabAt W F b N S w) :
    Calls Tryz.prog 16 #[.pointer (some ⟨b, 0, none⟩), .int .i64 c, .int .i64 i, valA v s, .bool g] w fun e w' => e = .returned (.int .i64 (setE c i v)) ∧ TabAt W F b N (setT S c i v g) w' := by
  obtain ⟨sa, sc, rfl⟩ := (hv w h.sat).val
  have hb := h.allocX (valO v (.slice sa v.toks.length sc))
  obtain ⟨bv, hbv⟩ : ∃ bv, w.heap.size = bv := ⟨_, rfl⟩
  rw [hbv] at hb
  have HV := Lib.hid (show ∀ w', Sat W (pts bv (valO v (.slice sa v.toks.length sc)) * F) w' → RdT w' (.slice sa v.toks.length sc) v.toks from fun w' h => hv w' h.r)
  have HW := Lib.hid (wrong_any c i hb)
  have HR := Lib.hid (show ∀ w', Sat W (pts bv (valO v (.slice sa v.toks.length sc)) * F) w' → _ from fun w' h => right_any w' (HV.out w' h) c)
  have c0 := hb.sat.cell (i := 0) rfl
  have c1 := hb.sat.cell (i := 1) rfl
  have c2 := hb.sat.cell (i := 2) rfl
  have c3 := hb.sat.cell (i := 3) rfl
  have c4 := hb.sat.cell (i := 4) rfl
  have c5 := hb.sat.cell (i := 5) rfl
  have c6 := hb.sat.cell (i := 6) rfl
  have lv := hb.sat.lt
  have HB := Lib.hid hb
  by_cases hw : wrongE c i = 0
  · obtain ⟨c', i', rfl, rfl, i1, i2, i3⟩ := wrongE_nat hw
    rw [hw] at HW
    by_cases hr : rightM (c' : Int) v = true
    · have e1 : setE (c' : Int) (i' : Int) v = 0 := by rw [setE, if_neg (by omega), if_pos hr]
      rw [e1, setT, if_pos e1, Int.toNat_natCast, Int.toNat_natCast]
      rw [hr] at HR
      have HP := Lib.hid (show ∀ w1, Ext (w.alloc (valO v (.slice sa v.toks.length sc))) w1 → _ from fun w1 hx => put_any g i2 i3 (rightM_len hr) HV.out (HB.out.ext hx))
      obtain ⟨n, ⟨g1, g2, g3, g4, g5⟩, L⟩ := v
      simp only [valA] at *
      obtain ⟨k, hk⟩ : ∃ k, L.length = k := ⟨_, rfl⟩
      simp only [hk] at *
      clear h hv hr hw e1 hb
      go_enter Tryz.func16, Tryz.ntmps16
      go_wp2_with fail
      refine Calls.mono HW.out ?_
      rintro e w' ⟨rfl, rfl⟩
      generalize w.alloc (.cells #[.int .i64 n, .int .i64 g1, .int .i64 g2, .int .i64 g3, .int .i64 g4, .int .i64 g5, .slice sa k sc] 29) = W1 at *
      go_wp2_with fail
      refine Calls.mono (HR.out _ HB.out.sat) ?_
      rintro e w2 ⟨rfl, hx⟩
      have d0 := hx.cell c0
      have d1 := hx.cell c1
      have d2 := hx.cell c2
      have d3 := hx.cell c3
      have d4 := hx.cell c4
      have d5 := hx.cell c5
      have d6 := hx.cell c6
      have HX := Lib.hid hx
      clear c0 c1 c2 c3 c4 c5 c6 lv hx
      go_wp2_with fail
      refine Calls.mono (HP.out _ HX.out) ?_
      rintro e w3 ⟨rfl, h3⟩
      have H3 := Lib.hid h3
      clear h3 d0 d1 d2 d3 d4 d5 d6
      go_wp2
      go_ret
      exact ⟨rfl, H3.out.less⟩
    · have e1 : setE (c' : Int) (i' : Int) v = 1 := by rw [setE, if_neg (by omega), if_neg hr]
      rw [e1, setT, if_neg (by omega)]
      simp only [Bool.not_eq_true] at hr
      rw [hr] at HR
      obtain ⟨n, ⟨g1, g2, g3, g4, g5⟩, L⟩ := v
      simp only [valA] at *
      obtain ⟨k, hk⟩ : ∃ k, L.length = k := ⟨_, rfl⟩
      simp only [hk] at *
      clear h hv hr hw e1 hb
      go_enter Tryz.func16, Tryz.ntmps16
      go_wp2_with fail
      refine Calls.mono HW.out ?_
      rintro e w' ⟨rfl, rfl⟩
      generalize w.alloc (.cells #[.int .i64 n, .int .i64 g1, .int .i64 g2, .int .i64 g3, .int .i64 g4, .int .i64 g5, .slice sa k sc] 29) = W1 at *
      go_wp2_with fail
      refine Calls.mono (HR.out _ HB.out.sat) ?_
      rintro e w2 ⟨rfl, hx⟩
      have H3 := Lib.hid (HB.out.ext hx)
      clear c0 c1 c2 c3 c4 c5 c6 lv hx
      go_wp2
      go_ret
      exact ⟨rfl, H3.out.less⟩
  · have e1 : setE c i v = wrongE c i := by rw [setE, if_pos hw]
    rw [e1, setT, if_neg (by omega)]
    have q1 : (wrongE c i == 0) = false := by rw [beq_eq_false_iff_ne]; exact hw
    generalize wrongE c i = er at *
    obtain ⟨n, ⟨g1, g2, g3, g4, g5⟩, L⟩ := v
    simp only [valA] at *
    obtain ⟨k, hk⟩ : ∃ k, L.length = k := ⟨_, rfl⟩
    simp only [hk] at *
    clear h hv hw e1 hb
    go_enter Tryz.func16, Tryz.ntmps16
    go_wp2_with fail
    refine Calls.mono HW.out ?_
    rintro e w' ⟨rfl, rfl⟩
    generalize w.alloc (.cells #[.int .i64 n, .int .i64 g1, .int .i64 g2, .int .i64 g3, .int .i64 g4, .int .i64 g5, .slice sa k sc] 29) = W1 at *
    go_wp2
    go_ret
    exact ⟨rfl, HB.out.less⟩

end Go.Proofs.YtebggkgciocciaaGreat
