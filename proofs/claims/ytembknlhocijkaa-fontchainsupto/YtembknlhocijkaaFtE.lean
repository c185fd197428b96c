
/-
  A font's pieces, and lists of fixes. Conditions: those that each theorem names.
-/
import Derived.Test.YtembknlhocijkaaFtD
namespace Go.Proofs.Ytembknlhocijkaa
open Go.RowKit Go.Sp
variable {w : World} {x : FV} {F : Fnt}

theorem cellsOf_u8 : Try.prog.cellsOf 5 = 1 := by kernel_rfl
theorem infoU8 : ∃ i, Try.prog.info? 5 = some i := by
  cases h : Try.prog.info? 5 with
  | none =>
    have h2 : (Try.prog.info? 5).isSome = true := by kernel_rfl
    rw [h] at h2
    cases h2
  | some i => exact ⟨i, rfl⟩
theorem size_u81 (w : World) : (sizeOf 5).run Try.prog w = .ok 1 w := by
  obtain ⟨i, hi⟩ := infoU8
  rw [run_sizeOf (P := Try.prog) w hi, cellsOf_u8]
def pcK (p : Pce) : Nat → UInt8
  | 0 => p.a
  | 1 => p.b
  | 2 => p.c
  | _ => p.d
theorem idx4 (p : Pce) (k : Nat) (hk : k < 4) (w : World) : (Instr.index 65 p.val (.int .i64 k)).run Try.prog w = .ok (.int .u8 (pcK p k).toNat) w := by
  have hu := Try.underlying65
  have hs := size_u81 w
  have : k = 0 ∨ k = 1 ∨ k = 2 ∨ k = 3 := by omega
  rcases this with rfl | rfl | rfl | rfl <;> (simp only [Instr.index, Sem.run_bind, asIntOf, run_underlying hu w, Result.andThen_ok, Sem.run_pure]; go_simp; try rfl)
def pceR (F : Fnt) (p : Pce) : Nat → Bool
  | 0 => pceGood F p.a false && (pceGood F p.b false && (pceGood F p.c false && pceGood F p.d true))
  | 1 => pceGood F p.b false && (pceGood F p.c false && pceGood F p.d true)
  | 2 => pceGood F p.c false && pceGood F p.d true
  | 3 => pceGood F p.d true
  | _ => true
theorem pceR_step (F : Fnt) (p : Pce) (k : Nat) (hk : k < 4) : pceR F p k = (pceGood F (pcK p k) (decide (k = 3)) && pceR F p (k + 1)) := by
  have : k = 0 ∨ k = 1 ∨ k = 2 ∨ k = 3 := by omega
  rcases this with rfl | rfl | rfl | rfl <;> simp [pceR, pcK]
theorem pceR_zero (F : Fnt) (p : Pce) : pceR F p 0 = pceB F p := by simp [pceR, pceB, Bool.and_assoc]

set_option maxRecDepth 100000 in
set_option maxHeartbeats 4000000 in
theorem pieces_any (h : RdF w x F) (p : Pce) (h0 : 0 ≤ F.first) (h1 : F.first ≤ 255) :
    Calls Try.prog 33 #[F.val x, p.val] w fun e w' => e = .returned (.bool (pceB F p)) ∧ Ext w w' := by
  obtain ⟨W1, hW1⟩ : ∃ W1, (w.alloc (F.box x)).alloc (.cells #[.int .u8 p.a.toNat, .int .u8 p.b.toNat, .int .u8 p.c.toNat, .int .u8 p.d.toNat] 65) = W1 := ⟨_, rfl⟩
  have HX := ((Ext.refl w).alloc (o := F.box x)).alloc (o := .cells #[.int .u8 p.a.toNat, .int .u8 p.b.toNat, .int .u8 p.c.toNat, .int .u8 p.d.toNat] 65)
  have HB := (BoxF.new w F x).ext ((Ext.refl _).alloc (o := .cells #[.int .u8 p.a.toNat, .int .u8 p.b.toNat, .int .u8 p.c.toNat, .int .u8 p.d.toNat] 65))
  obtain ⟨bf, hbf⟩ : ∃ bf, w.heap.size = bf := ⟨_, rfl⟩
  rw [hW1] at HX HB
  rw [hbf] at HB
  have HF := Lib.hid (h.ext HX)
  replace HX := Lib.hid HX
  replace HB := Lib.hid HB
  obtain ⟨ca, cc, sa, sc, ka, kc, pa, pc, ra, rc, rfl, -⟩ := h.vals
  simp only [Fnt.box] at hW1
  have HW1 := Lib.hid hW1
  have HBF := Lib.hid hbf
  obtain ⟨r, hr⟩ : ∃ r, pceB F p = r := ⟨_, rfl⟩
  have HR := Lib.hid hr
  rw [hr]
  have hix := fun k hk w => idx4 p k hk w
  have hst := fun k hk => pceR_step F p k hk
  have hz := pceR_zero F p
  have hub := fun k => u8i (pcK p k)
  rw [hr] at hz
  clear h hW1 hbf hr
  have HIX := Lib.hid hix
  have HST := Lib.hid hst
  have HZ := Lib.hid hz
  have HU := Lib.hid hub
  clear hix hst hz hub
  obtain ⟨p1, p2, p3, p4⟩ := p
  go_enter Try.func33, Try.ntmps33
  go_upto_block 0 with fail
  rw [HBF.out, HW1.out]
  clear HBF HW1
  go_wp2_with fail
  go_loopg [10] 4 (fun gg s10 wx => ∃ k : Nat, k ≤ 4 ∧ gg = 4 - k ∧ s10 = .int .i64 k ∧ pceR F ⟨p1, p2, p3, p4⟩ k = r ∧ Ext W1 wx)
  case atStart => exact ⟨0, by omega, rfl, rfl, HZ.out, Ext.refl _⟩
  case round =>
    obtain ⟨k, hk, hg, rfl, hr, hx⟩ := hrel
    have HR2 := Lib.hid hr
    have HX2 := Lib.hid (HX.out.trans hx)
    have HX3 := Lib.hid hx
    have HB2 := Lib.hid (HB.out.ext hx)
    have HF2 := Lib.hid (HF.out.ext hx)
    have HG := Lib.hid hg
    clear hx hr HX HB HF HZ HR hg
    by_cases hk4 : k < 4
    · have hix := HIX.out k hk4
      have hst := HST.out k hk4
      simp only [Pce.val] at hix
      have hu := HU.out k
      rw [HR2.out] at hst
      obtain ⟨cb, hcb⟩ : ∃ cb, pcK ⟨p1, p2, p3, p4⟩ k = cb := ⟨_, rfl⟩
      rw [hcb] at hix hst hu
      have HT := Lib.hid (there_any HF2.out cb.toNat ⟨by omega, by omega⟩ h0 h1)
      unfold pceGood at hst
      obtain ⟨q, hq⟩ : ∃ q, thereM F (cb.toNat : Int) = q := ⟨_, rfl⟩
      rw [hq] at hst HT
      obtain ⟨c, hc⟩ : ∃ c, cb.toNat = c := ⟨_, rfl⟩
      rw [hc] at hst HT hu hix
      have HST2 := Lib.hid hst
      have i4 : (k : Int) < 4 := by omega
      have b0 := HB2.out.c0
      have b1 := HB2.out.c1
      have b2 := HB2.out.c2
      have b3 := HB2.out.c3
      have b4 := HB2.out.c4
      have b5 := HB2.out.c5
      have b6 := HB2.out.c6
      have b7 := HB2.out.c7
      have lq := HB2.out.lt
      clear hcb hst hq hc HR2 HIX HST HU
      go_wp2_with fail
      with_reducible refine Calls.mono HT.out ?_
      rintro e w2 ⟨rfl, hx⟩
      have HX4 := Lib.hid (HX2.out.trans hx)
      have HX5 := Lib.hid (HX3.out.trans hx)
      clear HT hx b0 b1 b2 b3 b4 b5 b6 b7 lq HX2 HX3 HB2 HF2 hix
      have hst := HST2.out
      cases q with
      | some kk =>
        simp only [Option.isSome_some, Option.getD_some, Bool.true_or, Bool.true_and] at hst ⊢
        have HS := Lib.hid hst
        clear hst HST2
        go_wp2
        go_roundg (4 - (k + 1))
        case measure => have := HG.out; omega
        case rel => exact ⟨k + 1, by omega, rfl, by go_num, HS.out.symm, HX5.out⟩
      | none =>
        simp only [Option.isSome_none, Option.getD_none, Bool.false_or] at hst ⊢
        by_cases k3 : k = 3
        · have k3i : (k : Int) = 3 := by omega
          simp only [k3, decide_true, Bool.not_true, Bool.false_and] at hst
          subst hst
          go_wp2
          go_ret
          exact ⟨rfl, HX4.out⟩
        · have k3i : ¬ (k : Int) = 3 := by omega
          by_cases c0 : c = 0
          · have c0i : (c : Int) = 0 := by omega
            simp only [k3, c0, decide_true, decide_false, Bool.not_false, Bool.true_and] at hst
            have HS := Lib.hid hst
            clear hst HST2 k3
            go_wp2
            go_roundg (4 - (k + 1))
            case measure => have := HG.out; omega
            case rel => exact ⟨k + 1, by omega, rfl, by go_num, HS.out.symm, HX5.out⟩
          · have c0i : ¬ (c : Int) = 0 := by omega
            simp only [k3, c0, decide_false, Bool.not_false, Bool.true_and, Bool.false_and] at hst
            subst hst
            clear k3 c0
            have e3 : ((k : Int) == 3) = false := by simp [k3i]
            have ec : ((c : Int) != 0) = true := bne_iff_ne.2 c0i
            go_wp2
            go_ret
            exact ⟨rfl, HX4.out⟩
    · obtain rfl : k = 4 := by omega
      have hr := HR2.out
      obtain rfl : true = r := hr
      go_wp2
      go_ret
      exact ⟨rfl, HX2.out⟩

set_option maxRecDepth 100000 in
set_option maxHeartbeats 4000000 in
theorem indexFix_any {v : Value} {L : List Int} (h : RdL intC 1 w v L) : Calls Try.prog 52 #[v, .func (.func 48) #[] #[]] w
    fun e w' => ∃ q : Int, e = .returned (.int .i64 q) ∧ decide (0 ≤ q) = !fixesB L ∧ w' = w := by
  obtain ⟨a, cap, rfl, -⟩ := h.val
  have hle := h.le2
  have hle2 : L.length ≤ 9223372036854775807 := h.le
  have H := Lib.hid h
  clear h
  go_enter Try.func52, Try.ntmps52
  go_wp2_with fail
  go_loopg [8] L.length (fun gg s8 wx => ∃ k : Nat, k ≤ L.length ∧ gg = L.length - k ∧ s8 = .int .i64 k ∧ (∀ y ∈ L.take k, fixB y = true) ∧ wx = w)
  case atStart => exact ⟨0, by omega, by omega, rfl, by simp, rfl⟩
  case round =>
    obtain ⟨k, hk, hg, rfl, ht, rfl⟩ := hrel
    have HT := Lib.hid ht
    clear ht
    by_cases hkl : k < L.length
    · obtain ⟨b, off, rfl, c0, lb⟩ := H.out.int rfl hkl
      have hki : (k : Int) < L.length := by omega
      have hst : L.take (k + 1) = L.take k ++ [L[k]] := List.take_succ_eq_append_getElem hkl
      obtain ⟨y, hy⟩ : ∃ y, L[k] = y := ⟨_, rfl⟩
      rw [hy] at c0 hst
      have hm : y ∈ L := by rw [← hy]; exact List.getElem_mem hkl
      have HS := Lib.hid hst
      have HM := Lib.hid hm
      obtain ⟨z, hz⟩ : ∃ z, fixB y = z := ⟨_, rfl⟩
      have HZ := Lib.hid hz
      have HF := Lib.hid (fixes1_any y wr)
      rw [hz] at HF
      clear hst hy hz hm
      go_wp2_with fail
      with_reducible refine Calls.mono HF.out ?_
      rintro e w9 ⟨rfl, rfl⟩
      cases z with
      | true =>
        go_wp2
        go_roundg (L.length - (k + 1))
        case measure => omega
        case rel =>
          refine ⟨k + 1, by omega, rfl, by go_num, ?_, rfl⟩
          rw [HS.out]
          intro y2 hy2
          rw [List.mem_append, List.mem_singleton] at hy2
          rcases hy2 with h | h
          · exact HT.out y2 h
          · rw [h]; exact HZ.out
      | false =>
        go_wp2
        go_ret
        refine ⟨k, rfl, ?_, rfl⟩
        have : fixesB L = false := by
          unfold fixesB
          rw [List.all_eq_false]
          exact ⟨y, HM.out, by rw [HZ.out]; simp⟩
        rw [this]
        simp
    · obtain rfl : k = L.length := by omega
      clear hkl
      go_wp2
      go_ret
      refine ⟨-1, rfl, ?_, rfl⟩
      have : fixesB L = true := by
        unfold fixesB
        rw [List.all_eq_true]
        have h2 := HT.out
        rwa [List.take_length] at h2
      rw [this]
      simp

theorem containsFix_any {v : Value} {L : List Int} (h : RdL intC 1 w v L) : Calls Try.prog 47 #[v, .func (.func 48) #[] #[]] w
    fun e w' => e = .returned (.bool (!fixesB L)) ∧ w' = w := by
  obtain ⟨a, cap, rfl, -⟩ := h.val
  have H := Lib.hid (indexFix_any h)
  obtain ⟨z, hz⟩ : ∃ z, fixesB L = z := ⟨_, rfl⟩
  rw [hz] at H ⊢
  clear hz h
  go_enter Try.func47, Try.ntmps47
  go_wp2_with fail
  with_reducible refine Calls.mono H.out ?_
  rintro e w9 ⟨q, rfl, hq, rfl⟩
  have HQ := Lib.hid hq
  clear hq
  go_wp2
  go_ret
  exact ⟨by show Ending.returned (Value.bool (decide (0 ≤ q))) = _; rw [HQ.out], rfl⟩

theorem fixes_any {v : Value} {L : List Int} (h : RdL intC 1 w v L) : Calls Try.prog 30 #[v] w fun e w' => e = .returned (.bool (fixesB L)) ∧ w' = w := by
  obtain ⟨a, cap, rfl, -⟩ := h.val
  have H := Lib.hid (containsFix_any h)
  obtain ⟨z, hz⟩ : ∃ z, fixesB L = z := ⟨_, rfl⟩
  rw [hz] at H ⊢
  clear hz h
  go_enter Try.func30, Try.ntmps30
  go_wp2_with fail
  with_reducible refine Calls.mono H.out ?_
  rintro e w9 ⟨rfl, rfl⟩
  go_wp2
  go_ret
  exact ⟨rfl, rfl⟩
end Go.Proofs.Ytembknlhocijkaa
