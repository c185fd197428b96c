/-
  follow: the mark at which the place has passed a mark (by what is known). Conditions: those that each theorem names.
-/
import Derived.Test.YtigjfbbgbiajbaaLgM
import Derived.Test.YtigjfbbgbiajbaaKey2
namespace Go.Proofs.Ytigjfbbgbiajbaa
open Go.RowKit Go.Sp
variable {w W : World} {x : FV} {F : Fnt} {bm : Nat}

abbrev vI : Int → Value := Value.int .i64
def FolC (W : World) (x : FV) (F : Fnt) (bm g : Nat) : Prop :=
  ∀ (A : HProp) (n : Nat) (kn : KM) (a c : Int) (w : World), KOk kn → MkR a → MkR c → unk kn < g → Sat W (mapH kE2 vI bm n kn * (A * own W)) w →
    Calls Try.prog 27 #[F.pval x, .int .i64 a, .int .i64 c, .map (some bm)] w fun e w' => e = .returned (.int .i64 (followM F g kn a c).1) ∧ ∃ n', Sat W (mapH kE2 vI bm n' (followM F g kn a c).2 * (A * own W)) w'
def PairC (W : World) (x : FV) (F : Fnt) (bm g : Nat) : Prop :=
  ∀ (A : HProp) (n : Nat) (kn : KM) (a c : Int) (w : World), KOk kn → MkR a → MkR c → unk kn < g → Sat W (mapH kE2 vI bm n kn * (A * own W)) w →
    Calls Try.prog 40 #[F.pval x, .int .i64 a, .int .i64 c, .map (some bm)] w fun e w' => e = .returned (.int .i64 (pairM F (followM F g) kn a c).1) ∧ ∃ n', Sat W (mapH kE2 vI bm n' (pairM F (followM F g) kn a c).2 * (A * own W)) w'

theorem fol_zero (W : World) (x : FV) (F : Fnt) (bm : Nat) : FolC W x F bm 0 := fun _ _ _ _ _ _ _ _ _ hu _ => absurd hu (Nat.not_lt_zero _)
theorem kput_mput (f : KM) (k : Int × Int) (v : Int) : kput f k v = mput f k v := by
  funext j
  unfold kput mput
  by_cases h : j = k
  · rw [if_pos h, if_pos h]
  · rw [if_neg h, if_neg h]

set_option maxRecDepth 100000 in
set_option maxHeartbeats 8000000 in
theorem fol_succ {g : Nat} (hrd : RdF W x F) (IH : PairC W x F bm g) : FolC W x F bm (g + 1) := by
  intro A n kn a c w hk ha hc hu h
  have hle : ∀ y : Int, MkR y → -9223372036854775808 ≤ y ∧ y ≤ 9223372036854775807 := fun y hy => by unfold MkR at hy; omega
  have hal := (h.alloc (F.pbox x)).alloc (.cells #[.int .i64 a, .int .i64 c] 85)
  obtain ⟨W1, hW1⟩ : ∃ W1, (w.alloc (F.pbox x)).alloc (.cells #[.int .i64 a, .int .i64 c] 85) = W1 := ⟨_, rfl⟩
  obtain ⟨bf, hbf⟩ : ∃ bf, w.heap.size = bf := ⟨_, rfl⟩
  rw [hW1, World.size_alloc, hbf] at hal
  have HP := Lib.hid IH
  obtain ⟨A2, hA2⟩ : ∃ A2, pts (bf + 1) (.cells #[.int .i64 a, .int .i64 c] 85) * (pts bf (F.pbox x) * A) = A2 := ⟨_, rfl⟩
  have hal2 := hal.of_eq (show _ = mapH kE2 vI bm n kn * (A2 * own W) by rw [← hA2]; ac_rfl)
  have HA2 := Lib.hid hA2
  have hB := BoxP.of (hal.rot)
  have d0 := hal.cell (i := 0) rfl
  have d1 := hal.cell (i := 1) rfl
  have ld := hal.lt
  have hl := Sat.map_look key2 Try.underlying69 (z := .int .i64 0) (fun w => by go_simp) hal2 (a, c) true
  simp only [kE2, if_true] at hl
  have HS := Lib.hid hal2
  have HB := Lib.hid hB
  have HK := Lib.hid hk
  have HA := Lib.hid ha
  have HC := Lib.hid hc
  have HU := Lib.hid hu
  have HIn := Lib.hid hle
  obtain ⟨r, hr⟩ : ∃ r, followM F (g + 1) kn a c = r := ⟨_, rfl⟩
  rw [hr]
  rw [followM] at hr
  obtain ⟨ca, cc, sa, sc, ka, kc, pa, pc, ra, rc, rfl, -⟩ := hrd.vals
  simp only [Fnt.pbox] at hW1
  have HW1 := Lib.hid hW1
  have HBF := Lib.hid hbf
  obtain ⟨q, hq⟩ : ∃ q, kn (a, c) = q := ⟨_, rfl⟩
  have HQ := Lib.hid hq
  rw [hq] at hr hl
  have HR := Lib.hid hr
  clear hr hW1 hbf h hal hal2 hA2 hB hk ha hc hu IH hle hq
  go_enter Try.func27, Try.ntmps27
  go_upto_region 2 with fail
  rw [HBF.out, HW1.out]
  clear HBF HW1
  cases q with
  | some v =>
    have hr := HR.out
    simp only at hr
    simp only [Option.map_some, Option.getD_some, Option.isSome_some] at hl
    have hv := HK.out _ _ HQ.out
    by_cases v1 : v = 1
    · subst v1
      rw [if_pos rfl] at hr
      subst hr
      clear HR hv
      go_wp2
      go_ret
      exact ⟨rfl, n, by have h9 := HS.out; rw [← HA2.out] at h9; exact (h9.of_eq (show _ = pts (bf + 1) _ * (pts bf _ * (mapH kE2 vI bm n kn * (A * own W))) by ac_rfl)).r.r⟩
    · rw [if_neg v1] at hr
      subst hr
      clear HR
      have hv2 : 9 ≤ v ∧ v ≤ 266 := hv.resolve_left v1
      clear hv
      go_wp2
      go_ret
      exact ⟨rfl, n, by have h9 := HS.out; rw [← HA2.out] at h9; exact (h9.of_eq (show _ = pts (bf + 1) _ * (pts bf _ * (mapH kE2 vI bm n kn * (A * own W))) by ac_rfl)).r.r⟩
  | none =>
    simp only [Option.map_none, Option.getD_none, Option.isSome_none] at hl
    go_upto_region 7 with fail
    clear hl
    obtain ⟨w3, hup, hs3⟩ := Sat.map_upd key2 Try.underlying69 HS.out (a, c) 1
    simp only [kE2] at hup
    have HS3 := Lib.hid hs3
    have hs4 := hs3
    rw [← HA2.out] at hs4
    have HB3 := Lib.hid (BoxP.of (hs4.of_eq (show _ = pts bf _ * (pts (bf + 1) _ * (mapH kE2 vI bm (n + 1) (mput kn (a, c) 1) * (A * own W))) by ac_rfl)))
    have hs5 := hs4.of_eq (show _ = pts (bf + 1) _ * (pts bf _ * (mapH kE2 vI bm (n + 1) (mput kn (a, c) 1) * (A * own W))) by ac_rfl)
    have e0 := hs5.cell (i := 0) rfl
    have e1 := hs5.cell (i := 1) rfl
    have le := hs5.lt
    rw [← kput_mput] at HS3
    have HPC := Lib.hid (HP.out A2 (n + 1) (kput kn (a, c) 1) a c w3 (HK.out.put _ (.inl rfl)) HA.out HC.out (Nat.lt_of_lt_of_le (unk_put (v := 1) HA.out HC.out HQ.out) (Nat.le_of_lt_succ HU.out)) HS3.out)
    have hok := (pairM_ok (F := F) (followM_ok F g) (HK.out.put (a, c) (.inl rfl)) HA.out HC.out (Nat.lt_of_lt_of_le (unk_put (v := 1) HA.out HC.out HQ.out) (Nat.le_of_lt_succ HU.out))).2.2
    have hr := HR.out
    simp only at hr
    obtain ⟨⟨o, kn2⟩, hpm⟩ : ∃ p, pairM F (followM F g) (kput kn (a, c) 1) a c = p := ⟨_, rfl⟩
    rw [hpm] at HPC hok hr
    simp only at hok hr
    have HR2 := Lib.hid hr
    clear hs3 hs4 hs5 HR hr hpm HS HB
    have HOK := Lib.hid hok
    clear hok
    go_upto_region 8 with fail
    clear d0 d1 ld hup
    have b0 := HB3.out.c0
    have b1 := HB3.out.c1
    have b2 := HB3.out.c2
    have b3 := HB3.out.c3
    have b4 := HB3.out.c4
    have b5 := HB3.out.c5
    have b6 := HB3.out.c6
    have b7 := HB3.out.c7
    have b8 := HB3.out.c8
    have lq := HB3.out.lt
    go_wp2_with fail
    with_reducible refine Calls.mono HPC.out ?_
    rintro e w5 ⟨rfl, n5, hs5⟩
    clear HPC b0 b1 b2 b3 b4 b5 b6 b7 b8 lq e0 e1 le HB3 HS3
    have HS5 := Lib.hid hs5
    have hs6 := hs5
    rw [← HA2.out] at hs6
    have hs7 := hs6.of_eq (show _ = pts (bf + 1) _ * (pts bf _ * (mapH kE2 vI bm n5 kn2 * (A * own W))) by ac_rfl)
    have e0 := hs7.cell (i := 0) rfl
    have e1 := hs7.cell (i := 1) rfl
    have le := hs7.lt
    clear hs5 hs6 hs7
    by_cases o3 : o = -3
    · subst o3
      have hr := HR2.out
      rw [if_pos rfl] at hr
      subst hr
      go_wp2
      go_ret
      exact ⟨rfl, n5, by have h9 := HS5.out; rw [← HA2.out] at h9; exact (h9.of_eq (show _ = pts (bf + 1) _ * (pts bf _ * (mapH kE2 vI bm n5 kn2 * (A * own W))) by ac_rfl)).r.r⟩
    · have hr := HR2.out
      rw [if_neg o3] at hr
      subst hr
      have hor := HOK.out.resolve_left o3
      have ho2 : -1 ≤ o ∧ o ≤ 256 := hor
      have o3b : (o != -3) = true := bne_iff_ne.2 o3
      obtain ⟨w6, hup, hs6⟩ := Sat.map_upd key2 Try.underlying69 HS5.out (a, c) (o + 10)
      simp only [kE2] at hup
      rw [← kput_mput] at hs6
      have HS6 := Lib.hid hs6
      clear hs6 hor
      go_wp2
      go_ret
      exact ⟨rfl, n5 + 1, by have h9 := HS6.out; rw [← HA2.out] at h9; exact (h9.of_eq (show _ = pts (bf + 1) _ * (pts bf _ * (mapH kE2 vI bm (n5 + 1) (kput kn2 (a, c) (o + 10)) * (A * own W))) by ac_rfl)).r.r⟩
end Go.Proofs.Ytigjfbbgbiajbaa
