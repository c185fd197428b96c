
/-
  A font's inner functions: fix, the lists of fixes, there, boundary. Conditions: those that each theorem names.
-/
import Derived.Test.YtembknlhocijkaaFtA
namespace Go.Proofs.Ytembknlhocijkaa
open Go.RowKit Go.Sp
variable {w : World} {x : FV} {F : Fnt}

theorem fix_any (a : Int) (w : World) : Calls Try.prog 10 #[.int .i64 a] w fun e w' => e = .returned (.bool (fixB a)) ∧ w' = w := by
  obtain ⟨r, hr⟩ : ∃ r, fixB a = r := ⟨_, rfl⟩
  have HR := Lib.hid hr
  rw [hr]
  clear hr
  by_cases h1 : -16777216 ≤ a
  · by_cases h2 : a < 16777216
    · go_enter Try.func10, Try.ntmps10
      go_wp2
      go_ret
      exact ⟨by rw [← HR.out]; simp [fixB]; omega, rfl⟩
    · go_enter Try.func10, Try.ntmps10
      go_wp2
      go_ret
      exact ⟨by rw [← HR.out]; simp [fixB]; omega, rfl⟩
  · go_enter Try.func10, Try.ntmps10
    go_wp2
    go_ret
    exact ⟨by rw [← HR.out]; simp [fixB]; omega, rfl⟩

theorem fixes1_any (a : Int) (w : World) : Calls Try.prog 48 #[.int .i64 a] w fun e w' => e = .returned (.bool (!fixB a)) ∧ w' = w := by
  go_enter Try.func48, Try.ntmps48
  go_wp2_with fail
  with_reducible refine Calls.mono (fix_any _ _) ?_
  rintro e w' ⟨rfl, rfl⟩
  go_wp2
  go_ret
  exact ⟨rfl, rfl⟩

theorem wrap_sub {c f : Int} (hc : In64 c) (h0 : 0 ≤ f) (h1 : f ≤ 255) : wrap64 (c - f) = c - f ∨ (wrap64 (c - f) = c - f + 18446744073709551616 ∧ c - f < -9223372036854775808) := by
  unfold In64 at hc
  by_cases h : c - f < -9223372036854775808
  · exact .inr ⟨by unfold wrap64; omega, h⟩
  · exact .inl (by unfold wrap64; omega)

set_option maxHeartbeats 1000000 in
theorem there_any (h : RdF w x F) (c : Int) (hc : In64 c) (h0 : 0 ≤ F.first) (h1 : F.first ≤ 255) :
    Calls Try.prog 16 #[F.val x, .int .i64 c] w fun e w' => e = .returned (.tuple #[.int .i64 ((thereM F c).getD 0), .bool (thereM F c).isSome]) ∧ Ext w w' := by
  obtain ⟨r, hr⟩ : ∃ r, thereM F c = r := ⟨_, rfl⟩
  have HX := Lib.hid ((Ext.refl w).alloc (o := F.box x))
  obtain ⟨ca, cc, sa, sc, ka, kc, pa, pc, ra, rc, rfl, -⟩ := h.vals
  have hle := h.lc
  obtain ⟨y, hy⟩ : ∃ y, c - F.first = y := ⟨_, rfl⟩
  rw [hr]
  have hw := wrap_sub hc h0 h1
  rw [hy] at hw
  have hyb : -9223372036854776063 ≤ y := by unfold In64 at hc; omega
  have H1 : ∀ k : Nat, (hk : k < F.chars.length) → ∃ b off, ca = some ⟨b, off, none⟩ ∧ w.cell? ⟨b, off + k * 6 + 4, none⟩ = some (.int .i64 (metM F k).tag) ∧ b < w.heap.size := fun k hk => by
    obtain ⟨b, off, e, hc, hb⟩ := h.rc.at met_len (by omega) hk
    exact ⟨b, off, e, by have := (MetAt.mk' hc).2.2.2.2.1; rwa [metM_get hk] at this, hb⟩
  have hs := fun k => (thereM_eq F c k).2
  have hz := (thereM_none F c).2
  obtain ⟨n, hn⟩ : ∃ n, F.chars.length = n := ⟨_, rfl⟩
  rw [hn] at H1 hle hz
  simp only [hn, hy, hr] at hs hz
  obtain ⟨z, hz2⟩ : ∃ z, wrap64 y = z := ⟨_, rfl⟩
  rw [hz2] at hw
  have hwr : wrap64 (c - F.first) = z := by rw [hy, hz2]
  have HRN := Lib.hid (show z < 0 ∨ (n : Int) ≤ z → r = none from fun hh => hz fun k hk hkn => by omega)
  have HRS := Lib.hid (show ∀ k : Nat, z = k → k < n → (0 ≤ (metM F k).tag → (metM F k).tag ≤ 3 → r = some k) ∧ ((metM F k).tag < 0 ∨ 3 < (metM F k).tag → r = none) from fun k hk hkn => ⟨fun h3 h4 => hs k ⟨by omega, hkn, h3, h4⟩, fun h5 => hz fun k' hk' hkn' => by
    have : k' = k := by omega
    rw [this]; exact h5⟩)
  have hx : ∀ b o off, b < w.heap.size → w.cell? ⟨b, off, none⟩ = some o → True := fun _ _ _ _ _ => trivial
  clear hr hs hz hc hz2 hy h hw hyb hx
  rw [hn] at HX
  simp only [hn]
  clear hn
  have HLE := Lib.hid hle
  by_cases hz0 : z < 0
  · obtain rfl := HRN.out (.inl hz0)
    clear HRN HRS H1
    go_enter Try.func16, Try.ntmps16
    go_wp2
    go_ret2
    exact ⟨rfl, HX.out⟩
  · by_cases hz1 : (n : Int) ≤ z
    · obtain rfl := HRN.out (.inr hz1)
      clear HRN HRS H1
      go_enter Try.func16, Try.ntmps16
      go_wp2
      go_ret2
      exact ⟨rfl, HX.out⟩
    · obtain ⟨k, rfl⟩ : ∃ k : Nat, z = k := ⟨z.toNat, by omega⟩
      have hk : k < n := by omega
      obtain ⟨b, off, rfl, hcell, hb⟩ := H1 k hk
      obtain ⟨hr1, hr2⟩ := HRS.out k rfl hk
      have hk2 : (k : Int) < n := by omega
      clear HRN HRS H1 hz0 hz1
      generalize (metM F k).tag = tg at *
      by_cases ht : tg < 0
      · obtain rfl := hr2 (.inl ht)
        clear hr1 hr2
        go_enter Try.func16, Try.ntmps16
        go_wp2
        go_ret2
        exact ⟨rfl, HX.out⟩
      · by_cases ht3 : 3 < tg
        · obtain rfl := hr2 (.inr ht3)
          clear hr1 hr2
          go_enter Try.func16, Try.ntmps16
          go_wp2
          go_ret2
          exact ⟨rfl, HX.out⟩
        · obtain rfl := hr1 (by omega) (by omega)
          clear hr1 hr2
          go_enter Try.func16, Try.ntmps16
          go_wp2
          go_ret2
          exact ⟨rfl, HX.out⟩

/-- the font's own block -/
structure BoxF (w : World) (b : Nat) (F : Fnt) (x : FV) : Prop where
  c0 : w.cell? ⟨b, 0, none⟩ = some (.int .u32 F.check)
  c1 : w.cell? ⟨b, 1, none⟩ = some (.int .i64 F.design)
  c2 : w.cell? ⟨b, 2, none⟩ = some (.int .i64 F.first)
  c3 : w.cell? ⟨b, 3, none⟩ = some x.cv
  c4 : w.cell? ⟨b, 4, none⟩ = some x.sv
  c5 : w.cell? ⟨b, 5, none⟩ = some x.kv
  c6 : w.cell? ⟨b, 6, none⟩ = some x.pv
  c7 : w.cell? ⟨b, 7, none⟩ = some x.rv
  lt : b < w.heap.size
theorem BoxF.of {W : World} {b : Nat} {A : HProp} (h : Sat W (pts b (F.box x) * A) w) : BoxF w b F x :=
  ⟨h.cell rfl, h.cell rfl, h.cell rfl, h.cell rfl, h.cell rfl, h.cell rfl, h.cell rfl, h.cell rfl, h.lt⟩
theorem BoxF.new (w : World) (F : Fnt) (x : FV) : BoxF (w.alloc (F.box x)) w.heap.size F x := BoxF.of ((Sat.start w).alloc (F.box x))
theorem BoxF.ext {w' : World} {b : Nat} (h : BoxF w b F x) (k : Ext w w') : BoxF w' b F x :=
  ⟨k.cell h.c0, k.cell h.c1, k.cell h.c2, k.cell h.c3, k.cell h.c4, k.cell h.c5, k.cell h.c6, k.cell h.c7, k.lt h.lt⟩
theorem RdF.chr (h : RdF w x F) {ca : Option Addr} {n cc : Nat} (e : x.cv = .slice ca n cc) {k : Nat} (hk : k < F.chars.length) : ∃ b off, ca = some ⟨b, off, none⟩ ∧
    w.cell? ⟨b, off + k * 6, none⟩ = some (.int .i64 (metM F k).w) ∧ w.cell? ⟨b, off + k * 6 + 1, none⟩ = some (.int .i64 (metM F k).h) ∧ w.cell? ⟨b, off + k * 6 + 2, none⟩ = some (.int .i64 (metM F k).d) ∧
    w.cell? ⟨b, off + k * 6 + 3, none⟩ = some (.int .i64 (metM F k).i) ∧ w.cell? ⟨b, off + k * 6 + 4, none⟩ = some (.int .i64 (metM F k).tag) ∧ w.cell? ⟨b, off + k * 6 + 5, none⟩ = some (.int .i64 (metM F k).rest) ∧ b < w.heap.size := by
  have hr := h.rc
  rw [e] at hr
  obtain ⟨b, off, e, hc, hb⟩ := hr.at met_len (by omega) hk
  rw [metM_get hk] at hc
  obtain ⟨h0, h1, h2, h3, h4, h5⟩ := MetAt.mk' hc
  exact ⟨b, off, e, h0, h1, h2, h3, h4, h5, hb⟩
def stp0 : Stp := ⟨0, 0, 0, 0⟩
def stpM (F : Fnt) (k : Nat) : Stp := F.steps.getD k stp0
theorem stpM_get {F : Fnt} {k : Nat} (h : k < F.steps.length) : F.steps[k] = stpM F k := by
  unfold stpM
  rw [List.getD_eq_getElem?_getD, List.getElem?_eq_getElem h]; rfl
theorem RdF.stp (h : RdF w x F) {ca : Option Addr} {n cc : Nat} (e : x.sv = .slice ca n cc) {k : Nat} (hk : k < F.steps.length) : ∃ b off, ca = some ⟨b, off, none⟩ ∧
    w.cell? ⟨b, off + k * 4, none⟩ = some (.int .u8 (stpM F k).skip.toNat) ∧ w.cell? ⟨b, off + k * 4 + 1, none⟩ = some (.int .u8 (stpM F k).next.toNat) ∧ w.cell? ⟨b, off + k * 4 + 2, none⟩ = some (.int .u8 (stpM F k).op.toNat) ∧
    w.cell? ⟨b, off + k * 4 + 3, none⟩ = some (.int .u8 (stpM F k).rest.toNat) ∧ b < w.heap.size := by
  have hr := h.rs
  rw [e] at hr
  obtain ⟨b, off, e, hc, hb⟩ := hr.at stp_len (by omega) hk
  rw [stpM_get hk] at hc
  obtain ⟨h0, h1, h2, h3⟩ := StpAt.mk' hc
  exact ⟨b, off, e, h0, h1, h2, h3, hb⟩
def pce0 : Pce := ⟨0, 0, 0, 0⟩
def pceM (F : Fnt) (k : Nat) : Pce := F.pieces.getD k pce0
theorem pceM_get {F : Fnt} {k : Nat} (h : k < F.pieces.length) : F.pieces[k] = pceM F k := by
  unfold pceM
  rw [List.getD_eq_getElem?_getD, List.getElem?_eq_getElem h]; rfl
theorem RdF.pce (h : RdF w x F) {ca : Option Addr} {n cc : Nat} (e : x.pv = .slice ca n cc) {k : Nat} (hk : k < F.pieces.length) : ∃ b off, ca = some ⟨b, off, none⟩ ∧
    w.cell? ⟨b, off + k * 4, none⟩ = some (.int .u8 (pceM F k).a.toNat) ∧ w.cell? ⟨b, off + k * 4 + 1, none⟩ = some (.int .u8 (pceM F k).b.toNat) ∧ w.cell? ⟨b, off + k * 4 + 2, none⟩ = some (.int .u8 (pceM F k).c.toNat) ∧
    w.cell? ⟨b, off + k * 4 + 3, none⟩ = some (.int .u8 (pceM F k).d.toNat) ∧ b < w.heap.size := by
  have hr := h.rp
  rw [e] at hr
  obtain ⟨b, off, e, hc, hb⟩ := hr.at pce_len (by omega) hk
  rw [pceM_get hk] at hc
  obtain ⟨h0, h1, h2, h3⟩ := PceAt.mk' hc
  exact ⟨b, off, e, h0, h1, h2, h3, hb⟩
theorem RdL.int {v : Value} {L : List Int} {ca : Option Addr} {n cc : Nat} (h : RdL intC 1 w v L) (e : v = .slice ca n cc) {k : Nat} (hk : k < L.length) : ∃ b off, ca = some ⟨b, off, none⟩ ∧ w.cell? ⟨b, off + k, none⟩ = some (.int .i64 L[k]) ∧ b < w.heap.size := by
  rw [e] at h
  obtain ⟨b, off, e, hc, hb⟩ := h.at int_len (by omega) hk
  exact ⟨b, off, e, by have := hc 0 _ rfl; simpa using this, hb⟩
theorem u8i (c : UInt8) : (c.toNat : Int) < 256 := by have := c.toNat_lt; omega

theorem edge_nil (h : F.steps = []) : edgeM F = -1 := by unfold edgeM; rw [h]
theorem edge_cons (h : 0 < F.steps.length) : edgeM F = if (stpM F 0).skip.toNat = 255 then ((stpM F 0).next.toNat : Int) else -1 := by
  unfold edgeM stpM
  cases hs : F.steps with
  | nil => rw [hs] at h; cases h
  | cons s l =>
    simp only [List.getD_cons_zero]
    by_cases hk : s.skip = 255
    · rw [if_pos hk, if_pos (by rw [hk]; rfl)]
    · rw [if_neg hk, if_neg (fun h => hk (UInt8.toNat.inj (by rw [h]; rfl)))]

set_option maxHeartbeats 1000000 in
set_option maxRecDepth 100000 in
theorem boundary_any (h : RdF w x F) : Calls Try.prog 49 #[F.val x] w fun e w' => e = .returned (.int .i64 (edgeM F)) ∧ Ext w w' := by
  have HX := Lib.hid ((Ext.refl w).alloc (o := F.box x))
  obtain ⟨ca, cc, sa, sc, ka, kc, pa, pc, ra, rc, rfl, -⟩ := h.vals
  have hle := h.ls
  by_cases hn : 0 < F.steps.length
  · obtain ⟨b, off, rfl, c0, c1, -, -, lb⟩ := h.stp rfl hn
    rw [Nat.zero_mul, Nat.add_zero] at c0 c1
    have he := edge_cons hn
    have hb := u8i (stpM F 0).next
    have hn2 : (0 : Int) < F.steps.length := by omega
    generalize (stpM F 0).skip.toNat = sk at *
    generalize (stpM F 0).next.toNat = nx at *
    clear h
    by_cases hs : sk = 255
    · rw [if_pos hs] at he
      rw [he]
      have hs2 : (sk : Int) = 255 := by omega
      clear he hs
      go_enter Try.func49, Try.ntmps49
      go_wp2
      go_ret
      exact ⟨rfl, HX.out⟩
    · rw [if_neg hs] at he
      rw [he]
      have hs2 : ¬ (sk : Int) = 255 := by omega
      clear he hs
      go_enter Try.func49, Try.ntmps49
      go_wp2
      go_ret
      exact ⟨rfl, HX.out⟩
  · have h0 : F.steps.length = 0 := by omega
    rw [edge_nil (List.eq_nil_of_length_eq_zero h0)]
    clear h hn hle
    rw [h0] at HX ⊢
    go_enter Try.func49, Try.ntmps49
    go_wp2
    go_ret
    exact ⟨rfl, HX.out⟩
end Go.Proofs.Ytembknlhocijkaa
