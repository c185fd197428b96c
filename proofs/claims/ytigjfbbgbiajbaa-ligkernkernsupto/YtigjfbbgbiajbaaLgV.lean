/-
  There, as the law has it; the law's live. Conditions: those that each theorem names.
-/
import Derived.Test.YtigjfbbgbiajbaaLgU
namespace Go.Proofs.Ytigjfbbgbiajbaa
open Go.RowKit Go.Sp
variable {w W : World} {x : FV} {F : Fnt} {A : HProp}

theorem tag_of (h : checkB F = true) : ∀ k, k < F.chars.length → (metM F k).tag ≤ 3 := by
  unfold checkB at h
  simp only [Bool.and_eq_true] at h
  intro k hk
  have := List.all_eq_true.1 h.1.1.2 _ (metM_mem hk)
  unfold charB at this
  split at this
  · omega
  split at this
  · cases this
  split at this
  · omega
  split at this
  · omega
  split at this
  · omega
  split at this
  · omega
  · cases this
set_option maxRecDepth 100000 in
set_option maxHeartbeats 2000000 in
theorem rthere_any (h : RdF w x F) (c : UInt8) (h0 : 0 ≤ F.first) (h1 : F.first ≤ 255) (h3 : ∀ k, k < F.chars.length → (metM F k).tag ≤ 3) :
    Calls Try.prog 8 #[F.val x, .int .i64 c.toNat] w fun e w' => e = .returned (.bool (thereM F c.toNat).isSome) ∧ Ext w w' := by
  obtain ⟨r, hr⟩ : ∃ r, thereM F c.toNat = r := ⟨_, rfl⟩
  have HX := Lib.hid ((Ext.refl w).alloc (o := F.box x))
  obtain ⟨ca, cc, sa, sc, ka, kc, pa, pc, ra, rc, rfl, -⟩ := h.vals
  have hle := h.lc
  have uc := u8i c
  obtain ⟨z, hz⟩ : ∃ z : Int, (c.toNat : Int) = z := ⟨_, rfl⟩
  rw [hr]
  rw [hz] at hr
  have H1 : ∀ k : Nat, (hk : k < F.chars.length) → ∃ b off, ca = some ⟨b, off, none⟩ ∧ w.cell? ⟨b, off + k * 6 + 4, none⟩ = some (.int .i64 (metM F k).tag) ∧ b < w.heap.size := fun k hk => by
    obtain ⟨b, off, e, hc, hb⟩ := h.rc.at met_len (by omega) hk
    exact ⟨b, off, e, by have := (MetAt.mk' hc).2.2.2.2.1; rwa [metM_get hk] at this, hb⟩
  have hs := fun k => (thereM_eq F c.toNat k).2
  have hn0 := (thereM_none F c.toNat).2
  obtain ⟨n, hn⟩ : ∃ n, F.chars.length = n := ⟨_, rfl⟩
  obtain ⟨f, hf⟩ : ∃ f, F.first = f := ⟨_, rfl⟩
  rw [hn] at H1 hle hn0 h3
  simp only [hn, hz, hr, hf] at hs hn0
  rw [hz] at uc
  rw [hf] at h0 h1
  simp only [Fnt.box] at HX
  have HRN := Lib.hid (show z < f ∨ f + n ≤ z → r = none from fun hh => hn0 fun k hk hkn => by omega)
  have HRS := Lib.hid (show ∀ k : Nat, z - f = k → k < n → (0 ≤ (metM F k).tag → r = some k) ∧ ((metM F k).tag < 0 → r = none) from fun k hk hkn => ⟨fun h5 => hs k ⟨by omega, hkn, h5, h3 k hkn⟩, fun h5 => hn0 fun k' hk' hkn' => by
    have : k' = k := by omega
    rw [this]; exact .inl h5⟩)
  rw [hn, hf] at HX
  simp only [Fnt.val, hn, hf, hz]
  clear hr hs hn0 h hn hf hz h3
  by_cases hz0 : z < f
  · obtain rfl := HRN.out (.inl hz0)
    have hz2 : ¬ f ≤ z := by omega
    clear HRN HRS H1 hz0
    go_enter Try.func8, Try.ntmps8
    go_wp2
    go_ret
    exact ⟨rfl, HX.out⟩
  · have hz2 : f ≤ z := by omega
    by_cases hz1 : f + n ≤ z
    · obtain rfl := HRN.out (.inr hz1)
      have hz3 : ¬ z < f + n := by omega
      clear HRN HRS H1 hz0
      go_enter Try.func8, Try.ntmps8
      go_wp2
      go_ret
      exact ⟨rfl, HX.out⟩
    · obtain ⟨k, hk1⟩ : ∃ k : Nat, z - f = k := ⟨(z - f).toNat, by omega⟩
      have hk : k < n := by omega
      have hz3 : z < f + n := by omega
      have hzk : z = f + k := by omega
      obtain ⟨b, off, rfl, hcell, hb⟩ := H1 k hk
      obtain ⟨hr1, hr2⟩ := HRS.out k hk1 hk
      have hwr : wrap64 (z - f) = k := by rw [hk1]; unfold wrap64; omega
      have hk2 : (k : Int) < n := by omega
      clear HRN HRS H1 hz0 hz1 hzk
      generalize (metM F k).tag = tg at *
      by_cases ht : 0 ≤ tg
      · obtain rfl := hr1 ht
        clear hr1 hr2
        go_enter Try.func8, Try.ntmps8
        go_wp2
        go_ret
        exact ⟨rfl, HX.out⟩
      · obtain rfl := hr2 (by omega)
        clear hr1 hr2
        go_enter Try.func8, Try.ntmps8
        go_wp2
        go_ret
        exact ⟨rfl, HX.out⟩
end Go.Proofs.Ytigjfbbgbiajbaa
