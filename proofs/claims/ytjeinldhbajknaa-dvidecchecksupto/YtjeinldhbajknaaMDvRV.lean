import Derived.Test.YtjeinldhbajknaaMDvRU
/-
  The document's Check, Ops, Fonts, Last. Conditions: those that each theorem names.
-/
namespace Go.Proofs.Ytjeinldhbajknaa
open Go.RowKit Go.Sp Go.Conc
variable {W w w' : World} {A : HProp}

theorem res_big {l : List UInt8} (h : 1048576 < l.length) : errM l = 6 ∧ opsM l = [] ∧ againM l = [] ∧ postM l = [] := by
  have e : fileM l = none := by unfold fileM; rw [if_pos h]
  refine ⟨by unfold errM; rw [if_pos h], ?_, ?_, ?_⟩
  · unfold opsM; rw [e]
  · unfold againM; rw [e]
  · unfold postM; rw [e]
theorem res_none {l : List UInt8} (h : l.length ≤ 1048576) (hn : wholeR l = none) : errM l = 240 ∧ opsM l = [] ∧ againM l = [] ∧ postM l = [] := by
  have hm : wholeM [] l = none := by
    rcases whole_agree l with ⟨os, s, F, h1, _⟩ | ⟨_, h2⟩
    · rw [hn] at h1; cases h1
    · exact h2
  have e : fileM l = none := by unfold fileM; rw [if_neg (by omega), hm]
  refine ⟨by unfold errM; rw [if_neg (by omega), hm]; rfl, ?_, ?_, ?_⟩
  · unfold opsM; rw [e]
  · unfold againM; rw [e]
  · unfold postM; rw [e]
theorem res_some {l : List UInt8} {os : List Cmd} {s : StM} (h : l.length ≤ 1048576) (hs : wholeR l = some (os, s)) : errM l = 0 ∧ opsM l = os ∧ againM l = s.again ∧ postM l = s.tail.args ∧ s.tail.args.length = 8 := by
  rcases whole_agree l with ⟨os', s', F, h1, h2, h3, h4, h5⟩ | ⟨h1, _⟩
  · rw [hs] at h1
    cases h1
    have e : fileM l = some F := by unfold fileM; rw [if_neg (by omega), h2]
    refine ⟨by unfold errM; rw [if_neg (by omega), h2]; rfl, ?_, ?_, ?_, ?_⟩
    · unfold opsM; rw [e]; exact h3
    · unfold againM; rw [e]; exact h4
    · unfold postM; rw [e]; simp only; rw [h5]
    · rw [← h5]; exact fileM_post e
  · rw [hs] at h1; cases h1

set_option maxRecDepth 100000 in
set_option maxHeartbeats 4000000 in
theorem checkR_any {v : Value} {l : List UInt8} (hv : ∀ w', Sat W A w' → Rd w' v l.length 1 (l.map byteV)) (hcap : ∀ a n c, v = .slice a n c → l.length ≤ c) (h : Sat W A w) :
    Calls Try.prog 19 #[v] w fun e w' => e = .returned (.int .i64 (errM l)) ∧ Sat W A w' := by
  have HW := Lib.hid (wholeR_any hv hcap h)
  clear hv hcap h
  go_enter Try.func19, Try.ntmps19
  go_wp2_with fail
  with_reducible refine Calls.mono HW.out ?_
  clear HW
  rintro e w2 (⟨hbig, cs, ⟨s, dv, av, pv, tv, ⟨⟨_, _, _, rfl⟩, ⟨_, _, _, rfl⟩, ⟨_, _, _, rfl⟩, ⟨_, _, _, rfl⟩⟩, rfl⟩, rfl, h2⟩ | ⟨hle, hn, cs, ⟨s, dv, av, pv, tv, ⟨⟨_, _, _, rfl⟩, ⟨_, _, _, rfl⟩, ⟨_, _, _, rfl⟩, ⟨_, _, _, rfl⟩⟩, rfl⟩, rfl, h2⟩ | ⟨hle, os, s, V, oa, oc, dv, av, pv, tv, hs, hmap, hin, hfit, rfl, h2⟩)
  · have HE := Lib.hid (res_big hbig).1
    have H2 := Lib.hid h2
    clear hbig h2
    go_wp2
    go_ret
    exact ⟨by rw [HE.out]; rfl, H2.out.allocD⟩
  · have HE := Lib.hid (res_none hle hn).1
    have H2 := Lib.hid h2
    clear hle hn h2
    go_wp2
    go_ret
    exact ⟨by rw [HE.out]; rfl, H2.out.allocD⟩
  · have HE := Lib.hid (res_some hle hs).1
    obtain ⟨_, _, e1, -⟩ := h2.r.r.row_val
    obtain ⟨_, _, e2, -⟩ := h2.r.r.r.row_val
    obtain ⟨_, _, _, e3⟩ := hin.1.slice (fun x hx => argsH_rd h2.r hx)
    obtain ⟨_, _, _, e4⟩ := hin.2.slice (fun x hx => argsH_rd h2.r hx)
    subst e1 e2 e3 e4
    have H2 := Lib.hid h2.r.r.r.r
    clear hle hs hmap hin hfit h2
    go_wp2
    go_ret
    exact ⟨by rw [HE.out]; rfl, H2.out.allocD⟩

end Go.Proofs.Ytjeinldhbajknaa
