import Derived.Test.YtjeinldhbajknaaMDvRV
/-
  The document's Fonts. Conditions: those that each theorem names.
-/
namespace Go.Proofs.Ytjeinldhbajknaa
open Go.RowKit Go.Sp Go.Conc
variable {W w w' : World} {A : HProp}

set_option maxRecDepth 100000 in
set_option maxHeartbeats 4000000 in
theorem fontsR_any {v : Value} {l : List UInt8} (hv : ∀ w', Sat W A w' → Rd w' v l.length 1 (l.map byteV)) (hcap : ∀ a n c, v = .slice a n c → l.length ≤ c) (h : Sat W A w) :
    Calls Try.prog 17 #[v] w fun e w' => ∃ fa fc, e = .returned (.tuple #[.slice fa (againM l).length fc, .int .i64 (errM l)]) ∧
      Sat W (row (.slice fa (againM l).length fc) (againM l).length 57 5 (flatD (againM l)) * A) w' := by
  have HW := Lib.hid (wholeR_any hv hcap h)
  clear hv hcap h
  go_enter Try.func17, Try.ntmps17
  go_wp2_with fail
  with_reducible refine Calls.mono HW.out ?_
  clear HW
  rintro e w2 (⟨hbig, cs, ⟨s, dv, av, pv, tv, ⟨⟨_, _, _, rfl⟩, ⟨_, _, _, rfl⟩, ⟨_, _, _, rfl⟩, ⟨_, _, _, rfl⟩⟩, rfl⟩, rfl, h2⟩ | ⟨hle, hn, cs, ⟨s, dv, av, pv, tv, ⟨⟨_, _, _, rfl⟩, ⟨_, _, _, rfl⟩, ⟨_, _, _, rfl⟩, ⟨_, _, _, rfl⟩⟩, rfl⟩, rfl, h2⟩ | ⟨hle, os, s, V, oa, oc, dv, av, pv, tv, hs, hmap, hin, hfit, rfl, h2⟩)
  · obtain ⟨e1, -, e2, -⟩ := res_big hbig
    have HE := Lib.hid e1
    have HO := Lib.hid e2
    have H2 := Lib.hid (Sat.row_nil (e := 57) (size := 5) h2)
    clear hbig h2 e1 e2
    go_wp2
    go_ret2
    refine ⟨none, 0, by rw [HO.out, HE.out]; rfl, ?_⟩
    rw [HO.out]
    exact H2.out.allocD
  · obtain ⟨e1, -, e2, -⟩ := res_none hle hn
    have HE := Lib.hid e1
    have HO := Lib.hid e2
    have H2 := Lib.hid (Sat.row_nil (e := 57) (size := 5) h2)
    clear hle hn h2 e1 e2
    go_wp2
    go_ret2
    refine ⟨none, 0, by rw [HO.out, HE.out]; rfl, ?_⟩
    rw [HO.out]
    exact H2.out.allocD
  · obtain ⟨r1, -, r2, -, -⟩ := res_some hle hs
    have HE := Lib.hid r1
    have HO := Lib.hid r2
    obtain ⟨_, _, e1, -⟩ := h2.r.r.row_val
    obtain ⟨aa, ac, e2, -⟩ := h2.r.r.r.row_val
    obtain ⟨_, _, _, e3⟩ := hin.1.slice (fun x hx => argsH_rd h2.r hx)
    obtain ⟨_, _, _, e4⟩ := hin.2.slice (fun x hx => argsH_rd h2.r hx)
    subst e1 e2 e3 e4
    have H2 := Lib.hid h2.r.r.r
    clear hle hs hmap hin hfit h2 r1 r2
    go_wp2
    go_ret2
    refine ⟨aa, ac, by rw [HO.out, HE.out]; rfl, ?_⟩
    rw [HO.out]
    exact H2.out.allocD


end Go.Proofs.Ytjeinldhbajknaa
