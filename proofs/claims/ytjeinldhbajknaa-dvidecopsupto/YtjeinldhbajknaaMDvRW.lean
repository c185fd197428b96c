import Derived.Test.YtjeinldhbajknaaMDvRV
/-
  The document's Ops. Conditions: those that each theorem names.
-/
namespace Go.Proofs.Ytjeinldhbajknaa
open Go.RowKit Go.Sp Go.Conc
variable {W w w' : World} {A : HProp}

set_option maxRecDepth 100000 in
set_option maxHeartbeats 4000000 in
theorem opsR_any {v : Value} {l : List UInt8} (hv : ∀ w', Sat W A w' → Rd w' v l.length 1 (l.map byteV)) (hcap : ∀ a n c, v = .slice a n c → l.length ≤ c) (h : Sat W A w) :
    Calls Try.prog 9 #[v] w fun e w' => ∃ V oa oc, V.map Prod.fst = opsM l ∧ e = .returned (.tuple #[.slice oa V.length oc, .int .i64 (errM l)]) ∧
      Sat W (row (.slice oa V.length oc) V.length 34 4 (flatO V) * (argsH V * A)) w' := by
  have HW := Lib.hid (wholeR_any hv hcap h)
  clear hv hcap h
  go_enter Try.func9, Try.ntmps9
  go_wp2_with fail
  with_reducible refine Calls.mono HW.out ?_
  clear HW
  rintro e w2 (⟨hbig, cs, ⟨s, dv, av, pv, tv, ⟨⟨_, _, _, rfl⟩, ⟨_, _, _, rfl⟩, ⟨_, _, _, rfl⟩, ⟨_, _, _, rfl⟩⟩, rfl⟩, rfl, h2⟩ | ⟨hle, hn, cs, ⟨s, dv, av, pv, tv, ⟨⟨_, _, _, rfl⟩, ⟨_, _, _, rfl⟩, ⟨_, _, _, rfl⟩, ⟨_, _, _, rfl⟩⟩, rfl⟩, rfl, h2⟩ | ⟨hle, os, s, V, oa, oc, dv, av, pv, tv, hs, hmap, hin, hfit, rfl, h2⟩)
  · obtain ⟨e1, e2, -, -⟩ := res_big hbig
    have HE := Lib.hid e1
    have HO := Lib.hid e2
    have H2 := Lib.hid (Sat.row_nil (e := 34) (size := 4) h2)
    clear hbig h2 e1 e2
    go_wp2
    go_ret2
    refine ⟨[], none, 0, by rw [HO.out]; rfl, by rw [HE.out]; rfl, ?_⟩
    exact H2.out.allocD.of_eq (by simp only [argsH]; rw [emp_star]; rfl)
  · obtain ⟨e1, e2, -, -⟩ := res_none hle hn
    have HE := Lib.hid e1
    have HO := Lib.hid e2
    have H2 := Lib.hid (Sat.row_nil (e := 34) (size := 4) h2)
    clear hle hn h2 e1 e2
    go_wp2
    go_ret2
    refine ⟨[], none, 0, by rw [HO.out]; rfl, by rw [HE.out]; rfl, ?_⟩
    exact H2.out.allocD.of_eq (by simp only [argsH]; rw [emp_star]; rfl)
  · obtain ⟨r1, r2, -, -, -⟩ := res_some hle hs
    have HE := Lib.hid r1
    have HO := Lib.hid (hmap.trans r2.symm)
    obtain ⟨da, dc, e1, -⟩ := h2.r.r.row_val
    obtain ⟨aa, ac, e2, -⟩ := h2.r.r.r.row_val
    obtain ⟨_, _, _, e3⟩ := hin.1.slice (fun x hx => argsH_rd h2.r hx)
    obtain ⟨_, _, _, e4⟩ := hin.2.slice (fun x hx => argsH_rd h2.r hx)
    subst e1 e2 e3 e4
    have H2 := Lib.hid ((h2.of_eq (show _ = row (.slice da s.defs.length dc) s.defs.length 57 5 (flatD s.defs) * (row (.slice aa s.again.length ac) s.again.length 57 5 (flatD s.again) * (row (.slice oa V.length oc) V.length 34 4 (flatO V) * (argsH V * A))) by ac_rfl)).r.r)
    clear hle hs hmap hin hfit h2 r1 r2
    go_wp2
    go_ret2
    exact ⟨V, oa, oc, HO.out, by rw [HE.out]; rfl, H2.out.allocD⟩

end Go.Proofs.Ytjeinldhbajknaa
