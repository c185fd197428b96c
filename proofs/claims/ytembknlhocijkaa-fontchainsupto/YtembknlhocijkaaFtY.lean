
/-
  What must come: the small font, written and read. Conditions: none.
-/
import Derived.Test.YtembknlhocijkaaFtW
import Derived.Test.YtembknlhocijkaaFtX
namespace Go.Proofs.Ytembknlhocijkaa
open Go.RowKit Go.Sp
variable {w w' W : World} {A : HProp} {x : FV}

set_option maxRecDepth 100000 in
set_option maxHeartbeats 8000000 in
theorem knows_any (w : World) : Calls Try.prog 7 #[] w fun e w' => e = .returned (.bool true) ∧ Ext w w' := by
  have H1 := Lib.hid (small_any w)
  have HN := Lib.hid (fun a w => num_any a w)
  go_enter Try.func7, Try.ntmps7
  go_wp2_with fail
  with_reducible refine Calls.mono H1.out ?_
  rintro e w1 ⟨x, rfl, hr, hx⟩
  have H2 := Lib.hid (write_any hr)
  have HX1 := Lib.hid hx
  clear hr hx H1
  go_wp2_with fail
  with_reducible refine Calls.mono H2.out ?_
  rintro e w2 ⟨u, rfl, hu, hx⟩
  obtain ⟨ua, uc, rfl, -⟩ := hu.val
  have H3 := Lib.hid (read_file (RdA.of hu (by decide)))
  have HX2 := Lib.hid (HX1.out.trans hx)
  rw [show smallB.length = 68 from by decide] at *
  clear hu hx H2 HX1
  go_wp2_with fail
  with_reducible refine Calls.mono H3.out ?_
  rintro e w3 ⟨y, rfl, hr, hx⟩
  have hs := (hx.toSat).alloc (smallF.box y)
  obtain ⟨bq, hb3⟩ : ∃ bq, w3.heap.size = bq := ⟨_, rfl⟩
  obtain ⟨W4, hW4⟩ : ∃ W4, w3.alloc (smallF.box y) = W4 := ⟨_, rfl⟩
  rw [hb3, hW4] at hs
  have hs3 := (Sat.start w3).alloc (smallF.box y)
  rw [hb3, hW4] at hs3
  have H4 := Lib.hid (at_small (hr.ext hs3.r.toExt))
  have HX4 := Lib.hid (HX2.out.trans hs.r.toExt)
  have HB := Lib.hid (BoxF.of hs)
  have HW4 := Lib.hid hW4
  have HB3 := Lib.hid hb3
  obtain ⟨cb, co, cc, sa, sc, ka, kc, pa, pc, rb, ro, rc, rfl, -⟩ := small_vals hr
  clear hs hs3 hr hx hb3 hW4 H3 HX2
  go_upto_region 3 with fail
  rw [HB3.out, show w3.alloc _ = W4 from HW4.out]
  clear HB3 HW4
  have b0 := HB.out.c0
  have b1 := HB.out.c1
  have b2 := HB.out.c2
  have b3 := HB.out.c3
  have b4 := HB.out.c4
  have b5 := HB.out.c5
  have b6 := HB.out.c6
  have b7 := HB.out.c7
  have lq := HB.out.lt
  go_wp2_with fail
  with_reducible refine Calls.mono H4.out ?_
  rintro e w5 ⟨rfl, hx⟩
  have HX5 := Lib.hid (HX4.out.trans hx)
  have HB2 := Lib.hid (HB.out.ext hx)
  clear hx b0 b1 b2 b3 b4 b5 b6 b7 lq HB HX4 H4
  have b0 := HB2.out.c0
  have b1 := HB2.out.c1
  have b2 := HB2.out.c2
  have b3 := HB2.out.c3
  have b4 := HB2.out.c4
  have b5 := HB2.out.c5
  have b6 := HB2.out.c6
  have b7 := HB2.out.c7
  have lq := HB2.out.lt
  simp only [smallF] at b0
  go_wp2_with fail
  with_reducible refine Calls.mono (HN.out _ _) ?_
  rintro e w7 ⟨rfl, hw7⟩
  have hw8 := hw7.symm
  clear hw7
  subst hw8
  go_wp2_with fail
  with_reducible refine Calls.mono (HN.out _ _) ?_
  rintro e w7 ⟨rfl, hw7⟩
  have hw8 := hw7.symm
  clear hw7
  subst hw8
  go_wp2_with fail
  with_reducible refine Calls.mono (HN.out _ _) ?_
  rintro e w7 ⟨rfl, hw7⟩
  have hw8 := hw7.symm
  clear hw7
  subst hw8
  go_wp2
  go_ret
  exact ⟨rfl, HX5.out⟩
end Go.Proofs.Ytembknlhocijkaa
