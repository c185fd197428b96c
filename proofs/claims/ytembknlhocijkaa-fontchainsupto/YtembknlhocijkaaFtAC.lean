
/-
  Next, walked. Conditions: those that each theorem names.
-/
import Derived.Test.YtembknlhocijkaaFtAB
namespace Go.Proofs.Ytembknlhocijkaa
open Go.RowKit Go.Sp
variable {w w' W : World} {A : HProp} {x : FV} {F : Fnt}

/-- what Next answers, when it answers -/
def NextR (F : Fnt) (c : UInt8) (w w' : World) (u : Value) : Prop := checkB F = true ∧ ∃ L, Chain F c L ∧ L.length ≤ 259 ∧ RdL byteC 1 w' u L ∧ Ext w w'
set_option maxRecDepth 100000 in
set_option maxHeartbeats 8000000 in
theorem next_any (h : RdF w x F) (c : UInt8) : Calls Try.prog 8 #[F.val x, .int .u8 c.toNat] w fun e w' =>
    (∃ er : Int, e = .returned (.tuple #[.slice none 0 0, .int .i64 er]) ∧ er ≠ 0 ∧ Ext w w') ∨ (∃ u, e = .returned (.tuple #[u, .int .i64 0]) ∧ NextR F c w w' u) := by
  have HS := (Sat.start w).alloc (F.box x)
  obtain ⟨W1, hW1⟩ : ∃ W1, w.alloc (F.box x) = W1 := ⟨_, rfl⟩
  obtain ⟨bf, hbf⟩ : ∃ bf, w.heap.size = bf := ⟨_, rfl⟩
  rw [hW1, hbf] at HS
  have HB := Lib.hid (BoxF.of HS)
  have HE1 := Lib.hid HS.r.toExt
  have HRD := Lib.hid (h.ext HS.r.toExt)
  have HC := Lib.hid (check_any HRD.out)
  obtain ⟨ca, cc, sa, sc, ka, kc, pa, pc, ra, rc, rfl, -⟩ := h.vals
  simp only [Fnt.box] at hW1
  have HW1 := Lib.hid hW1
  have HBF := Lib.hid hbf
  have uc := u8i c
  clear HS h hW1 hbf
  cases hck : checkB F with
  | false =>
    rw [show checkE F = 40 by unfold checkE; rw [hck]; rfl] at HC
    clear hck
    go_enter Try.func8, Try.ntmps8
    go_upto_region 1 with fail
    rw [HBF.out, HW1.out]
    clear HBF HW1
    have b0 := HB.out.c0
    have b1 := HB.out.c1
    have b2 := HB.out.c2
    have b3 := HB.out.c3
    have b4 := HB.out.c4
    have b5 := HB.out.c5
    have b6 := HB.out.c6
    have b7 := HB.out.c7
    have lq := HB.out.lt
    go_wp2_with fail
    with_reducible refine Calls.mono HC.out ?_
    rintro e w2 ⟨rfl, hx⟩
    have HX := Lib.hid (HE1.out.trans hx)
    clear hx
    go_wp2
    go_ret2
    exact .inl ⟨40, rfl, by decide, HX.out⟩
  | true =>
    rw [show checkE F = 0 by unfold checkE; rw [hck]; rfl] at HC
    have HCK := Lib.hid hck
    obtain ⟨h0, h1, -⟩ := head_of hck
    have HM := Lib.hid (fun (w : World) (k : Ext W1 w) (c : UInt8) => metric_any (HRD.out.ext k) c h0 h1)
    obtain ⟨q, hq⟩ : ∃ q, (thereM F c.toNat).isSome = q := ⟨_, rfl⟩
    have HQ := Lib.hid hq
    obtain ⟨⟨m1, m2, m3, m4, m5, m6⟩, hm⟩ : ∃ m, metR F c.toNat = m := ⟨_, rfl⟩
    have HMM := Lib.hid hm
    clear hck h0 h1 hq hm
    go_enter Try.func8, Try.ntmps8
    go_upto_region 1 with fail
    rw [HBF.out, HW1.out]
    clear HBF HW1
    have b0 := HB.out.c0
    have b1 := HB.out.c1
    have b2 := HB.out.c2
    have b3 := HB.out.c3
    have b4 := HB.out.c4
    have b5 := HB.out.c5
    have b6 := HB.out.c6
    have b7 := HB.out.c7
    have lq := HB.out.lt
    go_wp2_with fail
    with_reducible refine Calls.mono HC.out ?_
    rintro e w2 ⟨rfl, hx⟩
    have HX2 := Lib.hid hx
    have HB2 := Lib.hid (HB.out.ext hx)
    have hmc := HM.out w2 hx c
    rw [HQ.out, HMM.out] at hmc
    have HMC := Lib.hid hmc
    clear hx hmc HC b0 b1 b2 b3 b4 b5 b6 b7 lq
    have b0 := HB2.out.c0
    have b1 := HB2.out.c1
    have b2 := HB2.out.c2
    have b3 := HB2.out.c3
    have b4 := HB2.out.c4
    have b5 := HB2.out.c5
    have b6 := HB2.out.c6
    have b7 := HB2.out.c7
    have lq := HB2.out.lt
    go_wp2_with fail
    with_reducible refine Calls.mono HMC.out ?_
    rintro e w3 ⟨rfl, hx⟩
    have hs := ((HX2.out.trans hx).toSat).alloc (Met.box ⟨m1, m2, m3, m4, m5, m6⟩)
    obtain ⟨b7', hb7⟩ : ∃ b7', w3.heap.size = b7' := ⟨_, rfl⟩
    obtain ⟨W4, hW4⟩ : ∃ W4, w3.alloc (.cells #[.int .i64 m1, .int .i64 m2, .int .i64 m3, .int .i64 m4, .int .i64 m5, .int .i64 m6] 41) = W4 := ⟨_, rfl⟩
    have hs' := hs
    rw [hb7, show w3.alloc (Met.box ⟨m1, m2, m3, m4, m5, m6⟩) = W4 from hW4] at hs
    have HS4 := Lib.hid hs
    have HX4 := Lib.hid hs.r.toExt
    have HW4 := Lib.hid hW4
    have HB7 := Lib.hid hb7
    clear hx hs hs' hW4 hb7 HMC HB2 b0 b1 b2 b3 b4 b5 b6 b7 lq
    go_upto_region 5 with fail
    rw [HB7.out, HW4.out]
    clear HB7 HW4
    cases q with
    | false =>
      go_wp2
      go_ret2
      exact .inl ⟨42, rfl, by decide, HE1.out.trans HX4.out⟩
    | true =>
      have hck := HCK.out
      obtain ⟨k, hk⟩ := Option.isSome_iff_exists.1 HQ.out
      have hlen := (head_of hck).2.2
      have h00 := (head_of hck).1
      have HST := Lib.hid (chain_start hck hk)
      have hcl : F.chars.length ≤ 256 := by omega
      have hs := HS4.out.alloc (.cells #[.int .u8 c.toNat] 5)
      have hs2 := Sat.row_whole (size := 1) 1 hs (by simp only [maxLen]; omega) rfl
      rw [← HMM.out] at hs2
      have HS5 := Lib.hid hs2
      obtain ⟨i0, hi, hz0, hz1, hz2⟩ := info_parts3 info_by
      have HI := Lib.hid hi
      have HZ0 := Lib.hid hz0
      have HZ1 := Lib.hid hz1
      have HZ2 := Lib.hid hz2
      clear hck hk hlen h00 hs hs2 hi hz0 hz1 hz2
      go_wp2_with fail
      go_loopg [9] (F.chars.length + 2) (fun gg s9 wx => ∃ (n : Nat) (D : List UInt8) (d : UInt8), gg = n ∧ n + D.length ≤ 258 ∧ chainB F n d.toNat = true ∧ (D ++ [d]).head? = some c ∧ Link F (D ++ [d]) ∧ Theres F (D ++ [d]) ∧ Sat W1 (rowY s9 (D ++ [d]) * (pts b7' (metR F d.toNat).box * own W1)) wx)
      case atStart =>
        exact ⟨F.chars.length + 2, [], c, rfl, by simp only [List.length_nil]; omega, HST.out, rfl, fun i hi => absurd hi (by simp), fun y hy => by simp only [List.nil_append, List.mem_singleton] at hy; rw [hy]; exact HQ.out, HS5.out⟩
      case round =>
        obtain ⟨n, D, d, hg, hn, hch, hh, hl, ht, hs⟩ := hrel
        have HG := Lib.hid hg
        have HCH := Lib.hid hch
        have HH := Lib.hid hh
        have HL := Lib.hid hl
        have HT := Lib.hid ht
        clear HS5 HST hg hh hl ht HX4
        obtain ⟨⟨p1, p2, p3, p4, p5, p6⟩, hp⟩ : ∃ m, metR F d.toNat = m := ⟨_, rfl⟩
        have HP := Lib.hid hp
        rw [hp] at hs
        obtain ⟨va, vc, hv, -⟩ := (rowY_rd hs).val
        rw [List.length_append, List.length_singleton] at hv
        subst hv
        have c0 := hs.r.cell (i := 0) rfl
        have c1 := hs.r.cell (i := 1) rfl
        have c2 := hs.r.cell (i := 2) rfl
        have c3 := hs.r.cell (i := 3) rfl
        have c4 : wr.cell? ⟨b7', 4, none⟩ = some (.int .i64 p5) := hs.r.cell (i := 4) rfl
        have c5 : wr.cell? ⟨b7', 5, none⟩ = some (.int .i64 p6) := hs.r.cell (i := 5) rfl
        have lb := hs.r.lt
        have HS6 := Lib.hid hs
        clear hs hch
        by_cases h2 : p5 = 2
        · subst h2
          obtain ⟨n', rfl⟩ : ∃ n', n = n' + 1 := by
            cases n with
            | zero => exact absurd HCH.out (by simp [chainB])
            | succ n => exact ⟨n, rfl⟩
          have hcn := chain_next HCH.out (by rw [HP.out])
          rw [HP.out] at hcn
          obtain ⟨k2, hk2⟩ := chain_there hcn
          obtain ⟨hb1, hb2⟩ := there_byte HCK.out hk2
          obtain ⟨d', hd'⟩ : ∃ d' : UInt8, p6 = d'.toNat := ⟨u8 p6, by rw [u8_nat]; simp only at hb1 hb2 ⊢; omega⟩
          subst hd'
          have ud := u8i d'
          have HCN := Lib.hid hcn
          have HK2 := Lib.hid hk2
          clear hcn hk2 hb1 hb2
          obtain ⟨dl, hdl⟩ : ∃ dl, D.length = dl := ⟨_, rfl⟩
          have hrow := HS6.out
          unfold rowY at hrow
          rw [List.length_append, List.length_singleton, hdl] at hrow
          obtain ⟨E, hE⟩ : ∃ E, D ++ [d] = E := ⟨_, rfl⟩
          rw [hE] at hrow
          have HEE := Lib.hid hE
          have hel : E.length = dl + 1 := by rw [← hE, List.length_append, List.length_singleton, hdl]
          have HEL := Lib.hid hel
          clear hE hel
          rw [hdl] at hn
          have HDL := Lib.hid hdl
          have HS7 := Lib.hid hrow
          rw [hdl]
          clear hrow hdl HS6
          go_wp2_with (at_builtin; refine wpList_append_sep rfl _ _ 36 rfl i0 _ 1 Try.underlying36 HI.out HZ0.out HZ1.out HZ2.out rfl rfl HS7.out.allocD ⟨_, 0, none⟩ 1 1 [.int .u8 d'.toNat] rfl rfl (new_cells _ _ _) (byte_one [d']) (by simp only [maxLen]; omega) (by omega) ?_)
          intro v' w7 h7
          have h8 := rowY_app (L := E) (M := [d']) h7 (by rw [HEL.out]; rfl) rfl
          rw [← HEE.out] at h8
          have HS8 := Lib.hid h8
          have hxk := h8.r.r.toExt
          have HB8 := Lib.hid (HB.out.ext hxk)
          have hmc := HM.out w7 hxk d'
          obtain ⟨⟨q1, q2, q3, q4, q5, q6⟩, hq⟩ : ∃ m, metR F d'.toNat = m := ⟨_, rfl⟩
          have HQ2 := Lib.hid hq
          rw [hq, HK2.out] at hmc
          have HMC := Lib.hid hmc
          clear h7 hmc hq hxk HS7 c0 c1 c2 c3 c4 c5 lb
          have c5 : w7.cell? ⟨b7', 5, none⟩ = some (.int .i64 d'.toNat) := h8.r.cell (i := 5) rfl
          have lb := h8.r.lt
          clear h8
          have b0 := HB8.out.c0
          have b1 := HB8.out.c1
          have b2 := HB8.out.c2
          have b3 := HB8.out.c3
          have b4 := HB8.out.c4
          have b5 := HB8.out.c5
          have b6 := HB8.out.c6
          have b7 := HB8.out.c7
          have lq := HB8.out.lt
          go_wp2_with fail
          with_reducible refine Calls.mono HMC.out ?_
          rintro e w8 ⟨rfl, hx⟩
          have hs := (HS8.out.ext hx).rot
          have HS9 := Lib.hid hs
          clear hx HMC HS8 c5 lb b0 b1 b2 b3 b4 b5 b6 b7 lq HB8
          have e0 := HS9.out.cell (i := 0) rfl
          have e1 := HS9.out.cell (i := 1) rfl
          have e2 := HS9.out.cell (i := 2) rfl
          have e3 := HS9.out.cell (i := 3) rfl
          have e4 := HS9.out.cell (i := 4) rfl
          have e5 := HS9.out.cell (i := 5) rfl
          have f0 := HS9.out.free (i := 0)
          have f1 := HS9.out.free (i := 1)
          have f2 := HS9.out.free (i := 2)
          have f3 := HS9.out.free (i := 3)
          have f4 := HS9.out.free (i := 4)
          have f5 := HS9.out.free (i := 5)
          have le := HS9.out.lt
          have HS10 := Lib.hid (sat_set6 HS9.out (.int .i64 q1) (.int .i64 q2) (.int .i64 q3) (.int .i64 q4) (.int .i64 q5) (.int .i64 q6)).rot
          clear HS9 hs
          go_wp2
          go_roundg n'
          case measure => have := HG.out; omega
          case rel =>
            refine ⟨n', D ++ [d], d', rfl, by rw [List.length_append, List.length_singleton, HDL.out]; omega, HCN.out, ?_, HL.out.snoc (by rw [HP.out]) (by rw [HP.out]), ?_, by rw [HQ2.out]; exact HS10.out⟩
            · have := HH.out
              cases D with
              | nil => exact this
              | cons a D => exact this
            · intro y hy
              rcases List.mem_append.1 hy with h | h
              · exact HT.out y h
              · rw [List.mem_singleton.1 h, HK2.out]; rfl
        · go_wp2
          go_ret2
          exact .inr ⟨_, rfl, HCK.out, D ++ [d], ⟨HL.out, HT.out, HH.out, D, d, rfl, by rw [HP.out]; exact h2⟩, by rw [List.length_append, List.length_singleton]; omega, rowY_rd HS6.out, HE1.out.trans HS6.out.r.r.toExt⟩
end Go.Proofs.Ytembknlhocijkaa
