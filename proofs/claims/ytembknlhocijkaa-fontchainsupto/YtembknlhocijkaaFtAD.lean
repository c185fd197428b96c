
/-
  FontChains, walked. Conditions: those that each theorem names.
-/
import Derived.Test.YtembknlhocijkaaFtAC
namespace Go.Proofs.Ytembknlhocijkaa
open Go.RowKit Go.Sp
variable {w w' W : World} {A : HProp} {x : FV} {F : Fnt}

def boolA (S : Nat → Bool) : Array Value := ((List.range 256).map fun j => Value.bool (S j)).toArray
abbrev boolO (S : Nat → Bool) : Obj := .cells (boolA S) 39
theorem zb_eq : Try.zeroCells39 = boolA (fun _ => false) := by kernel_rfl
theorem boolA_get (S : Nat → Bool) {c : Nat} (hc : c < 256) : (boolA S)[c]? = some (.bool (S c)) := by
  unfold boolA
  simp [hc]
theorem boolA_set (S : Nat → Bool) (c : Nat) : (boolA S).setIfInBounds c (.bool true) = boolA (fun j => S j || decide (c = j)) := by
  unfold boolA
  apply Array.ext'
  simp only [Array.toList_setIfInBounds]
  apply List.ext_getElem
  · simp
  · intro i h1 h2
    simp only [List.getElem_set, List.getElem_map, List.getElem_range]
    by_cases h : c = i
    · simp [h]
    · simp [h]
/-- the characters met so far -/
def seen (L : List UInt8) (k : Nat) (j : Nat) : Bool := (L.take k).any fun c => decide (c.toNat = j)
theorem seen_zero (L : List UInt8) : seen L 0 = fun _ => false := by funext j; simp [seen]
theorem seen_succ {L : List UInt8} {k : Nat} (hk : k < L.length) : seen L (k + 1) = fun j => seen L k j || decide (L[k].toNat = j) := by
  funext j
  unfold seen
  rw [List.take_succ_eq_append_getElem hk, List.any_append]
  simp
theorem seen_no {L : List UInt8} {c : UInt8} (h : Chain F c L) {k : Nat} (hk : k < L.length) : seen L k L[k].toNat = false := by
  unfold seen
  rw [List.any_eq_false]
  intro y hy
  obtain ⟨i, hi, rfl⟩ := List.getElem_of_mem hy
  rw [List.length_take] at hi
  rw [List.getElem_take]
  simp only [decide_eq_true_eq]
  intro e
  have e2 : L[i]'(by omega) = L[k] := UInt8.toNat_inj.1 e
  refine h.once (i := i) (j := k) (by omega) hk ?_
  rw [List.getD_eq_getElem?_getD, List.getD_eq_getElem?_getD, List.getElem?_eq_getElem (show i < L.length by omega), List.getElem?_eq_getElem hk, e2]
theorem chain_head {L : List UInt8} {c : UInt8} (h : Chain F c L) : 0 < L.length ∧ L.getD 0 0 = c := by
  obtain ⟨-, -, h3, -⟩ := h
  cases L with
  | nil => cases h3
  | cons a l => simp only [List.head?_cons, Option.some.injEq] at h3; subst h3; exact ⟨by simp, rfl⟩
theorem chain_last {L : List UInt8} {c : UInt8} (h : Chain F c L) {k : Nat} (hk : k < L.length) (hl : ¬ k + 1 < L.length) : (metR F L[k].toNat).tag ≠ 2 := by
  obtain ⟨-, -, -, D, d, rfl, hd⟩ := h
  simp only [List.length_append, List.length_singleton] at hk hl
  obtain rfl : k = D.length := by omega
  simpa using hd
set_option maxRecDepth 100000 in
set_option maxHeartbeats 8000000 in
theorem chains_any (h : RdF w x F) (c : UInt8) : Calls Try.prog 4 #[F.val x, .int .u8 c.toNat] w fun e w' => e = .returned (.bool true) ∧ Ext w w' := by
  have HS := (Sat.start w).alloc (F.box x)
  obtain ⟨W1, hW1⟩ : ∃ W1, w.alloc (F.box x) = W1 := ⟨_, rfl⟩
  obtain ⟨bf, hbf⟩ : ∃ bf, w.heap.size = bf := ⟨_, rfl⟩
  rw [hW1, hbf] at HS
  have HB := Lib.hid (BoxF.of HS)
  have HE1 := Lib.hid HS.r.toExt
  have HRD := Lib.hid (h.ext HS.r.toExt)
  have HNX := Lib.hid (next_any HRD.out c)
  have HK := Lib.hid (fun w => knows_any w)
  have HN := Lib.hid (fun a w => num_any a w)
  obtain ⟨ca, cc, sa, sc, ka, kc, pa, pc, ra, rc, rfl, -⟩ := h.vals
  simp only [Fnt.box] at hW1
  have HW1 := Lib.hid hW1
  have HBF := Lib.hid hbf
  have uc := u8i c
  clear HS h hW1 hbf
  go_enter Try.func4, Try.ntmps4
  go_upto_region 1 with fail
  rw [HBF.out, HW1.out]
  clear HBF HW1
  have b0 := HB.out.c0
  have b1 := HB.out.c1
  have b2 := HB.out.c2
  have b3 := HB.out.c3
  have b4 := HB.out.c4
  have b5 := HB.out.c5
  have b6 := HB.out.c6
  have b7 := HB.out.c7
  have lq := HB.out.lt
  go_wp2_with fail
  with_reducible refine Calls.mono HNX.out ?_
  rintro e w2 (⟨er, rfl, hne, hx⟩ | ⟨u, rfl, hck, L, hch, hlen, hu, hx⟩)
  · have hne2 : (er != 0) = true := by rw [bne_iff_ne]; exact hne
    have HX := Lib.hid (HE1.out.trans hx)
    clear hx HNX
    go_wp2_with fail
    with_reducible refine Calls.mono (HN.out _ _) ?_
    rintro e w7 ⟨rfl, hw7⟩
    have hw8 := hw7.symm
    clear hw7
    subst hw8
    go_wp2_with fail
    with_reducible refine Calls.mono (HK.out _) ?_
    rintro e w3 ⟨rfl, hx⟩
    have HX3 := Lib.hid (HX.out.trans hx)
    clear hx
    go_wp2
    go_ret
    exact ⟨rfl, HX3.out⟩
  · have HCK := Lib.hid hck
    have HCH := Lib.hid hch
    obtain ⟨ua, ucp, rfl, -⟩ := hu.val
    have h0 := (chain_head hch).1
    have HU := Lib.hid hu
    have HX := Lib.hid hx
    obtain ⟨n, hn⟩ : ∃ n, L.length = n := ⟨_, rfl⟩
    have HNL := Lib.hid hn
    rw [hn] at h0 hlen
    clear hx HNX hck hch hu
    rw [hn]
    clear hn
    go_wp2_with fail
    with_reducible refine Calls.mono (HN.out _ _) ?_
    rintro e w7 ⟨rfl, hw7⟩
    have hw8 := hw7.symm
    clear hw7
    subst hw8
    go_wp2_with fail
    with_reducible refine Calls.mono (HK.out _) ?_
    rintro e w3 ⟨rfl, hx⟩
    have HX3 := Lib.hid (HX.out.trans hx)
    have HU3 := Lib.hid (HU.out.ext hx)
    have HB3 := Lib.hid (HB.out.ext HX3.out)
    clear hx HX HU b0 b1 b2 b3 b4 b5 b6 b7 lq HB
    have h00 : 0 < L.length := by rw [HNL.out]; exact h0
    obtain ⟨g, o, rfl, hcc, lb⟩ := HU3.out.at byte_len (by omega) h00
    have c0 := hcc 0 _ rfl
    simp only [Nat.zero_mul, Nat.add_zero] at c0
    have hc0 : L[0] = c := by have := (chain_head HCH.out).2; rw [List.getD_eq_getElem?_getD, List.getElem?_eq_getElem h00] at this; exact this
    rw [hc0] at c0
    have h0i : (0 : Int) < n := by omega
    have hn0 : ((n : Int) == 0) = false := beq_eq_false_iff_ne.2 (by omega)
    have hz := (Sat.start w3).alloc (.cells Try.zeroCells39 39)
    rw [show (Obj.cells Try.zeroCells39 39) = boolO (fun _ => false) from by rw [zb_eq]] at hz
    obtain ⟨b7', hb7⟩ : ∃ b7', w3.heap.size = b7' := ⟨_, rfl⟩
    obtain ⟨W4, hW4⟩ : ∃ W4, w3.alloc (.cells Try.zeroCells39 39) = W4 := ⟨_, rfl⟩
    rw [hb7, show w3.alloc (boolO (fun _ => false)) = W4 from by rw [← hW4, zb_eq]] at hz
    have HS4 := Lib.hid hz
    have HW4 := Lib.hid hW4
    have HB7 := Lib.hid hb7
    clear h00 hcc hc0 hz hW4 hb7
    go_upto_region 7 with fail
    rw [HB7.out, HW4.out]
    clear HB7 HW4 c0 lb
    have hni : (n : Int) ≤ 259 := by omega
    have HMA := Lib.hid (fun (w : World) (k : Ext w3 w) (d : UInt8) => metric_any ((HRD.out.ext HX3.out).ext k) d (head_of HCK.out).1 (head_of HCK.out).2.1)
    go_wp2_with fail
    go_loopg [8] n (fun gg s8 wx => ∃ k : Nat, k ≤ n ∧ gg = n - k ∧ s8 = .int .i64 k ∧ Sat w3 (pts b7' (boolO (seen L k)) * own w3) wx)
    case atStart => exact ⟨0, Nat.zero_le _, rfl, rfl, by rw [seen_zero]; exact HS4.out⟩
    case round =>
      obtain ⟨k, hk, hg, rfl, hs⟩ := hrel
      have HG := Lib.hid hg
      have HS5 := Lib.hid hs
      clear hg hs HS4
      by_cases hkn : k < n
      · have hki : (k : Int) < n := by omega
        have hkL : k < L.length := by rw [HNL.out]; exact hkn
        obtain ⟨g1, o1, e1, hcc, lb⟩ := HU3.out.at byte_len (by omega) hkL
        simp only [Option.some.injEq, Addr.mk.injEq, and_true] at e1
        obtain ⟨rfl, rfl⟩ := e1
        have c0 := hcc 0 _ rfl
        rw [Nat.mul_one, Nat.add_zero] at c0
        have hth := HCH.out.2.1 _ (List.getElem_mem hkL)
        have HSN := Lib.hid (seen_no HCH.out hkL)
        have HSS := Lib.hid (seen_succ hkL)
        have HLK := Lib.hid (HCH.out.1 k)
        have HLA := Lib.hid (chain_last HCH.out hkL)
        have hgk : L.getD k 0 = L[k] := by rw [List.getD_eq_getElem?_getD, List.getElem?_eq_getElem hkL]; rfl
        rw [hgk] at HLK
        obtain ⟨d, hd⟩ : ∃ d, L[k] = d := ⟨_, rfl⟩
        rw [hd] at c0 hth HSN HSS HLK HLA
        obtain ⟨⟨m1, m2, m3, m4, m5, m6⟩, hm⟩ : ∃ m, metR F d.toNat = m := ⟨_, rfl⟩
        rw [hm] at HLK HLA
        have HCC := Lib.hid c0
        have HLB := Lib.hid lb
        have HMI := Lib.hid (fun (w : World) (k : Ext w3 w) => (show Calls Try.prog 9 _ w _ from by have h := HMA.out w k d; rw [hm, hth] at h; exact h))
        have ud := u8i d
        obtain ⟨GG, hGG⟩ : ∃ GG, pts b7' (boolO (seen L k)) * own w3 = GG := ⟨_, rfl⟩
        have HGG := Lib.hid hGG
        rw [hGG] at HS5
        have HGE := Lib.hid (fun w' (h : Sat w3 GG w') => (show Ext w3 w' from (h.of_eq hGG.symm).r.toExt))
        clear hcc hth hgk hd hm hGG c0 lb
        have b0 := HB3.out.c0
        have b1 := HB3.out.c1
        have b2 := HB3.out.c2
        have b3 := HB3.out.c3
        have b4 := HB3.out.c4
        have b5 := HB3.out.c5
        have b6 := HB3.out.c6
        have b7 := HB3.out.c7
        have lq := HB3.out.lt
        go_upto_region 10 with fail
        go_cut [9, 10] from 46 to 54 (fun s9 s10 wx => ∃ b9 : Nat, s9 = .pointer (some ⟨b9, 0, none⟩) ∧ s10 = .bool true ∧ Sat w3 (pts b9 (Met.box ⟨m1, m2, m3, m4, m5, m6⟩) * GG) wx)
        case first =>
          refine wp_region_E (fun w' => Sat w3 GG w') (by kernel_rfl) ?_
          obtain ⟨W9, hW9⟩ : ∃ W9, wr.drew = W9 := ⟨_, rfl⟩
          have hx9 : Ext wr W9 := by rw [← hW9]; exact (Ext.refl wr).drew
          have h9 := HS5.out.ext hx9
          rw [hW9]
          have HS := Lib.hid h9
          clear h9 hW9 hx9
          refine wpE_take (i := 0) (q := 5) (v := ?_) rfl (by kernel_rfl) (by kernel_rfl) (by kernel_rfl) (by kernel_rfl) (by kernel_rfl) (fun _ _ _ h => h) (by rfl) ?_ ?_
          rotate_left 1
          · intro w hw; (have hw := HGE.out _ hw; have b0 := hw.cell b0; have b1 := hw.cell b1; have b2 := hw.cell b2; have b3 := hw.cell b3; have b4 := hw.cell b4; have b5 := hw.cell b5; have b6 := hw.cell b6; have b7 := hw.cell b7; have lq := hw.lt lq; have c0 := hw.cell HCC.out; have lb := hw.lt HLB.out; go_simp; try with_reducible rfl)
          refine wpE_take (i := 1) (q := 3) (v := ?_) rfl (by kernel_rfl) (by kernel_rfl) (by kernel_rfl) (by kernel_rfl) (by kernel_rfl) (fun _ _ _ h => h) (by rfl) ?_ ?_
          rotate_left 1
          · intro w hw; (have hw := HGE.out _ hw; have b0 := hw.cell b0; have b1 := hw.cell b1; have b2 := hw.cell b2; have b3 := hw.cell b3; have b4 := hw.cell b4; have b5 := hw.cell b5; have b6 := hw.cell b6; have b7 := hw.cell b7; have lq := hw.lt lq; have c0 := hw.cell HCC.out; have lb := hw.lt HLB.out; go_simp; try with_reducible rfl)
          refine wpE_take (i := 2) (q := 3) (v := ?_) rfl (by kernel_rfl) (by kernel_rfl) (by kernel_rfl) (by kernel_rfl) (by kernel_rfl) (fun _ _ _ h => h) (by rfl) ?_ ?_
          rotate_left 1
          · intro w hw; (have hw := HGE.out _ hw; have b0 := hw.cell b0; have b1 := hw.cell b1; have b2 := hw.cell b2; have b3 := hw.cell b3; have b4 := hw.cell b4; have b5 := hw.cell b5; have b6 := hw.cell b6; have b7 := hw.cell b7; have lq := hw.lt lq; have c0 := hw.cell HCC.out; have lb := hw.lt HLB.out; go_simp; try with_reducible rfl)
          refine wpE_take (i := 3) (q := 4) (v := ?_) rfl (by kernel_rfl) (by kernel_rfl) (by kernel_rfl) (by kernel_rfl) (by kernel_rfl) (fun _ _ _ h => h) (by rfl) ?_ ?_
          rotate_left 1
          · intro w hw; (have hw := HGE.out _ hw; have b0 := hw.cell b0; have b1 := hw.cell b1; have b2 := hw.cell b2; have b3 := hw.cell b3; have b4 := hw.cell b4; have b5 := hw.cell b5; have b6 := hw.cell b6; have b7 := hw.cell b7; have lq := hw.lt lq; have c0 := hw.cell HCC.out; have lb := hw.lt HLB.out; go_simp; try with_reducible rfl)
          refine wpE_take (i := 4) (q := 5) (v := ?_) rfl (by kernel_rfl) (by kernel_rfl) (by kernel_rfl) (by kernel_rfl) (by kernel_rfl) (fun _ _ _ h => h) (by rfl) ?_ ?_
          rotate_left 1
          · intro w hw; (have hw := HGE.out _ hw; have b0 := hw.cell b0; have b1 := hw.cell b1; have b2 := hw.cell b2; have b3 := hw.cell b3; have b4 := hw.cell b4; have b5 := hw.cell b5; have b6 := hw.cell b6; have b7 := hw.cell b7; have lq := hw.lt lq; have c0 := hw.cell HCC.out; have lb := hw.lt HLB.out; go_simp; try with_reducible rfl)
          refine wpE_ready (rs := [5, 9]) (by kernel_rfl) (by simp) (HS.out) ?_
          refine AllReadyE.cons rfl (fun K hK => ?_) ?_
          · skip
            go_simp
            with_reducible refine Calls.mono (HMI.out _ (HGE.out _ HS.out)) ?_
            rintro e w11 ⟨rfl, hx⟩
            have hs := HS.out.ext hx
            have HS := Lib.hid hs
            clear hs hx
            go_simp
            refine hK _ _ ?_
            clear hK K
            refine wpE_take (i := 6) (q := 7) (v := ?_) rfl (by kernel_rfl) (by kernel_rfl) (by kernel_rfl) (by kernel_rfl) (by kernel_rfl) (fun _ _ _ h => h) (by rfl) ?_ ?_
            rotate_left 1
            · intro w hw; (have hw := HGE.out _ hw; have b0 := hw.cell b0; have b1 := hw.cell b1; have b2 := hw.cell b2; have b3 := hw.cell b3; have b4 := hw.cell b4; have b5 := hw.cell b5; have b6 := hw.cell b6; have b7 := hw.cell b7; have lq := hw.lt lq; have c0 := hw.cell HCC.out; have lb := hw.lt HLB.out; go_simp; try with_reducible rfl)
            refine wpE_take (i := 7) (q := 10) (v := ?_) rfl (by kernel_rfl) (by kernel_rfl) (by kernel_rfl) (by kernel_rfl) (by kernel_rfl) (fun _ _ _ h => h) (by rfl) ?_ ?_
            rotate_left 1
            · intro w hw; (have hw := HGE.out _ hw; have b0 := hw.cell b0; have b1 := hw.cell b1; have b2 := hw.cell b2; have b3 := hw.cell b3; have b4 := hw.cell b4; have b5 := hw.cell b5; have b6 := hw.cell b6; have b7 := hw.cell b7; have lq := hw.lt lq; have c0 := hw.cell HCC.out; have lb := hw.lt HLB.out; go_simp; try with_reducible rfl)
            refine wpE_take (i := 8) (q := 11) (v := ?_) rfl (by kernel_rfl) (by kernel_rfl) (by kernel_rfl) (by kernel_rfl) (by kernel_rfl) (fun _ _ _ h => h) (by rfl) ?_ ?_
            rotate_left 1
            · intro w hw; (have hw := HGE.out _ hw; have b0 := hw.cell b0; have b1 := hw.cell b1; have b2 := hw.cell b2; have b3 := hw.cell b3; have b4 := hw.cell b4; have b5 := hw.cell b5; have b6 := hw.cell b6; have b7 := hw.cell b7; have lq := hw.lt lq; have c0 := hw.cell HCC.out; have lb := hw.lt HLB.out; go_simp; try with_reducible rfl)
            refine wpE_one (i := 9) rfl (by kernel_rfl) (HS.out) (fun K hK => ?_)
            go_simp
            refine hK _ _ ?_
            clear hK K
            have hs := HS.out.alloc met0.box
            obtain ⟨b9, hB⟩ : ∃ B, (w11).heap.size = B := ⟨_, rfl⟩
            obtain ⟨w12, hWN⟩ : ∃ WN, (w11).alloc met0.box = WN := ⟨_, rfl⟩
            rw [hB, hWN] at hs
            rw [hB, show (w11).alloc (.cells #[.int .i64 0, .int .i64 0, .int .i64 0, .int .i64 0, .int .i64 0, .int .i64 0] 41) = w12 from hWN]
            have HS := Lib.hid hs
            have HSC := Lib.hid hs.r
            clear hs hB hWN
            have j0 := HS.out.cell (i := 0) rfl
            have j1 := HS.out.cell (i := 1) rfl
            have j2 := HS.out.cell (i := 2) rfl
            have j3 := HS.out.cell (i := 3) rfl
            have j4 := HS.out.cell (i := 4) rfl
            have j5 := HS.out.cell (i := 5) rfl
            have jl := HS.out.lt
            have f0 := HS.out.free (i := 0)
            have f1 := HS.out.free (i := 1)
            have f2 := HS.out.free (i := 2)
            have f3 := HS.out.free (i := 3)
            have f4 := HS.out.free (i := 4)
            have f5 := HS.out.free (i := 5)
            have hz2 := sat_set6 HS.out (.int .i64 m1) (.int .i64 m2) (.int .i64 m3) (.int .i64 m4) (.int .i64 m5) (.int .i64 m6)
            have HZ2 := Lib.hid hz2
            have HCZ := Lib.hid hz2.r
            clear hz2 HS
            refine wpE_one (i := 10) rfl (by kernel_rfl) (HSC.out) (fun K hK => ?_)
            go_simp
            refine hK _ _ ?_
            clear hK K j0 j1 j2 j3 j4 j5 jl f0 f1 f2 f3 f4 f5 HSC
            refine wpE_one (i := 11) rfl (by kernel_rfl) (HCZ.out) (fun K hK => ?_)
            go_simp
            refine hK _ _ ?_
            clear hK K HCZ
            refine wpE_done (by kernel_rfl) (by kernel_rfl) ?_
            go_wp2
            go_meet
            exact ⟨b9, rfl, rfl, HZ2.out⟩
          refine AllReadyE.cons rfl (fun K hK => ?_) ?_
          · skip
            go_simp
            refine hK _ _ ?_
            clear hK K
            have hs := HS.out.alloc met0.box
            obtain ⟨b9, hB⟩ : ∃ B, (W9).heap.size = B := ⟨_, rfl⟩
            obtain ⟨w12, hWN⟩ : ∃ WN, (W9).alloc met0.box = WN := ⟨_, rfl⟩
            rw [hB, hWN] at hs
            rw [hB, show (W9).alloc (.cells #[.int .i64 0, .int .i64 0, .int .i64 0, .int .i64 0, .int .i64 0, .int .i64 0] 41) = w12 from hWN]
            have HS := Lib.hid hs
            have HSC := Lib.hid hs.r
            clear hs hB hWN
            refine wpE_one (i := 5) rfl (by kernel_rfl) (HSC.out) (fun K hK => ?_)
            go_simp
            with_reducible refine Calls.mono (HMI.out _ (HGE.out _ HS.out.r)) ?_
            rintro e w11 ⟨rfl, hx⟩
            have hs := HS.out.ext hx
            have HS := Lib.hid hs
            clear hs hx
            go_simp
            refine hK _ _ ?_
            clear hK K
            clear HSC
            have HSC := Lib.hid HS.out.r
            refine wpE_take (i := 6) (q := 7) (v := ?_) rfl (by kernel_rfl) (by kernel_rfl) (by kernel_rfl) (by kernel_rfl) (by kernel_rfl) (fun _ _ _ h => h) (by rfl) ?_ ?_
            rotate_left 1
            · intro w hw; (have hw := HGE.out _ hw; have b0 := hw.cell b0; have b1 := hw.cell b1; have b2 := hw.cell b2; have b3 := hw.cell b3; have b4 := hw.cell b4; have b5 := hw.cell b5; have b6 := hw.cell b6; have b7 := hw.cell b7; have lq := hw.lt lq; have c0 := hw.cell HCC.out; have lb := hw.lt HLB.out; go_simp; try with_reducible rfl)
            refine wpE_take (i := 7) (q := 10) (v := ?_) rfl (by kernel_rfl) (by kernel_rfl) (by kernel_rfl) (by kernel_rfl) (by kernel_rfl) (fun _ _ _ h => h) (by rfl) ?_ ?_
            rotate_left 1
            · intro w hw; (have hw := HGE.out _ hw; have b0 := hw.cell b0; have b1 := hw.cell b1; have b2 := hw.cell b2; have b3 := hw.cell b3; have b4 := hw.cell b4; have b5 := hw.cell b5; have b6 := hw.cell b6; have b7 := hw.cell b7; have lq := hw.lt lq; have c0 := hw.cell HCC.out; have lb := hw.lt HLB.out; go_simp; try with_reducible rfl)
            refine wpE_take (i := 8) (q := 11) (v := ?_) rfl (by kernel_rfl) (by kernel_rfl) (by kernel_rfl) (by kernel_rfl) (by kernel_rfl) (fun _ _ _ h => h) (by rfl) ?_ ?_
            rotate_left 1
            · intro w hw; (have hw := HGE.out _ hw; have b0 := hw.cell b0; have b1 := hw.cell b1; have b2 := hw.cell b2; have b3 := hw.cell b3; have b4 := hw.cell b4; have b5 := hw.cell b5; have b6 := hw.cell b6; have b7 := hw.cell b7; have lq := hw.lt lq; have c0 := hw.cell HCC.out; have lb := hw.lt HLB.out; go_simp; try with_reducible rfl)
            have j0 := HS.out.cell (i := 0) rfl
            have j1 := HS.out.cell (i := 1) rfl
            have j2 := HS.out.cell (i := 2) rfl
            have j3 := HS.out.cell (i := 3) rfl
            have j4 := HS.out.cell (i := 4) rfl
            have j5 := HS.out.cell (i := 5) rfl
            have jl := HS.out.lt
            have f0 := HS.out.free (i := 0)
            have f1 := HS.out.free (i := 1)
            have f2 := HS.out.free (i := 2)
            have f3 := HS.out.free (i := 3)
            have f4 := HS.out.free (i := 4)
            have f5 := HS.out.free (i := 5)
            have hz2 := sat_set6 HS.out (.int .i64 m1) (.int .i64 m2) (.int .i64 m3) (.int .i64 m4) (.int .i64 m5) (.int .i64 m6)
            have HZ2 := Lib.hid hz2
            have HCZ := Lib.hid hz2.r
            clear hz2 HS
            refine wpE_one (i := 10) rfl (by kernel_rfl) (HSC.out) (fun K hK => ?_)
            go_simp
            refine hK _ _ ?_
            clear hK K j0 j1 j2 j3 j4 j5 jl f0 f1 f2 f3 f4 f5 HSC
            refine wpE_one (i := 11) rfl (by kernel_rfl) (HCZ.out) (fun K hK => ?_)
            go_simp
            refine hK _ _ ?_
            clear hK K HCZ
            refine wpE_done (by kernel_rfl) (by kernel_rfl) ?_
            go_wp2
            go_meet
            exact ⟨b9, rfl, rfl, HZ2.out⟩
          exact AllReadyE.nil
        case rest =>
          obtain ⟨b9, rfl, rfl, hs⟩ := hcut
          rw [← HGG.out] at hs
          have HS7 := Lib.hid hs
          clear hs HS5 HMI HGE HGG b0 b1 b2 b3 b4 b5 b6 b7 lq
          by_cases hl : k + 1 < n
          · have hlL : k + 1 < L.length := by rw [HNL.out]; exact hl
            obtain ⟨h2, h6⟩ := HLK.out hlL
            simp only at h2 h6
            obtain ⟨g1, o1, e1, hcc, -⟩ := HU3.out.at byte_len (by omega) hlL
            simp only [Option.some.injEq, Addr.mk.injEq, and_true] at e1
            obtain ⟨rfl, rfl⟩ := e1
            have x0 := hcc 0 _ rfl
            rw [Nat.mul_one, Nat.add_zero] at x0
            rw [List.getD_eq_getElem?_getD, List.getElem?_eq_getElem hlL, Option.getD_some] at h6
            obtain ⟨d2, hd2⟩ : ∃ d2, L[k + 1] = d2 := ⟨_, rfl⟩
            rw [hd2] at x0 h6
            subst h2 h6
            have ud2 := u8i d2
            obtain ⟨W9, hW9⟩ : ∃ W9, wc.drew = W9 := ⟨_, rfl⟩
            have hx9 : Ext wc W9 := by rw [← hW9]; exact (Ext.refl wc).drew
            have hs9 := HS7.out.ext hx9
            have HS8 := Lib.hid hs9
            have d4 : W9.cell? ⟨b9, 4, none⟩ = some (.int .i64 2) := hs9.cell (i := 4) rfl
            have d5 : W9.cell? ⟨b9, 5, none⟩ = some (.int .i64 d2.toNat) := hs9.cell (i := 5) rfl
            have ld := hs9.lt
            have s0 : W9.cell? ⟨b7', d.toNat, none⟩ = some (.bool false) := by
              have := hs9.r.cell (i := d.toNat) (boolA_get _ (by omega))
              rwa [HSN.out] at this
            have l7 := hs9.r.lt
            have c0 := hs9.r.r.toExt.cell HCC.out
            have lb := hs9.r.r.toExt.lt HLB.out
            have hw1 : IntKind.i64.wrap ((n : Int) - 1) = n - 1 := IntWalk.i64_in _ (by omega)
            have c1 := hs9.r.r.toExt.cell x0
            have hw2 : IntKind.i64.wrap ((k : Int) + 1) = k + 1 := IntWalk.i64_in _ (by omega)
            have hw3 : IntKind.i64.wrap (d2.toNat : Int) = d2.toNat := IntWalk.i64_in _ (by omega)
            have hk1 : (k : Int) < n - 1 := by omega
            have hk2 : (k : Int) + 1 < n := by omega
            have hk0 : (0 : Int) ≤ (k : Int) + 1 := by omega
            clear hx9 hs9 HS7 hcc x0 hd2 hlL
            go_upto_region 11 with fail
            refine wp_region_tail (fun w' => w' = W9) 36 (by kernel_rfl) (by kernel_rfl) hW9 ?_
            clear hW9
            simp only [List.take_succ_cons, List.take_zero, List.drop_succ_cons, List.drop_zero]
            iterate 36
              with_reducible refine wpQuiet_step ?_
              intro K hK
              go_simp
              first
                | (with_reducible refine hK _ ?_
                   clear hK K)
                | (rw [if_neg (by intro h; cases h)]
                   with_reducible refine hK _ ?_
                   clear hK K)
                | (refine Exists.intro _ ⟨fun w9 hw9 => ?_, ?_⟩
                   rotate_left 1
                   with_reducible refine hK _ ?_
                   clear hK K
                   rotate_left 1
                   · subst hw9; go_simp; try with_reducible rfl)
            refine wpQuiet_nil ?_
            rintro w17 rfl
            clear d4 d5 ld s0 l7 c0 lb hw1 c1 hw2 hw3 hk1 hk2 hk0
            have c0 := HS8.out.r.r.toExt.cell HCC.out
            have lb := HS8.out.r.r.toExt.lt HLB.out
            have s0 := HS8.out.r.cell (i := d.toNat) (boolA_get _ (by omega))
            have sf := HS8.out.r.free (i := d.toNat)
            have l7 := HS8.out.r.lt
            have hz := HS8.out.r.set (i := d.toNat) (v := .bool true)
            rw [boolA_set, ← HSS.out] at hz
            have HZ := Lib.hid hz
            clear hz HS8
            go_wp2
            go_roundg (n - (k + 1))
            case measure => have := HG.out; omega
            case rel => exact ⟨k + 1, by omega, rfl, by go_num, HZ.out⟩
          · have h2 := HLA.out (by rw [HNL.out]; exact hl)
            simp only at h2
            have h2b : (m5 == 2) = false := beq_eq_false_iff_ne.2 h2
            obtain ⟨W9, hW9⟩ : ∃ W9, wc.drew = W9 := ⟨_, rfl⟩
            have hx9 : Ext wc W9 := by rw [← hW9]; exact (Ext.refl wc).drew
            have hs9 := HS7.out.ext hx9
            have HS8 := Lib.hid hs9
            have d4 : W9.cell? ⟨b9, 4, none⟩ = some (.int .i64 m5) := hs9.cell (i := 4) rfl
            have d5 : W9.cell? ⟨b9, 5, none⟩ = some (.int .i64 m6) := hs9.cell (i := 5) rfl
            have ld := hs9.lt
            have s0 : W9.cell? ⟨b7', d.toNat, none⟩ = some (.bool false) := by
              have := hs9.r.cell (i := d.toNat) (boolA_get _ (by omega))
              rwa [HSN.out] at this
            have l7 := hs9.r.lt
            have c0 := hs9.r.r.toExt.cell HCC.out
            have lb := hs9.r.r.toExt.lt HLB.out
            have hw1 : IntKind.i64.wrap ((n : Int) - 1) = n - 1 := IntWalk.i64_in _ (by omega)
            have hk1 : ¬ (k : Int) < n - 1 := by omega
            clear hx9 hs9 HS7
            go_upto_region 11 with fail
            refine wp_region_tail (fun w' => w' = W9) 36 (by kernel_rfl) (by kernel_rfl) hW9 ?_
            clear hW9
            simp only [List.take_succ_cons, List.take_zero, List.drop_succ_cons, List.drop_zero]
            iterate 36
              with_reducible refine wpQuiet_step ?_
              intro K hK
              go_simp
              first
                | (with_reducible refine hK _ ?_
                   clear hK K)
                | (rw [if_neg (by intro h; cases h)]
                   with_reducible refine hK _ ?_
                   clear hK K)
                | (refine Exists.intro _ ⟨fun w9 hw9 => ?_, ?_⟩
                   rotate_left 1
                   with_reducible refine hK _ ?_
                   clear hK K
                   rotate_left 1
                   · subst hw9; go_simp; try with_reducible rfl)
            refine wpQuiet_nil ?_
            rintro w17 rfl
            clear d4 d5 ld s0 l7 c0 lb hw1 hk1
            have c0 := HS8.out.r.r.toExt.cell HCC.out
            have lb := HS8.out.r.r.toExt.lt HLB.out
            have s0 := HS8.out.r.cell (i := d.toNat) (boolA_get _ (by omega))
            have sf := HS8.out.r.free (i := d.toNat)
            have l7 := HS8.out.r.lt
            have hz := HS8.out.r.set (i := d.toNat) (v := .bool true)
            rw [boolA_set, ← HSS.out] at hz
            have HZ := Lib.hid hz
            clear hz HS8
            go_wp2
            go_roundg (n - (k + 1))
            case measure => have := HG.out; omega
            case rel => exact ⟨k + 1, by omega, rfl, by go_num, HZ.out⟩
      · obtain rfl : k = n := by omega
        have HX5 := Lib.hid ((HE1.out.trans HX3.out).trans HS5.out.r.toExt)
        clear hkn
        go_wp2
        go_ret
        exact ⟨rfl, HX5.out⟩
end Go.Proofs.Ytembknlhocijkaa
