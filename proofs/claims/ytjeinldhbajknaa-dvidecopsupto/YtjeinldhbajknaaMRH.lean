import Derived.Test.YtjeinldhbajknaaMDvRG
/-
  The document's commands. Conditions: those that each theorem names.
-/
namespace Go.Proofs.Ytjeinldhbajknaa
open Go.RowKit Go.Sp Go.Conc
variable {W w w' : World} {A : HProp}

/-- all commands up to 249 -/
def cmdsM : Nat → Fd → List Cmd → Option (List Cmd × Fd)
  | 0, _, _ => none
  | n + 1, f, acc => if f.cmd.2.lost = true then none else if f.cmd.1.code = 249 then some (acc ++ [f.cmd.1], f.cmd.2) else cmdsM n f.cmd.2 (acc ++ [f.cmd.1])
theorem cmdsM_succ (n : Nat) (f : Fd) (acc : List Cmd) : cmdsM (n + 1) f acc = if f.cmd.2.lost = true then none else if f.cmd.1.code = 249 then some (acc ++ [f.cmd.1], f.cmd.2) else cmdsM n f.cmd.2 (acc ++ [f.cmd.1]) := rfl
theorem feedAt_next (l : List UInt8) (p : Nat) (hp : p ≤ l.length) (h : (feedAt l p).cmd.2.lost = false) : (feedAt l p).cmd.2 = feedAt l (feedAt l p).cmd.2.at_ ∧ p < (feedAt l p).cmd.2.at_ ∧ (feedAt l p).cmd.2.at_ ≤ l.length := by
  obtain ⟨m, h1, h2⟩ := past_cmd (feedAt l p)
  have h3 := cmd_less (feedAt l p)
  rw [h] at h3
  have h4 : (feedAt l p).cmd.2.l.length < (feedAt l p).l.length := by simpa using h3
  have h5 : (feedAt l p).l.length = l.length - p := by unfold feedAt; rw [List.length_drop]
  have h6 := congrArg List.length h2
  rw [List.length_drop, h5] at h6
  have h7 : (feedAt l p).at_ = p := rfl
  have h8 := cmd_sum (feedAt l p)
  rw [h5, h7] at h8
  refine ⟨?_, by omega, by omega⟩
  have e : (feedAt l p).l = l.drop p := rfl
  rw [e, List.drop_drop] at h2
  rw [h7] at h1
  generalize (feedAt l p).cmd.2 = g at *
  obtain ⟨gl, ga, go⟩ := g
  simp only at h h1 h2
  subst h h1 h2
  rfl
theorem feedAt_end (l : List UInt8) : (feedAt l l.length).cmd.2.lost = true := by
  rcases cmd_less (feedAt l l.length) with h | h
  · exact h
  · have h5 : (feedAt l l.length).l.length = 0 := by unfold feedAt; simp
    omega
theorem info_rop : (Try.prog.info? 34).map (fun i => (i.zero, i.size, i.bytes)) = some (some (.agg #[.int .i64 0, .int .i64 0, .slice none 0 0, .string ByteArray.empty]), 4, 56) := by kernel_rfl

/-- what the document's commands are -/
def CmdsPost (W : World) (A : HProp) (l : List UInt8) (e : Ending) (w' : World) : Prop :=
  (cmdsM (l.length + 1) (feedAt l 0) [] = none ∧ e = .returned (.tuple #[.slice none 0 0, .int .i64 0, .bool false]) ∧ Sat W A w') ∨
  ∃ os g V oa oc, cmdsM (l.length + 1) (feedAt l 0) [] = some (os, g) ∧ V.map Prod.fst = os ∧ e = .returned (.tuple #[.slice oa V.length oc, .int .i64 g.at_, .bool true]) ∧
    Sat W (row (.slice oa V.length oc) V.length 34 4 (flatO V) * (argsH V * A)) w'
set_option maxRecDepth 100000 in
set_option maxHeartbeats 8000000 in
theorem commands_any {ga oa cap : Nat} {l : List UInt8} (hl : l.length ≤ 1048576) (hcap : l.length ≤ cap)
    (hv : ∀ w', Sat W A w' → Rd w' (.slice (some ⟨ga, oa, none⟩) l.length cap) l.length 1 (l.map byteV)) (h : Sat W A w) :
    Calls Try.prog 35 #[.slice (some ⟨ga, oa, none⟩) l.length cap] w fun e w' => CmdsPost W A l e w' := by
  obtain ⟨RES, hR⟩ : ∃ RES, cmdsM (l.length + 1) (feedAt l 0) [] = RES := ⟨_, rfl⟩
  have HR := Lib.hid hR
  have HL := Lib.hid hl
  have HCAP := Lib.hid hcap
  have HV := Lib.hid hv
  have H0 := Lib.hid (show Sat W (row (.slice none 0 0) 0 34 4 (flatO []) * (argsH [] * A)) w from (Sat.row_nil (e := 34) (size := 4) h).of_eq (by simp only [argsH]; rw [emp_star]; rfl))
  obtain ⟨i0, hi, hz0, hz1, hz2⟩ := info_parts3 info_rop
  have HI := Lib.hid hi
  have HZ0 := Lib.hid hz0
  have HZ1 := Lib.hid hz1
  have HZ2 := Lib.hid hz2
  clear hR hl hcap hv h hi hz0 hz1 hz2
  go_enter Try.func35, Try.ntmps35
  go_wp2_with fail
  go_loopg [5, 6, 7, 8, 9] l.length (fun gg s5 s6 _ _ _ wx => ∃ (m p : Nat) (V : List (Cmd × Value)) (oa : Option Addr) (oc : Nat), l.length - p ≤ m ∧ p ≤ l.length ∧ gg = l.length - p ∧ s6 = .int .i64 p ∧ s5 = .slice oa V.length oc ∧ V.length ≤ p ∧ cmdsM (m + 1) (feedAt l p) (V.map Prod.fst) = RES ∧
    Sat W (row (.slice oa V.length oc) V.length 34 4 (flatO V) * (argsH V * A)) wx)
  case atStart => exact ⟨l.length, 0, [], none, 0, Nat.le_refl _, Nat.zero_le _, rfl, rfl, rfl, Nat.le_refl _, HR.out, H0.out⟩
  case round =>
    clear H0
    obtain ⟨m, p, V, va, vc, hmp, hp, rfl, rfl, rfl, hvp, hre, hx⟩ := hrel
    rw [cmdsM_succ] at hre
    have HX := Lib.hid hx
    by_cases hlt : p < l.length
    · have i1 : (p : Int) < (l.length : Int) := by omega
      have HC := Lib.hid (command_any p hlt HL.out HCAP.out (fun w' h => HV.out w' h.r.r) hx)
      have HRE := Lib.hid hre
      clear hre hx
      go_wp2_with fail
      with_reducible refine Calls.mono HC.out ?_
      unfold CmdPost
      rintro e w2 (⟨hlo, k1, k2, k3, k4, k5, k6, rfl, h2⟩ | ⟨hlo, vq, rfl, h2⟩)
      · have hnone : RES = none := by rw [← HRE.out, if_pos hlo]
        have H2 := Lib.hid h2.r.r
        clear h2 HC HX
        go_wp2
        go_ret3
        exact .inl ⟨by rw [HR.out, hnone], rfl, H2.out.allocD⟩
      · obtain ⟨hn1, hn2, hn3⟩ := feedAt_next l p hp hlo
        have hcs := code_small _ hlo
        have hre2 := HRE.out
        rw [if_neg (by rw [hlo]; simp)] at hre2
        obtain ⟨va0, vc0, hvq, -⟩ := h2.row_val
        subst hvq
        unfold Cmd.val
        generalize (feedAt l p).cmd.1 = o at *
        generalize (feedAt l p).cmd.2 = f' at *
        have h3 := h2.alloc (ropO o.code o.at_ (.slice va0 o.args.length vc0) ⟨o.text.toArray⟩)
        obtain ⟨b7, hb7⟩ : ∃ b7, w2.heap.size = b7 := ⟨_, rfl⟩
        rw [hb7] at h3
        obtain ⟨W3, hW3⟩ : ∃ W3, w2.alloc (ropO o.code o.at_ (.slice va0 o.args.length vc0) ⟨o.text.toArray⟩) = W3 := ⟨_, rfl⟩
        rw [hW3] at h3
        have HW3 := Lib.hid hW3
        have c0 := h3.cell (i := 0) rfl
        have c1 := h3.cell (i := 1) rfl
        have c2 := h3.cell (i := 2) rfl
        have c3 := h3.cell (i := 3) rfl
        have H3 := Lib.hid (h3.of_eq (show _ = row (.slice va V.length vc) V.length 34 4 (flatO V) * (pts b7 (ropO o.code o.at_ (.slice va0 o.args.length vc0) ⟨o.text.toArray⟩) * (rowI (.slice va0 o.args.length vc0) o.args * (argsH V * A))) by ac_rfl))
        have HN := Lib.hid (show f' = feedAt l f'.at_ ∧ p < f'.at_ ∧ f'.at_ ≤ l.length from ⟨hn1, hn2, hn3⟩)
        have HRE2 := Lib.hid hre2
        clear h2 h3 hW3 hn1 hn2 hn3 hre2 HRE HC HX hlo
        go_upto_region 5 with fail
        rw [HW3.out]
        go_wp2_with (at_builtin; refine wpList_append_sep rfl _ _ 27 rfl i0 _ 56 Try.underlying27 HI.out HZ0.out HZ1.out HZ2.out rfl rfl H3.out.allocD ⟨_, 0, none⟩ 1 1 (o.vals (.slice va0 o.args.length vc0)) rfl rfl ?_ ?_ ?_ ?_ ?_)
        · exact new_cells _ _ _
        · simp [Cmd.vals, Value.oneCell']
        · have := HL.out; simp [maxLen]; omega
        · have := HL.out; omega
        intro v2 w6 h7
        obtain ⟨va2, vc2, hv2, -⟩ := h7.row_val
        subst hv2
        obtain ⟨V2, hV2⟩ : ∃ V2, V ++ [(o, Value.slice va0 o.args.length vc0)] = V2 := ⟨_, rfl⟩
        have e1 : flatO V2 = flatO V ++ o.vals (.slice va0 o.args.length vc0) := by rw [← hV2]; simp [flatO]
        have e2 : V2.length = V.length + 1 := by rw [← hV2]; simp
        have e3 : argsH V2 = rowI (.slice va0 o.args.length vc0) o.args * argsH V := by rw [← hV2, argsH_snoc]
        have e4 : V2.map Prod.fst = V.map Prod.fst ++ [o] := by rw [← hV2]; simp
        have h8 : Sat W (pts b7 (ropO o.code o.at_ (.slice va0 o.args.length vc0) ⟨o.text.toArray⟩) * (row (.slice va2 V2.length vc2) V2.length 34 4 (flatO V2) * (argsH V2 * A))) w6 := by
          rw [e1, e2, e3]
          exact h7.of_eq (by ac_rfl)
        rw [← e2]
        have d0 := h8.cell (i := 0) rfl
        have H8 := Lib.hid h8.r
        have HE4 := Lib.hid e4
        have HE2 := Lib.hid e2
        clear h7 h8 e1 e2 e3 e4 hV2 H3 c0 c1 c2 c3
        by_cases h249 : o.code = 249
        · have hre := HRE2.out
          rw [if_pos h249] at hre
          have HRE := Lib.hid hre
          have e249 : ((o.code : Int) == 249) = true := by rw [beq_iff_eq]; omega
          clear hre HRE2
          rw [h249] at d0
          have i249 : ((249 : Nat) : Int) = 249 := rfl
          clear h249 e249
          go_wp2
          go_ret3
          refine .inr ⟨V2.map Prod.fst, f', V2, va2, vc2, ?_, rfl, rfl, H8.out⟩
          rw [HR.out, HE4.out, ← HRE.out]
        · have hre := HRE2.out
          rw [if_neg h249, ← HE4.out] at hre
          obtain ⟨n1, n2, n3⟩ := HN.out
          have HRE := Lib.hid (show cmdsM (m - 1 + 1) (feedAt l f'.at_) (V2.map Prod.fst) = RES by
            rw [← n1, show m - 1 + 1 = m by omega]
            exact hre)
          have e249 : ((o.code : Int) == 249) = false := by rw [beq_eq_false_iff_ne]; omega
          have n249 : ¬ ((o.code : Int) = 249) := by omega
          clear hre HRE2 n1
          go_wp2
          go_roundg (l.length - f'.at_)
          case measure => omega
          case rel => exact ⟨m - 1, f'.at_, V2, va2, vc2, by omega, n3, rfl, rfl, rfl, by rw [HE2.out]; omega, HRE.out, H8.out⟩
    · have hpl : p = l.length := by omega
      subst hpl
      rw [if_pos (feedAt_end l)] at hre
      have H2 := Lib.hid hx.r.r
      have HRE := Lib.hid hre
      have i1 : ¬ ((l.length : Int) < (l.length : Int)) := by omega
      clear hx hre HX
      go_wp2
      go_ret3
      exact .inl ⟨by rw [HR.out, ← HRE.out], rfl, H2.out⟩

end Go.Proofs.Ytjeinldhbajknaa

/-
  The document's found and def. Conditions: those that each theorem names.
-/
namespace Go.Proofs.Ytjeinldhbajknaa
open Go.RowKit Go.Sp Go.Conc
variable {W w w' : World} {A : HProp}

/-- a number's place among definitions -/
def foundM (n : Int) : List DefM → Nat
  | [] => 0
  | d :: l => if d.num = n then 0 else foundM n l + 1
theorem flatD_get : ∀ (l : List DefM) (j k : Nat) (x : DefM), k < 5 → l[j]? = some x → (flatD l)[j * 5 + k]? = x.cells[k]?
  | [], j, k, x, _, h => by simp at h
  | y :: l, 0, k, x, hk, h => by
    simp only [List.getElem?_cons_zero, Option.some.injEq] at h
    subst h
    have e : flatD (y :: l) = y.cells ++ flatD l := by simp [flatD]
    rw [e, List.getElem?_append_left (by simp [DefM.cells]; omega), Nat.zero_mul, Nat.zero_add]
  | y :: l, j + 1, k, x, hk, h => by
    simp only [List.getElem?_cons_succ] at h
    have e : flatD (y :: l) = y.cells ++ flatD l := by simp [flatD]
    have e2 : y.cells.length = 5 := rfl
    rw [e, List.getElem?_append_right (by omega), e2, show (j + 1) * 5 + k - 5 = j * 5 + k by omega]
    exact flatD_get l j k x hk h

set_option maxRecDepth 100000 in
set_option maxHeartbeats 4000000 in
theorem found_any {a : Option Addr} {cap : Nat} {l : List DefM} (n : Int) (hl : l.length ≤ 4000000) (hv : Rd w (.slice a l.length cap) l.length 5 (flatD l)) :
    Calls Try.prog 70 #[.slice a l.length cap, .int .i64 n] w fun e w' => e = .returned (.int .i64 (foundM n l)) ∧ w = w' := by
  have HV := Lib.hid hv
  have HL := Lib.hid hl
  obtain ⟨T, hT⟩ : ∃ T, foundM n l = T := ⟨_, rfl⟩
  rw [hT]
  have HT := Lib.hid hT
  clear hv hl hT
  go_enter Try.func70, Try.ntmps70
  go_wp2_with fail
  go_loopg [5] l.length (fun gg s5 wx => ∃ i : Nat, i ≤ l.length ∧ gg = l.length - i ∧ s5 = .int .i64 i ∧ i + foundM n (l.drop i) = T ∧ wx = w)
  case atStart => exact ⟨0, Nat.zero_le _, rfl, rfl, by rw [List.drop_zero, Nat.zero_add]; exact HT.out, rfl⟩
  case round =>
    obtain ⟨i, hi, rfl, rfl, hf, rfl⟩ := hrel
    by_cases hlt : i < l.length
    · obtain ⟨_, _, a', c', e, h3⟩ := HV.out
      obtain ⟨d, hd⟩ : ∃ d, l[i] = d := ⟨_, rfl⟩
      obtain ⟨g, o, e1, y0⟩ := h3 (i * 5 + 0) _ ((flatD_get l i 0 d (by decide) (by rw [List.getElem?_eq_getElem hlt, hd])).trans rfl)
      rw [Nat.add_zero] at y0
      cases e
      subst e1
      have hdr : l.drop i = d :: l.drop (i + 1) := by rw [List.drop_eq_getElem_cons hlt, hd]
      rw [hdr, foundM] at hf
      have j1 : (i : Int) < (l.length : Int) := by omega
      have j2 : (0 : Int) ≤ (i : Int) := by omega
      have hL := HL.out
      clear h3 hd hdr
      obtain ⟨x, hx⟩ : ∃ x, d.num = x := ⟨_, rfl⟩
      rw [hx] at y0 hf
      clear hx
      by_cases hxn : x = n
      · subst hxn
        rw [if_pos rfl] at hf
        have HF := Lib.hid hf
        clear hf
        go_wp2
        go_ret
        exact ⟨by rw [← HF.out]; rfl, rfl⟩
      · rw [if_neg hxn] at hf
        have HF := Lib.hid hf
        have hxb : (x == n) = false := by rw [beq_eq_false_iff_ne]; exact hxn
        have hxb2 : (x != n) = true := by simpa using hxn
        clear hf
        go_wp2
        go_roundg (l.length - (i + 1))
        case measure => omega
        case rel => exact ⟨i + 1, by omega, rfl, by go_num, by rw [← HF.out]; omega, rfl⟩
    · have hil : i = l.length := by omega
      subst hil
      rw [List.drop_length] at hf
      have HF := Lib.hid hf
      have j1 : ¬ ((l.length : Int) < (l.length : Int)) := by omega
      clear hf
      go_wp2
      go_ret
      exact ⟨by rw [← HF.out]; rfl, rfl⟩

set_option maxRecDepth 100000 in
set_option maxHeartbeats 4000000 in
theorem def_ref (o : Cmd) {a : Option Addr} {cap : Nat} (hl : 4 ≤ o.args.length) (hv : Rd w (.slice a o.args.length cap) o.args.length 1 (intsL o.args)) :
    Calls Try.prog 69 #[o.val (.slice a o.args.length cap)] w fun e w' => e = .returned o.def_.val ∧ Ext w w' := by
  obtain ⟨g, off, ha, v0⟩ := rd_arg hv 0 (by omega)
  subst ha
  rw [Nat.add_zero] at v0
  obtain ⟨g', off', ha, v1⟩ := rd_arg hv 1 (by omega)
  cases ha
  obtain ⟨g', off', ha, v2⟩ := rd_arg hv 2 (by omega)
  cases ha
  obtain ⟨g', off', ha, v3⟩ := rd_arg hv 3 (by omega)
  cases ha
  have h1 := (Sat.start w).alloc (ropO o.code o.at_ (.slice (some ⟨g, off, none⟩) o.args.length cap) ⟨o.text.toArray⟩)
  obtain ⟨b1, hb1⟩ : ∃ b1, w.heap.size = b1 := ⟨_, rfl⟩
  rw [hb1] at h1
  obtain ⟨W1, hW1⟩ : ∃ W1, w.alloc (ropO o.code o.at_ (.slice (some ⟨g, off, none⟩) o.args.length cap) ⟨o.text.toArray⟩) = W1 := ⟨_, rfl⟩
  rw [hW1] at h1
  have hs1 : W1.heap.size = b1 + 1 := by rw [← hW1, ← hb1]; simp
  have h2 := h1.alloc (.cells #[.int .i64 0, .int .i64 0, .int .i64 0, .int .i64 0, .string ⟨#[]⟩] 57)
  rw [hs1] at h2
  obtain ⟨b2, hb2⟩ : ∃ b2, b1 + 1 = b2 := ⟨_, rfl⟩
  rw [hb2] at h2 hs1
  obtain ⟨W2, hW2⟩ : ∃ W2, W1.alloc (.cells #[.int .i64 0, .int .i64 0, .int .i64 0, .int .i64 0, .string ⟨#[]⟩] 57) = W2 := ⟨_, rfl⟩
  rw [hW2] at h2
  have hx0 : o.def_ = ⟨o.args.getD 0 0, o.args.getD 1 0, o.args.getD 2 0, o.args.getD 3 0, ⟨o.text.toArray⟩⟩ := rfl
  rw [hx0]
  unfold DefM.val Cmd.val
  simp only
  obtain ⟨x0, hx0⟩ : ∃ x, o.args.getD 0 0 = x := ⟨_, rfl⟩
  obtain ⟨x1, hx1⟩ : ∃ x, o.args.getD 1 0 = x := ⟨_, rfl⟩
  obtain ⟨x2, hx2⟩ : ∃ x, o.args.getD 2 0 = x := ⟨_, rfl⟩
  obtain ⟨x3, hx3⟩ : ∃ x, o.args.getD 3 0 = x := ⟨_, rfl⟩
  rw [hx0] at v0 ⊢
  rw [hx1] at v1 ⊢
  rw [hx2] at v2 ⊢
  rw [hx3] at v3 ⊢
  obtain ⟨n, hn⟩ : ∃ n, o.args.length = n := ⟨_, rfl⟩
  rw [hn] at hl hW1 h2 ⊢
  have hex := h2.r.r.toExt
  have f0 := hex.drew.cell v0
  have f1 := hex.drew.cell v1
  have f2 := hex.drew.cell v2
  have f3 := hex.drew.cell v3
  have g2 := h2.drew.r.cell (i := 2) rfl
  have g3 := h2.drew.r.cell (i := 3) rfl
  have n0 : 0 < n := by omega
  have n1 : 1 < n := by omega
  have n2 : 2 < n := by omega
  have n3 : 3 < n := by omega
  have i0 : (0 : Int) < (n : Int) := by omega
  have i1 : (1 : Int) < (n : Int) := by omega
  have i2 : (2 : Int) < (n : Int) := by omega
  have i3 : (3 : Int) < (n : Int) := by omega
  have HW1 := Lib.hid hW1
  have HW2 := Lib.hid hW2
  have H2 := Lib.hid h2.drew
  clear hv v0 v1 v2 v3 h1 h2 hW1 hW2 hx0 hx1 hx2 hx3 hn hex
  go_enter Try.func69, Try.ntmps69
  go_upto_region 1 with fail
  rw [HW1.out, HW2.out]
  clear HW1 HW2
  refine wp_region_tail (fun w' => w' = W2.drew) 19 (by kernel_rfl) (by kernel_rfl) rfl ?_
  simp only [List.take_succ_cons, List.take_zero, List.drop_succ_cons, List.drop_zero]
  obtain ⟨W9, hW9⟩ : ∃ W9, W2.drew = W9 := ⟨_, rfl⟩
  rw [hW9] at H2 f0 f1 f2 f3 g2 g3
  rw [hW9]
  clear hW9
  refine wpQuiet_val (v := ?_) ?_
  rotate_left 1
  intro K hK
  refine ⟨by kernel_rfl, fun w9 hw9 => ?_, ?_⟩
  · subst hw9; go_simp; try with_reducible rfl
  go_simp
  refine hK _ ?_
  clear hK K
  refine wpQuiet_val (v := ?_) ?_
  rotate_left 1
  intro K hK
  refine ⟨by kernel_rfl, fun w9 hw9 => ?_, ?_⟩
  · subst hw9; go_simp; try with_reducible rfl
  go_simp
  refine hK _ ?_
  clear hK K
  refine wpQuiet_val (v := ?_) ?_
  rotate_left 1
  intro K hK
  refine ⟨by kernel_rfl, fun w9 hw9 => ?_, ?_⟩
  · subst hw9; go_simp; try with_reducible rfl
  go_simp
  refine hK _ ?_
  clear hK K
  refine wpQuiet_val (v := ?_) ?_
  rotate_left 1
  intro K hK
  refine ⟨by kernel_rfl, fun w9 hw9 => ?_, ?_⟩
  · subst hw9; go_simp; try with_reducible rfl
  go_simp
  refine hK _ ?_
  clear hK K
  refine wpQuiet_val (v := ?_) ?_
  rotate_left 1
  intro K hK
  refine ⟨by kernel_rfl, fun w9 hw9 => ?_, ?_⟩
  · subst hw9; go_simp; try with_reducible rfl
  go_simp
  refine hK _ ?_
  clear hK K
  refine wpQuiet_val (v := ?_) ?_
  rotate_left 1
  intro K hK
  refine ⟨by kernel_rfl, fun w9 hw9 => ?_, ?_⟩
  · subst hw9; go_simp; try with_reducible rfl
  go_simp
  refine hK _ ?_
  clear hK K
  refine wpQuiet_val (v := ?_) ?_
  rotate_left 1
  intro K hK
  refine ⟨by kernel_rfl, fun w9 hw9 => ?_, ?_⟩
  · subst hw9; go_simp; try with_reducible rfl
  go_simp
  refine hK _ ?_
  clear hK K
  refine wpQuiet_val (v := ?_) ?_
  rotate_left 1
  intro K hK
  refine ⟨by kernel_rfl, fun w9 hw9 => ?_, ?_⟩
  · subst hw9; go_simp; try with_reducible rfl
  go_simp
  refine hK _ ?_
  clear hK K
  refine wpQuiet_val (v := ?_) ?_
  rotate_left 1
  intro K hK
  refine ⟨by kernel_rfl, fun w9 hw9 => ?_, ?_⟩
  · subst hw9; go_simp; try with_reducible rfl
  go_simp
  refine hK _ ?_
  clear hK K
  refine wpQuiet_val (v := ?_) ?_
  rotate_left 1
  intro K hK
  refine ⟨by kernel_rfl, fun w9 hw9 => ?_, ?_⟩
  · subst hw9; go_simp; try with_reducible rfl
  go_simp
  refine hK _ ?_
  clear hK K
  refine wpQuiet_val (v := ?_) ?_
  rotate_left 1
  intro K hK
  refine ⟨by kernel_rfl, fun w9 hw9 => ?_, ?_⟩
  · subst hw9; go_simp; try with_reducible rfl
  go_simp
  refine hK _ ?_
  clear hK K
  refine wpQuiet_val (v := ?_) ?_
  rotate_left 1
  intro K hK
  refine ⟨by kernel_rfl, fun w9 hw9 => ?_, ?_⟩
  · subst hw9; go_simp; try with_reducible rfl
  go_simp
  refine hK _ ?_
  clear hK K
  refine wpQuiet_val (v := ?_) ?_
  rotate_left 1
  intro K hK
  refine ⟨by kernel_rfl, fun w9 hw9 => ?_, ?_⟩
  · subst hw9; go_simp; try with_reducible rfl
  go_simp
  refine hK _ ?_
  clear hK K
  refine wpQuiet_val (v := ?_) ?_
  rotate_left 1
  intro K hK
  refine ⟨by kernel_rfl, fun w9 hw9 => ?_, ?_⟩
  · subst hw9; go_simp; try with_reducible rfl
  go_simp
  refine hK _ ?_
  clear hK K
  refine wpQuiet_val (v := ?_) ?_
  rotate_left 1
  intro K hK
  refine ⟨by kernel_rfl, fun w9 hw9 => ?_, ?_⟩
  · subst hw9; go_simp; try with_reducible rfl
  go_simp
  refine hK _ ?_
  clear hK K
  refine wpQuiet_val (v := ?_) ?_
  rotate_left 1
  intro K hK
  refine ⟨by kernel_rfl, fun w9 hw9 => ?_, ?_⟩
  · subst hw9; go_simp; try with_reducible rfl
  go_simp
  refine hK _ ?_
  clear hK K
  refine wpQuiet_val (v := ?_) ?_
  rotate_left 1
  intro K hK
  refine ⟨by kernel_rfl, fun w9 hw9 => ?_, ?_⟩
  · subst hw9; go_simp; try with_reducible rfl
  go_simp
  refine hK _ ?_
  clear hK K
  refine wpQuiet_val (v := ?_) ?_
  rotate_left 1
  intro K hK
  refine ⟨by kernel_rfl, fun w9 hw9 => ?_, ?_⟩
  · subst hw9; go_simp; try with_reducible rfl
  go_simp
  refine hK _ ?_
  clear hK K
  refine wpQuiet_val (v := ?_) ?_
  rotate_left 1
  intro K hK
  refine ⟨by kernel_rfl, fun w9 hw9 => ?_, ?_⟩
  · subst hw9; go_simp; try with_reducible rfl
  go_simp
  refine hK _ ?_
  clear hK K
  refine wpQuiet_nil ?_
  clear f0 f1 f2 f3 g2 g3
  rintro w17 rfl
  have c0 := H2.out.cell (i := 0) rfl
  have c1 := H2.out.cell (i := 1) rfl
  have c2 := H2.out.cell (i := 2) rfl
  have c3 := H2.out.cell (i := 3) rfl
  have c4 := H2.out.cell (i := 4) rfl
  have f0 := H2.out.free (i := 0)
  have f1 := H2.out.free (i := 1)
  have f2 := H2.out.free (i := 2)
  have f3 := H2.out.free (i := 3)
  have f4 := H2.out.free (i := 4)
  have lb := H2.out.lt
  have h5 := ((((H2.out.set (i := 0) (v := .int .i64 x0)).set (i := 1) (v := .int .i64 x1)).set (i := 2) (v := .int .i64 x2)).set (i := 3) (v := .int .i64 x3)).set (i := 4) (v := .string ⟨o.text.toArray⟩)
  have H5 := Lib.hid h5
  clear h5
  go_wp2
  clear c0 c1 c2 c3 c4 f0 f1 f2 f3 f4 lb
  have h6 := H5.out
  have c0 := h6.cell (i := 0) rfl
  have c1 := h6.cell (i := 1) rfl
  have c2 := h6.cell (i := 2) rfl
  have c3 := h6.cell (i := 3) rfl
  have c4 := h6.cell (i := 4) rfl
  have hl := h6.lt
  have HX6 := Lib.hid h6.r.r.toExt
  clear h6
  (try simp only [Exit.inBlock, Exit.then])
  refine bodyPost_ret (v := .agg #[.int .i64 x0, .int .i64 x1, .int .i64 x2, .int .i64 x3, .string ⟨o.text.toArray⟩]) (by unfold results; go_simp) rfl ?_
  exact ⟨rfl, HX6.out⟩

end Go.Proofs.Ytjeinldhbajknaa

/-
  The document's walk over a file's commands, as values. Conditions: none.
-/
namespace Go.Proofs.Ytjeinldhbajknaa
open Go.RowKit Go.Sp Go.Conc

/-- the document's state of a walk -/
structure StM where
  part : Int
  defs : List DefM
  again : List DefM
  last : Int
  pages : Int
  deep : Int
  most : Int
  font : Bool
  post : Int
  pre : Cmd
  tail : Cmd
def StM.start : StM := ⟨0, [], [], -1, 0, 0, 0, false, 0, noCmd, noCmd⟩
/-- a font's definition -/
def StM.fontDef (s : StM) (d : DefM) : StM × Bool :=
  if wrongD d = true then (s, false)
  else if s.part = 3 then
    if foundM d.num s.defs = s.defs.length ∨ defB ((s.defs[foundM d.num s.defs]?).getD zeroD) d = false ∨ foundM d.num s.again < s.again.length then (s, false)
    else ({ s with again := s.again ++ [d] }, true)
  else if (s.part ≠ 1 ∧ s.part ≠ 2) ∨ foundM d.num s.defs < s.defs.length then (s, false)
  else ({ s with defs := s.defs ++ [d] }, true)
/-- a command within a page -/
def StM.page (s : StM) (o : Cmd) : StM × Bool :=
  if o.code < 132 ∨ (133 ≤ o.code ∧ o.code ≤ 136) then (s, s.font)
  else if o.code = 140 then ({ s with part := 1 }, s.deep == 0)
  else if o.code = 141 then ({ s with deep := s.deep + 1, most := if s.most < s.deep + 1 then s.deep + 1 else s.most }, true)
  else if o.code = 142 then ({ s with deep := s.deep - 1 }, decide (0 ≤ s.deep - 1))
  else if 171 ≤ o.code ∧ o.code ≤ 238 then ({ s with font := true }, decide (foundM (if 234 < o.code then o.args.getD 0 0 else (o.code : Int) - 171) s.defs < s.defs.length))
  else (s, true)
/-- the end's beginning -/
def StM.post_ (s : StM) (o : Cmd) : StM × Bool :=
  ({ s with tail := o, post := o.at_, part := 3 }, o.args.getD 0 0 == s.last && (o.args.getD 1 0 == s.pre.args.getD 1 0 && (o.args.getD 2 0 == s.pre.args.getD 2 0 && (o.args.getD 3 0 == s.pre.args.getD 3 0 && (decide (0 ≤ o.args.getD 4 0) && (decide (0 ≤ o.args.getD 5 0) && (o.args.getD 6 0 == s.most && o.args.getD 7 0 == s.pages)))))))
/-- a command -/
def StM.step (s : StM) (o : Cmd) : StM × Bool :=
  if s.part = 0 then ({ s with part := 1, pre := o }, firstOk o)
  else if 243 ≤ o.code ∧ o.code ≤ 246 then s.fontDef o.def_
  else if o.code = 138 then (s, true)
  else if o.code = 247 then (s, false)
  else if o.code = 139 then ({ s with part := 2, last := o.at_, pages := s.pages + 1, font := false, deep := 0 }, s.part == 1 && o.args.getD 10 0 == s.last)
  else if o.code = 248 then (if s.part = 1 then s.post_ o else (s, false))
  else if o.code = 249 then ({ s with part := 4 }, s.part == 3 && (o.args.getD 0 0 == s.post && (o.args.getD 1 0 == 2 && s.again.length == s.defs.length)))
  else if s.part = 2 then s.page o else (s, false)
/-- all of them; none: one may not be -/
def stepsM : StM → List Cmd → Option StM
  | s, [] => some s
  | s, o :: os => if (s.step o).2 = true then stepsM (s.step o).1 os else none
/-- a whole file as the document reads it, without a bound on its length -/
def wholeR (l : List UInt8) : Option (List Cmd × StM) :=
  match cmdsM (l.length + 1) (feedAt l 0) [] with
  | none => none
  | some (os, g) => if fillBad g.l.length l.length = true ∨ (g.l.any fun x => !(x == 223)) = true then none else (stepsM StM.start os).map fun s => (os, s)

theorem found_none (n : Int) : ∀ l : List DefM, foundM n l = l.length ↔ ∀ d ∈ l, d.num ≠ n
  | [] => by simp [foundM]
  | d :: l => by
    have ih := found_none n l
    have hle : foundM n l ≤ l.length := by
      clear ih
      induction l with
      | nil => exact Nat.le_refl _
      | cons x l ih => rw [foundM]; split <;> simp only [List.length_cons] <;> omega
    rw [foundM]
    by_cases h : d.num = n
    · rw [if_pos h]
      simp [h]
    · rw [if_neg h, List.length_cons]
      simp only [List.mem_cons, forall_eq_or_imp]
      rw [← ih]
      omega

end Go.Proofs.Ytjeinldhbajknaa

/-
  The document's state in memory; a command within a page. Conditions: those that each theorem names.
-/
namespace Go.Proofs.Ytjeinldhbajknaa
open Go.RowKit Go.Sp Go.Conc
variable {W w w' : World} {A : HProp}

abbrev stO (s : StM) (dv av pv tv : Value) : Obj := .cells #[.int .i64 s.part, dv, av, .int .i64 s.last, .int .i64 s.pages, .int .i64 s.deep, .int .i64 s.most, .bool s.font, .int .i64 s.post,
  .int .i64 s.pre.code, .int .i64 s.pre.at_, pv, .string ⟨s.pre.text.toArray⟩, .int .i64 s.tail.code, .int .i64 s.tail.at_, tv, .string ⟨s.tail.text.toArray⟩] 80
/-- the numbers of a command are one of these lists, or there are none -/
def InV (V : List (Cmd × Value)) (o : Cmd) (v : Value) : Prop := (o, v) ∈ V ∨ (o.args = [] ∧ v = .slice none 0 0)
/-- the state lies in block b; V: the commands, whose numbers the frame owns -/
def StAt (W : World) (A : HProp) (V : List (Cmd × Value)) (b : Nat) (s : StM) (w : World) : Prop :=
  ∃ dv av pv tv, (InV V s.pre pv ∧ InV V s.tail tv) ∧ Sat W (pts b (stO s dv av pv tv) * (row dv s.defs.length 57 5 (flatD s.defs) * (row av s.again.length 57 5 (flatD s.again) * A))) w
theorem StAt.focus {V : List (Cmd × Value)} {b : Nat} {s : StM} (h : StAt W A V b s w) : ∃ Y : HProp, Sat W (A * Y) w ∧ ∀ (A' : HProp) (w' : World), Sat W (A' * Y) w' → StAt W A' V b s w' := by
  obtain ⟨dv, av, pv, tv, h1, h2⟩ := h
  exact ⟨pts b (stO s dv av pv tv) * (row dv s.defs.length 57 5 (flatD s.defs) * row av s.again.length 57 5 (flatD s.again)), h2.of_eq (by ac_rfl), fun A' w' h => ⟨dv, av, pv, tv, h1, h.of_eq (by ac_rfl)⟩⟩
theorem StAt.sat {V : List (Cmd × Value)} {b : Nat} {s : StM} (h : StAt W A V b s w) : Sat W A w := by
  obtain ⟨Y, h1, _⟩ := h.focus
  exact h1.l
theorem StAt.ext {V : List (Cmd × Value)} {b : Nat} {s : StM} (h : StAt W A V b s w) (k : Ext w w') : StAt W A V b s w' := by
  obtain ⟨Y, h1, back⟩ := h.focus
  exact back _ _ (h1.ext k)
theorem StAt.allocX {V : List (Cmd × Value)} {b : Nat} {s : StM} (h : StAt W A V b s w) (o : Obj) : StAt W (pts w.heap.size o * A) V b s (w.alloc o) := by
  obtain ⟨Y, h1, back⟩ := h.focus
  exact back _ _ ((h1.alloc o).asc')
theorem StAt.less {B : HProp} {V : List (Cmd × Value)} {b : Nat} {s : StM} (h : StAt W (B * A) V b s w) : StAt W A V b s w := by
  obtain ⟨Y, h1, back⟩ := h.focus
  exact back _ _ (h1.asc.r)
/-- the zero value of a state -/
theorem info_state : (Try.prog.info? 80).map (fun i => i.size) = some 17 := by kernel_rfl

end Go.Proofs.Ytjeinldhbajknaa
