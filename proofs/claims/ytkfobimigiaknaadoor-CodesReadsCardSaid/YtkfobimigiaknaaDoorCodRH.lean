/-
  The reference's Next. Conditions: those that each theorem names.
-/
import Derived.Test.YtkfobimigiaknaaDoorCodRG
import Derived.Test.YtkfobimigiaknaaDoorCodRE
namespace Go.Proofs.YtkfobimigiaknaaDoor
open Go.RowKit Go.Sp
variable {W w w' : World} {F F' : HProp}

theorem hexS_ne (e : UInt8) (r : List UInt8) : hexS e r ≠ [] := by
  cases r with
  | nil => simp [hexS]
  | cons f s => simp only [hexS]; split <;> simp

theorem madeF_ne (C : List Int) : ∀ (n : Nat) (l : List UInt8), l ≠ [] → madeF C n l ≠ [] := by
  intro n
  induction n with
  | zero => intro l h; exact h
  | succ n ih =>
    intro l h
    rw [madeF]
    cases hs : step1 C l with
    | none => exact h
    | some l' =>
      refine ih l' ?_
      match l, hs with
      | c :: d :: e :: r, hs =>
        simp only [step1] at hs
        split at hs
        · cases hs; exact hexS_ne e r
        · cases hs
theorem made_ne (C : List Int) {l : List UInt8} (h : l ≠ []) : made C l ≠ [] := madeF_ne C _ l h

theorem moreR_any {R : Rs} {b : Nat} (endl : Int) (hl : R.left = []) (ht : R.text.length ≤ 65536) (hn : R.number ≤ 1000000000) (h : RefAt W F b R w) :
    Calls Tryd.prog 32 #[.pointer (some ⟨b, 0, none⟩), .int .i64 endl] w fun e w' => e = .returned (.bool (beginM endl R).1) ∧ RefAt W F b (beginM endl R).2 w' := by
  by_cases h0 : R.stopped = true ∨ R.ended = true ∨ R.text = []
  · rw [beginM_no h0]
    exact moreR_no endl hl h0 h
  · have e1 : R.stopped = false := by cases hh : R.stopped with | false => rfl | true => exact absurd (.inl hh) h0
    have e2 : R.ended = false := by cases hh : R.ended with | false => rfl | true => exact absurd (.inr (.inl hh)) h0
    have e3 : R.text ≠ [] := fun h => h0 (.inr (.inr h))
    have hb := beginM_yes (endl := endl) e1 e2 e3
    have h1 := moreR_yes endl hl e1 e2 e3 ht hn h
    have e4 : (beginM endl R).1 = true := by rw [hb]
    rw [e4]
    exact h1

theorem lineM_len (endl : Int) (l : List UInt8) : (lineM endl l).length ≤ l.length + 1 := by
  have := trim_len l 32
  unfold lineM
  split <;> simp <;> omega

theorem RefAt.toEnd {b : Nat} {R : Rs} (h : RefAt W F b R w) : w.frozen? ⟨b, 2, none⟩ = false ∧ b < w.heap.size ∧ (∃ v, w.cell? ⟨b, 2, none⟩ = some v) ∧ RefAt W F b { R with left := [] } (w.setCell ⟨b, 2, none⟩ (.slice none 0 0)) := by
  obtain ⟨vL, G, hs, hg⟩ := h.lens
  obtain ⟨k1, k2, k3, -, k4⟩ := hg _ [] _ hs.r.rowM_nil
  exact ⟨k2, k3, ⟨_, k1⟩, k4 fun _ => rfl⟩

def NextRPost (W : World) (F : HProp) (b : Nat) (r : Tok × Int × Rs) (e : Ending) (w' : World) : Prop :=
  e = .returned (.tuple #[Tok.val r.1, .int .i64 r.2.1]) ∧ RefAt W F b r.2.2 w'




set_option maxRecDepth 1000000 in
set_option maxHeartbeats 8000000 in
theorem nextR_any (C : List Int) (hC : C.length = 256) (endl : Int) (R : Rs) (b : Nat) (h : RefAt W F b R w) (ht : R.text.length ≤ 65536) (hn : R.number + R.text.length ≤ 1000000) (hll : R.left.length ≤ 100000) :
    Calls Tryd.prog 26 #[.pointer (some ⟨b, 0, none⟩), codesV C, .int .i64 endl] w (NextRPost W F b (nextM C endl R)) := by
  have h0 := ((h.alloc (codesO C 22)).alloc tok0O).of_eq (show _ = pts w.heap.size (codesO C 22) * (pts (w.heap.size + 1) tok0O * F) by simp; ac_rfl)
  obtain ⟨r, hr⟩ : ∃ r, nextM C endl R = r := ⟨_, rfl⟩
  rw [hr]
  have HR := Lib.hid hr
  have HC := Lib.hid hC
  have HT := Lib.hid ht
  have HNN := Lib.hid hn
  have HLL0 := Lib.hid hll
  have H0 := Lib.hid h0
  clear h h0 hr hC ht hn hll
  go_enter Tryd.func26, Tryd.ntmps26
  go_wp2_with fail
  go_loopg [8] 256 (fun g s8 wx => ∃ k : Nat, k ≤ 256 ∧ g = 256 - k ∧ s8 = .int .i64 k ∧ goodC (C.drop k) = goodC C ∧ RefAt W (pts w.heap.size (codesO C 22) * (pts (w.heap.size + 1) tok0O * F)) b R wx)
  case atStart => exact ⟨0, by omega, rfl, rfl, rfl, H0.out⟩
  case round =>
    obtain ⟨k, hk, rfl, rfl, hg, hx⟩ := hrel
    have HG := Lib.hid hg
    have HX := Lib.hid hx
    clear hg hx
    by_cases hlt : k < 256
    · have i1 : (k : Int) < 256 := by omega
      have i2 : (0 : Int) ≤ (k : Int) := by omega
      have hkl : k < C.length := by rw [HC.out]; exact hlt
      have HGD := Lib.hid (goodC_drop C k hkl)
      have hck : wr.cell? ⟨w.heap.size, k, none⟩ = some (.int .i64 C[k]) := HX.out.sat.cell (by simp [List.getElem?_eq_getElem hkl])
      generalize C[k] = x at *
      clear hkl
      by_cases hx : 0 ≤ x ∧ x ≤ 15
      · have j1 : ¬ x < 0 := by omega
        have j2 : ¬ 15 < x := by omega
        have HG2 := Lib.hid (show goodC (C.drop (k + 1)) = goodC C by rw [← HG.out, HGD.out]; simp [hx])
        clear hx
        go_wp2
        go_roundg (256 - (k + 1))
        case measure => omega
        case rel => exact ⟨k + 1, by omega, rfl, by go_num, HG2.out, HX.out⟩
      · have HG2 := Lib.hid (show goodC C = false by rw [← HG.out, HGD.out]; simp [hx])
        have hxs : x < 0 ∨ (¬ x < 0 ∧ 15 < x) := by omega
        clear hx
        have HRE := Lib.hid (show r = (tok0, 1, R) by rw [← HR.out, nextM, if_pos HG2.out])
        have hr := HX.out.sat.r
        have r0 := hr.cell (i := 0) rfl
        have r1 := hr.cell (i := 1) rfl
        have r2 := hr.cell (i := 2) rfl
        have f0 := hr.free (i := 0)
        have f1 := hr.free (i := 1)
        have f2 := hr.free (i := 2)
        have lr := hr.lt
        clear hr
        rcases hxs with j1 | ⟨j1, j2⟩
        all_goals
          go_wp2
          (try simp only [Exit.inBlock, Exit.then])
          refine bodyPost_ret (v := .tuple #[Tok.val tok0, .int .i64 1]) (by unfold results; go_simp; first | exact ⟨rfl, rfl, rfl⟩ | rfl) rfl ?_
          rw [HRE.out]
          exact ⟨rfl, ((((HX.out.rot.setF (i := 0) (v := .int .i64 0)).setF (i := 1) (v := .int .u8 0)).setF (i := 2) (v := .string ⟨#[]⟩)).drop).drop⟩
    · have hk2 : 256 = k := by omega
      subst hk2
      have HG2 := Lib.hid (show goodC C = true by rw [← HG.out, List.drop_of_length_le (by rw [HC.out]; exact Nat.le_refl _)]; rfl)
      clear hlt
      have HRE := Lib.hid (show r = nextF C endl (R.size + 1) R by
        rw [← HR.out, nextM, if_neg (by rw [HG2.out]; simp)]
        by_cases he : R.ended = true
        · have hl0 := HX.out.ends he
          have hb : beginM endl { R with left := [] } = (false, { R with left := [], ended := true }) := beginM_no (.inr (.inl he))
          rw [if_pos he, nextF, hl0, made_nil]
          simp only
          rw [hb]
          obtain ⟨text, left, state, number, stopped, ended⟩ := R
          simp only at he hl0
          subst he hl0
          rfl
        · rw [if_neg he])
      go_wp2_with fail
      go_loopg [11] (R.size + 1) (fun g s11 wx => ∃ R' : Rs, r = nextF C endl g R' ∧ R'.size < g ∧ R'.text.length ≤ 65536 ∧ R'.number + R'.text.length ≤ 1000000 ∧ R'.left.length ≤ 100000 ∧ RefAt W (pts w.heap.size (codesO C 22) * (pts (w.heap.size + 1) tok0O * F)) b R' wx)
      case atStart => exact ⟨R, HRE.out, Nat.lt_succ_self _, HT.out, HNN.out, HLL0.out, HX.out⟩
      case round =>
        obtain ⟨R0, hr, hsz, ht, hn, hll, hx⟩ := hrel
        obtain ⟨g00, hg00⟩ : ∃ g00, g00 = gk := ⟨_, rfl⟩
        have HG0 := Lib.hid hg00
        have HI0 := Lib.hid (show r = nextF C endl g00 R0 ∧ R0.size < g00 ∧ R0.text.length ≤ 65536 ∧ R0.number + R0.text.length ≤ 1000000 ∧ R0.left.length ≤ 100000 ∧ RefAt W (pts w.heap.size (codesO C 22) * (pts (w.heap.size + 1) tok0O * F)) b R0 wr from hg00 ▸ ⟨hr, hsz, ht, hn, hll, hx⟩)
        clear hr hsz ht hn hll hx hg00
        obtain ⟨wo, hwo⟩ : ∃ wo : World, wo = wr := ⟨_, rfl⟩
        subst hwo
        go_wp2_with fail
        go_loopg [37] g00 (fun g s37 wx => ∃ R' : Rs, g ≤ g00 ∧ r = nextF C endl g R' ∧ R'.size < g ∧ R'.text.length ≤ 65536 ∧ R'.number + R'.text.length ≤ 1000000 ∧ R'.left.length ≤ 100000 ∧ RefAt W (pts w.heap.size (codesO C 22) * (pts (w.heap.size + 1) tok0O * F)) b R' wx)
        case atStart => exact ⟨R0, Nat.le_refl _, HI0.out.1, HI0.out.2.1, HI0.out.2.2.1, HI0.out.2.2.2.1, HI0.out.2.2.2.2.1, HI0.out.2.2.2.2.2⟩
        case round =>
          obtain ⟨R', hgg, hr, hsz, ht, hn, hll, hx⟩ := hrel
          obtain ⟨g, rfl⟩ : ∃ g, gk = g + 1 := ⟨gk - 1, by omega⟩
          obtain ⟨a2, c2, k2, -⟩ := hx.left
          have HR2 := Lib.hid hr
          have HSZ := Lib.hid hsz
          have HT2 := Lib.hid ht
          have HN2 := Lib.hid hn
          have HLL := Lib.hid hll
          have HX := Lib.hid hx
          have HGG := Lib.hid hgg
          clear hr hsz ht hn hll hx hgg
          cases hl : R'.left with
          | nil =>
            rw [hl, List.length_nil] at k2
            have HL := Lib.hid hl
            have hB := moreR_any endl hl HT2.out (by have := HN2.out; omega) HX.out
            have e0 : ({ R' with left := [] } : Rs) = R' := by
              have := HL.out
              obtain ⟨text, left, state, number, stopped, ended⟩ := R'
              simp only at this
              subst this
              rfl
            obtain ⟨q, hq⟩ : ∃ q, beginM endl R' = q := ⟨_, rfl⟩
            have HRQ := Lib.hid (show r = if q.1 = true then nextF C endl g q.2 else (tok0, 3, q.2) by rw [HR2.out, nextF, HL.out, made_nil]; simp only; rw [e0, hq])
            have HBS := Lib.hid (show q.1 = true → q.2.size < g ∧ q.2.text.length ≤ 65536 ∧ q.2.number + q.2.text.length ≤ 1000000 ∧ q.2.left.length ≤ 100000 by
              intro h
              have hq2 : beginM endl { R' with left := [] } = (true, q.2) := by rw [e0, hq, ← h]
              have hbs := begin_size hq2
              have h1 := HSZ.out
              have h2 := HT2.out
              have h3 := HN2.out
              have h4 := HLL.out
              refine ⟨by simp only [Rs.size] at h1 hbs ⊢; omega, by omega, by omega, ?_⟩
              rw [beginM] at hq2
              split at hq2
              · cases hq2
              · rw [← (Prod.mk.inj hq2).2]
                have := lineM_len endl (cutAt 10 R'.text).1
                have := cutAt_len 10 R'.text
                simp only
                omega)
            obtain ⟨bq, Rq⟩ := q
            rw [hq] at hB
            simp only at hB HRQ HBS
            have HB := Lib.hid hB
            clear hB hq e0 hl
            go_wp2_with fail
            refine Calls.mono HB.out ?_
            rintro e w2 ⟨rfl, hr⟩
            have HX2 := Lib.hid hr
            clear hr
            cases bq
            · have HRE2 := Lib.hid (show r = (tok0, 3, Rq) by rw [HRQ.out]; rfl)
              have hr := HX2.out.sat.r
              have r0 := hr.cell (i := 0) rfl
              have r1 := hr.cell (i := 1) rfl
              have r2 := hr.cell (i := 2) rfl
              have f0 := hr.free (i := 0)
              have f1 := hr.free (i := 1)
              have f2 := hr.free (i := 2)
              have lr := hr.lt
              clear hr
              go_wp2
              (try simp only [Exit.inBlock, Exit.then])
              refine bodyPost_ret (v := .tuple #[Tok.val tok0, .int .i64 3]) (by unfold results; go_simp; first | exact ⟨rfl, rfl, rfl⟩ | rfl) rfl ?_
              rw [HRE2.out]
              exact ⟨rfl, ((((HX2.out.rot.setF (i := 0) (v := .int .i64 0)).setF (i := 1) (v := .int .u8 0)).setF (i := 2) (v := .string ⟨#[]⟩)).drop).drop⟩
            · have HRE2 := Lib.hid (show r = nextF C endl g Rq by rw [HRQ.out]; rfl)
              go_wp2_with fail
              go_roundg g
              case measure => omega
              case rel => exact ⟨Rq, by have := HGG.out; omega, HRE2.out, (HBS.out trivial).1, (HBS.out trivial).2.1, (HBS.out trivial).2.2.1, (HBS.out trivial).2.2.2, HX2.out⟩
          | cons c0 l0 =>
            obtain ⟨m, hm⟩ : ∃ m, made C R'.left = m := ⟨_, rfl⟩
            have hml := made_len C R'.left
            rw [hm] at hml
            have HL0 := Lib.hid hl
            rw [hl, List.length_cons] at k2
            have hne : m ≠ [] := by rw [← hm, hl]; exact made_ne C (by simp)
            have HEND := Lib.hid (show R'.ended = false by cases hh : R'.ended with | false => rfl | true => exact absurd (HX.out.ends hh) (by rw [hl]; simp))
            have HML := Lib.hid (show m.length ≤ 100000 by have := HLL.out; omega)
            have HMS := Lib.hid hml
            have HM := Lib.hid hm
            have i1 : ((l0.length : Int) + 1 == 0) = false := by rw [beq_eq_false_iff_ne]; omega
            clear hm hml hl
            cases m with
            | nil => exact absurd rfl hne
            | cons c l =>
              clear hne
              obtain ⟨vL, G, hs, hg⟩ := HX.out.lens
              have HG' := Lib.hid hg
              have HS' := Lib.hid hs
              have hmk := madeR_any C HC.out (by have := HLL.out; omega) hs.drew
              rw [HM.out] at hmk
              have HMK := Lib.hid hmk
              clear hs hg hmk
              go_upto_region 9 with fail
              go_cut [11] from 39 to 48 (fun s11 wx => RefAt W (pts w.heap.size (codesO C 22) * (pts (w.heap.size + 1) tok0O * F)) b { R' with left := c :: l } wx)
              case first => as_aux_lemma =>
                go_wp2_with fail
                refine wp_region_any (by kernel_rfl) ?_
                change wpAny _ _ _ _ _ _ _ (World.drew _)
                refine wpAny_take (i := 0) (v := ?_) rfl (by kernel_rfl) (by kernel_rfl) (by kernel_rfl) (fun _ _ _ h => h) (Or.inl ⟨by rfl, ?_⟩) ?_
                rotate_left 1
                · intro w; go_simp; try with_reducible rfl
                refine wpAny_take (i := 1) (v := ?_) rfl (by kernel_rfl) (by kernel_rfl) (by kernel_rfl) (fun _ _ _ h => h) (Or.inl ⟨by rfl, ?_⟩) ?_
                rotate_left 1
                · intro w; go_simp; try with_reducible rfl
                refine wpAny_take (i := 2) (v := ?_) rfl (by kernel_rfl) (by kernel_rfl) (by kernel_rfl) (fun _ _ _ h => h) (Or.inl ⟨by rfl, ?_⟩) ?_
                rotate_left 1
                · intro w; go_simp; try with_reducible rfl
                refine wpAny_take (i := 3) (v := ?_) rfl (by kernel_rfl) (by kernel_rfl) (by kernel_rfl) (fun _ _ _ h => h) (Or.inl ⟨by rfl, ?_⟩) ?_
                rotate_left 1
                · intro w; go_simp; try with_reducible rfl
                have hk := (HG'.out _ _ _ HS'.out.drew).1
                have hb := (HG'.out _ _ _ HS'.out.drew).2.2.2.1.blk
                refine wpAny_pairR (i := 4) (j := 5) (vi := vL) (vj := codesV C) _ _ ?_ ?_ ?_ rfl rfl ?_ ?_ ?_ ?_ ?_ ?_ ?_ ?_ ?_
                · kernel_rfl
                · kernel_rfl
                · kernel_rfl
                · rfl
                · rfl
                · rfl
                · rfl
                · clear hb; go_simp
                · refine exec_load_row 22 (.tmp 4) rfl w.heap.size rfl 22 (C.map (Value.int .i64)).toArray (0, 0) _ hb Tryd.underlying22 rfl ?_
                  rw [size_codes]; simp [HC.out]
                · refine exec_load_row 22 (.tmp 4) rfl w.heap.size rfl 22 (C.map (Value.int .i64)).toArray (0, 0) _ hb Tryd.underlying22 rfl ?_
                  rw [size_codes]; simp [HC.out]
                · clear hb; go_simp
                clear hk hb
                refine wpAny_ready (rs := [6]) (by kernel_rfl) (by simp) (AllReady.cons rfl (fun K hK => ?_) AllReady.nil)
                go_simp
                refine Calls.mono HMK.out ?_
                rintro e w3 ⟨v', rfl, hs3⟩
                obtain ⟨av, cv, rfl, -, -, -⟩ := hs3.rowM_val
                obtain ⟨k2, kf2, klt, -, hR⟩ := HG'.out _ _ _ hs3
                have HR := Lib.hid (hR (fun h => absurd (HEND.out.symm.trans h) (by simp)))
                clear hs3 hR
                go_simp
                refine hK _ _ ?_
                clear hK K
                refine wpAny_take (i := 7) (v := ?_) rfl (by kernel_rfl) (by kernel_rfl) (by kernel_rfl) (fun _ _ _ h => h) (Or.inl ⟨by rfl, ?_⟩) ?_
                rotate_left 1
                · intro w; go_simp; try with_reducible rfl
                refine wpAny_take (i := 8) (v := ?_) rfl (by kernel_rfl) (by kernel_rfl) (by kernel_rfl) (fun _ _ _ h => h) (Or.inl ⟨by rfl, ?_⟩) ?_
                rotate_left 1
                · intro w; go_simp; try with_reducible rfl
                refine wpAny_ready (rs := [9]) (by kernel_rfl) (by simp) (AllReady.cons rfl (fun K hK => ?_) AllReady.nil)
                go_simp
                refine hK _ _ ?_
                clear hK K
                refine wpAny_done (by kernel_rfl) ?_ _
                go_wp2_with fail
                go_meet
                exact HR.out
              case rest => as_aux_lemma =>
                have HR3 := Lib.hid hcut
                clear hcut k2 i1 HMK HG' HS'
                have HF1 := Lib.hid (firstR_any C HC.out (R := { R' with left := c :: l }) rfl (by have := HML.out; simp at this; omega) HR3.out)
                have hblk := HR3.out.sat.blk
                go_wp2_with fail
                refine wp_load_row 22 (.tmp 4) (by rfl) w.heap.size (by rfl) _ _ _ _ hblk Tryd.underlying22 (by rfl) ?_ ?_
                · rw [size_codes]; simp [HC.out]
                clear hblk
                go_wp2_with fail
                refine Calls.mono HF1.out ?_
                rintro e w5 ⟨rfl, hs1⟩
                have c3 := (hs1.state 0).1
                have HS1 := Lib.hid hs1
                have HNX := Lib.hid (show r = if codeAt C c = 0 then (nameT (nameM C { R' with left := l }).1, 0, (nameM C { R' with left := l }).2)
                  else if codeAt C c = 5 then (if R'.state = 0 then (nameT [112, 97, 114], 0, { R' with left := [] }) else if R'.state = 1 then (blankT, 0, { R' with left := [] }) else nextF C endl g { R' with left := [] })
                  else if codeAt C c = 9 then nextF C endl g { R' with left := l }
                  else if codeAt C c = 14 then nextF C endl g { R' with left := [] }
                  else if codeAt C c = 10 then (if R'.state = 1 then (blankT, 0, { R' with left := l, state := 2 }) else nextF C endl g { R' with left := l })
                  else if codeAt C c = 15 then (tok0, 160, { R' with left := l })
                  else (charT (codeAt C c) c, 0, { R' with left := l, state := 1 }) by rw [HR2.out, nextF, HM.out])
                clear hs1 HF1 HR3 HX HR2 HM HL0
                go_upto_block 6 with fail
                have hs1 := HS1.out
                clear c3
                obtain ⟨k, hk⟩ : ∃ k, codeAt C c = k := ⟨_, rfl⟩
                rw [hk] at HNX ⊢
                clear hk HS1
                by_cases e0 : k = 0
                · subst e0
                  have HRE2 := Lib.hid (show r = (nameT (nameM C { R' with left := l }).1, 0, (nameM C { R' with left := l }).2) by rw [HNX.out, if_pos rfl])
                  have HNM := Lib.hid (nameR_any C HC.out { R' with left := l } b (by have := HML.out; simp at this; simp only; omega) hs1)
                  have hblk := hs1.sat.blk
                  clear hs1
                  go_wp2_with fail
                  refine wp_load_row 22 (.tmp 4) (by rfl) w.heap.size (by rfl) _ _ _ _ hblk Tryd.underlying22 (by rfl) ?_ ?_
                  · rw [size_codes]; simp [HC.out]
                  clear hblk
                  go_wp2_with fail
                  refine Calls.mono HNM.out ?_
                  rintro e' w3 ⟨rfl, hs1⟩
                  generalize nameM C { R' with left := l } = nm at *
                  have HE := Lib.hid hs1
                  have hr := hs1.sat.r
                  have r0 := hr.cell (i := 0) rfl
                  have r1 := hr.cell (i := 1) rfl
                  have r2 := hr.cell (i := 2) rfl
                  have f0 := hr.free (i := 0)
                  have f1 := hr.free (i := 1)
                  have f2 := hr.free (i := 2)
                  have lr := hr.lt
                  have n1 := hs1.rot.ne
                  have n1' := n1.symm
                  clear hr hs1 HNX
                  go_wp2
                  (try simp only [Exit.inBlock, Exit.then])
                  refine bodyPost_ret (v := .tuple #[Tok.val (nameT nm.1), .int .i64 0]) (by unfold results; go_simp; all_goals (first | exact ⟨rfl, rfl, rfl⟩ | rfl)) rfl ?_
                  rw [HRE2.out]
                  exact ⟨rfl, (((((HE.out.rot).setF (i := 0) (v := .int .i64 16)).setF (i := 1) (v := .int .u8 0)).setF (i := 2) (v := .string ⟨nm.1.toArray⟩)).drop).drop⟩
                have q0 : (k == 0) = false := by simpa using e0
                by_cases e5 : k = 5
                · subst e5
                  obtain ⟨f5, lb, ⟨v5, c5⟩, hst⟩ := hs1.toEnd
                  have HST := Lib.hid hst
                  clear hst
                  by_cases s0 : R'.state = 0
                  · have HRE2 := Lib.hid (show r = (nameT [112, 97, 114], 0, { R' with left := [] }) by rw [HNX.out, if_neg (by decide), if_pos rfl, if_pos s0])
                    have t0 : ((R'.state : Int) == 0) = true := by simp [s0]
                    clear s0
                    have HE := Lib.hid HST.out
                    have hr := hs1.sat.r
                    have r0 := hr.cell (i := 0) rfl
                    have r1 := hr.cell (i := 1) rfl
                    have r2 := hr.cell (i := 2) rfl
                    have f0 := hr.free (i := 0)
                    have f1 := hr.free (i := 1)
                    have f2 := hr.free (i := 2)
                    have lr := hr.lt
                    have n1 := hs1.rot.ne
                    have n1' := n1.symm
                    clear hr hs1 HNX
                    go_wp2
                    (try simp only [Exit.inBlock, Exit.then])
                    refine bodyPost_ret (v := .tuple #[Tok.val (nameT [112, 97, 114]), .int .i64 0]) (by unfold results; go_simp; all_goals (first | exact ⟨rfl, rfl, rfl⟩ | rfl)) rfl ?_
                    rw [HRE2.out]
                    exact ⟨rfl, (((((HE.out.rot).setF (i := 0) (v := .int .i64 16)).setF (i := 1) (v := .int .u8 0)).setF (i := 2) (v := .string ⟨#[112, 97, 114]⟩)).drop).drop⟩
                  · have t0 : ((R'.state : Int) == 0) = false := by simpa using s0
                    by_cases s1 : R'.state = 1
                    · have t1 : ((R'.state : Int) == 1) = true := by simp [s1]
                      have HRE2 := Lib.hid (show r = (blankT, 0, { R' with left := [] }) by rw [HNX.out, if_neg (by decide), if_pos rfl, if_neg s0, if_pos s1])
                      clear s0 s1
                      have HE := Lib.hid HST.out
                      have hr := hs1.sat.r
                      have r0 := hr.cell (i := 0) rfl
                      have r1 := hr.cell (i := 1) rfl
                      have r2 := hr.cell (i := 2) rfl
                      have f0 := hr.free (i := 0)
                      have f1 := hr.free (i := 1)
                      have f2 := hr.free (i := 2)
                      have lr := hr.lt
                      have n1 := hs1.rot.ne
                      have n1' := n1.symm
                      clear hr hs1 HNX
                      go_wp2
                      (try simp only [Exit.inBlock, Exit.then])
                      refine bodyPost_ret (v := .tuple #[Tok.val (blankT), .int .i64 0]) (by unfold results; go_simp; all_goals (first | exact ⟨rfl, rfl, rfl⟩ | rfl)) rfl ?_
                      rw [HRE2.out]
                      exact ⟨rfl, (((((HE.out.rot).setF (i := 0) (v := .int .i64 10)).setF (i := 1) (v := .int .u8 32)).setF (i := 2) (v := .string ⟨#[]⟩)).drop).drop⟩
                    · have t1 : ((R'.state : Int) == 1) = false := by rw [beq_eq_false_iff_ne]; omega
                      have HRE2 := Lib.hid (show r = nextF C endl g { R' with left := [] } by rw [HNX.out, if_neg (by decide), if_pos rfl, if_neg s0, if_neg s1])
                      clear s0 s1
                      have HE := Lib.hid HST.out
                      have n1 := hs1.rot.ne
                      have n1' := n1.symm
                      clear hs1 HNX
                      go_wp2_with fail
                      go_roundg g
                      case measure => (have h1 := HG0.out; have h2 := HGG.out; omega)
                      case rel => exact ⟨{ R' with left := [] }, HRE2.out, by have h1 := HSZ.out; have h2 := HMS.out; (first | (simp only [Rs.size, List.length_cons] at h1 h2 ⊢; omega) | (simp only [Rs.size, List.length_cons, List.length_nil] at h1 h2 ⊢; omega)), HT2.out, HN2.out, by have h2 := HML.out; (first | (simp only [List.length_cons] at h2 ⊢; omega) | simp), HE.out⟩
                have q5 : (k == 5) = false := by simpa using e5
                by_cases e14 : k = 14
                · subst e14
                  obtain ⟨f5, lb, ⟨v5, c5⟩, hst⟩ := hs1.toEnd
                  have HST := Lib.hid hst
                  clear hst
                  have HRE2 := Lib.hid (show r = nextF C endl g { R' with left := [] } by rw [HNX.out, if_neg (by decide), if_neg (by decide), if_neg (by decide), if_pos rfl])
                  have HE := Lib.hid HST.out
                  have n1 := hs1.rot.ne
                  have n1' := n1.symm
                  clear hs1 HNX
                  go_wp2_with fail
                  go_roundg g
                  case measure => (have h1 := HG0.out; have h2 := HGG.out; omega)
                  case rel => exact ⟨{ R' with left := [] }, HRE2.out, by have h1 := HSZ.out; have h2 := HMS.out; (first | (simp only [Rs.size, List.length_cons] at h1 h2 ⊢; omega) | (simp only [Rs.size, List.length_cons, List.length_nil] at h1 h2 ⊢; omega)), HT2.out, HN2.out, by have h2 := HML.out; (first | (simp only [List.length_cons] at h2 ⊢; omega) | simp), HE.out⟩
                have q14 : (k == 14) = false := by simpa using e14
                by_cases e9 : k = 9
                · subst e9
                  have HRE2 := Lib.hid (show r = nextF C endl g { R' with left := l } by rw [HNX.out, if_neg (by decide), if_neg (by decide), if_pos rfl])
                  have HE := Lib.hid hs1
                  have n1 := hs1.rot.ne
                  have n1' := n1.symm
                  clear hs1 HNX
                  go_wp2_with fail
                  go_roundg g
                  case measure => (have h1 := HG0.out; have h2 := HGG.out; omega)
                  case rel => exact ⟨{ R' with left := l }, HRE2.out, by have h1 := HSZ.out; have h2 := HMS.out; (first | (simp only [Rs.size, List.length_cons] at h1 h2 ⊢; omega) | (simp only [Rs.size, List.length_cons, List.length_nil] at h1 h2 ⊢; omega)), HT2.out, HN2.out, by have h2 := HML.out; (first | (simp only [List.length_cons] at h2 ⊢; omega) | simp), HE.out⟩
                have q9 : (k == 9) = false := by simpa using e9
                by_cases e10 : k = 10
                · subst e10
                  by_cases s1 : R'.state = 1
                  · have t1 : ((R'.state : Int) == 1) = true := by simp [s1]
                    have HRE2 := Lib.hid (show r = (blankT, 0, { R' with left := l, state := 2 }) by rw [HNX.out, if_neg (by decide), if_neg (by decide), if_neg (by decide), if_neg (by decide), if_pos rfl, if_pos s1])
                    obtain ⟨c6, f6, lb6, hst⟩ := hs1.stateZ 2 2 rfl
                    have HST := Lib.hid hst
                    clear hst s1
                    have HE := Lib.hid HST.out
                    have hr := hs1.sat.r
                    have r0 := hr.cell (i := 0) rfl
                    have r1 := hr.cell (i := 1) rfl
                    have r2 := hr.cell (i := 2) rfl
                    have f0 := hr.free (i := 0)
                    have f1 := hr.free (i := 1)
                    have f2 := hr.free (i := 2)
                    have lr := hr.lt
                    have n1 := hs1.rot.ne
                    have n1' := n1.symm
                    clear hr hs1 HNX
                    go_wp2
                    (try simp only [Exit.inBlock, Exit.then])
                    refine bodyPost_ret (v := .tuple #[Tok.val (blankT), .int .i64 0]) (by unfold results; go_simp; all_goals (first | exact ⟨rfl, rfl, rfl⟩ | rfl)) rfl ?_
                    rw [HRE2.out]
                    exact ⟨rfl, (((((HE.out.rot).setF (i := 0) (v := .int .i64 10)).setF (i := 1) (v := .int .u8 32)).setF (i := 2) (v := .string ⟨#[]⟩)).drop).drop⟩
                  · have t1 : ((R'.state : Int) == 1) = false := by rw [beq_eq_false_iff_ne]; omega
                    have HRE2 := Lib.hid (show r = nextF C endl g { R' with left := l } by rw [HNX.out, if_neg (by decide), if_neg (by decide), if_neg (by decide), if_neg (by decide), if_pos rfl, if_neg s1])
                    clear s1
                    have HE := Lib.hid hs1
                    have n1 := hs1.rot.ne
                    have n1' := n1.symm
                    clear hs1 HNX
                    go_wp2_with fail
                    go_roundg g
                    case measure => (have h1 := HG0.out; have h2 := HGG.out; omega)
                    case rel => exact ⟨{ R' with left := l }, HRE2.out, by have h1 := HSZ.out; have h2 := HMS.out; (first | (simp only [Rs.size, List.length_cons] at h1 h2 ⊢; omega) | (simp only [Rs.size, List.length_cons, List.length_nil] at h1 h2 ⊢; omega)), HT2.out, HN2.out, by have h2 := HML.out; (first | (simp only [List.length_cons] at h2 ⊢; omega) | simp), HE.out⟩
                have q10 : (k == 10) = false := by simpa using e10
                by_cases e15 : k = 15
                · subst e15
                  have HRE2 := Lib.hid (show r = (tok0, 160, { R' with left := l }) by rw [HNX.out, if_neg (by decide), if_neg (by decide), if_neg (by decide), if_neg (by decide), if_neg (by decide), if_pos rfl])
                  have HE := Lib.hid hs1
                  have hr := hs1.sat.r
                  have r0 := hr.cell (i := 0) rfl
                  have r1 := hr.cell (i := 1) rfl
                  have r2 := hr.cell (i := 2) rfl
                  have f0 := hr.free (i := 0)
                  have f1 := hr.free (i := 1)
                  have f2 := hr.free (i := 2)
                  have lr := hr.lt
                  have n1 := hs1.rot.ne
                  have n1' := n1.symm
                  clear hr hs1 HNX
                  go_wp2
                  (try simp only [Exit.inBlock, Exit.then])
                  refine bodyPost_ret (v := .tuple #[Tok.val (tok0), .int .i64 160]) (by unfold results; go_simp; all_goals (first | exact ⟨rfl, rfl, rfl⟩ | rfl)) rfl ?_
                  rw [HRE2.out]
                  exact ⟨rfl, (((((HE.out.rot).setF (i := 0) (v := .int .i64 0)).setF (i := 1) (v := .int .u8 0)).setF (i := 2) (v := .string ⟨#[]⟩)).drop).drop⟩
                have q15 : (k == 15) = false := by simpa using e15
                have HRE2 := Lib.hid (show r = (charT k c, 0, { R' with left := l, state := 1 }) by rw [HNX.out, if_neg e0, if_neg e5, if_neg e9, if_neg e14, if_neg e10, if_neg e15])
                obtain ⟨c6, f6, lb6, hst⟩ := hs1.stateZ 1 1 rfl
                have HST := Lib.hid hst
                clear hst e0 e5 e9 e14 e10 e15
                have HE := Lib.hid HST.out
                have hr := hs1.sat.r
                have r0 := hr.cell (i := 0) rfl
                have r1 := hr.cell (i := 1) rfl
                have r2 := hr.cell (i := 2) rfl
                have f0 := hr.free (i := 0)
                have f1 := hr.free (i := 1)
                have f2 := hr.free (i := 2)
                have lr := hr.lt
                have n1 := hs1.rot.ne
                have n1' := n1.symm
                clear hr hs1 HNX
                go_wp2
                (try simp only [Exit.inBlock, Exit.then])
                refine bodyPost_ret (v := .tuple #[Tok.val (charT k c), .int .i64 0]) (by unfold results; go_simp; all_goals (first | exact ⟨rfl, rfl, rfl⟩ | rfl)) rfl ?_
                rw [HRE2.out]
                exact ⟨rfl, (((((HE.out.rot).setF (i := 0) (v := .int .i64 k)).setF (i := 1) (v := .int .u8 c.toNat)).setF (i := 2) (v := .string ⟨#[]⟩)).drop).drop⟩
end Go.Proofs.YtkfobimigiaknaaDoor
