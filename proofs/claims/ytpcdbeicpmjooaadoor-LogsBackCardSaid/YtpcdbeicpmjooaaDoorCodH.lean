
/-
  The next token. Conditions: those that the theorem names.
-/
import Derived.Test.YtpcdbeicpmjooaaDoorCodG
namespace Go.Proofs.YtpcdbeicpmjooaaDoor
open Go.RowKit Go.Sp
variable {W w w' : World} {F F' : HProp}


set_option maxRecDepth 100000 in
set_option maxHeartbeats 4000000 in
theorem next_none (C : List Int) (endl : Int) (v : Value) (w : World) (h : ∀ w', Ext w w' → Calls Tryd.prog 25 #[v] w' fun e w'' => e = .returned (.bool true) ∧ w' = w'') :
    Calls Tryd.prog 17 #[v, codesV C, .int .i64 endl] w fun e w' => e = .returned (.tuple #[Tok.val tok0, .int .i64 1]) ∧ Ext w w' := by
  have HN := Lib.hid h
  clear h
  go_enter Tryd.func17, Tryd.ntmps17
  go_wp2_with fail
  refine Calls.mono (HN.out _ ((Ext.refl _).alloc.alloc)) ?_
  rintro e w' ⟨rfl, rfl⟩
  go_wp2
  refine bodyPost_ret (v := .tuple #[Tok.val tok0, .int .i64 1]) (by unfold results; go_simp; first | exact ⟨rfl, rfl, rfl⟩ | rfl) rfl ⟨rfl, ?_⟩
  exact (Ext.refl _).alloc.alloc

theorem goodC_drop (C : List Int) (k : Nat) (h : k < C.length) : goodC (C.drop k) = (decide (0 ≤ C[k] ∧ C[k] ≤ 15) && goodC (C.drop (k + 1))) := by
  rw [List.drop_eq_getElem_cons h, goodC, List.all_cons]; rfl

theorem size_int : (Tryd.prog.info? 3).map (·.size) = some 1 := by kernel_rfl
theorem run_index_codes (C : List Int) (k : Nat) (hk : k < C.length) (hC : C.length = 256) (w : World) : (Instr.index 22 (codesV C) (.int .i64 k)).run Tryd.prog w = .ok (.int .i64 C[k]) w := by
  have hu := Tryd.underlying22
  have h1 : 0 ≤ (k : Int) ∧ (k : Int) < 256 := by omega
  have hs : (sizeOf 3).run Tryd.prog w = .ok 1 w := by
    have := size_int
    cases hq : Tryd.prog.info? 3 with
    | none => rw [hq] at this; cases this
    | some i => rw [hq] at this; simp only [Option.map_some, Option.some.injEq] at this; simp [sizeOf, typeInfo, hq, this]
  simp only [Instr.index, Sem.run_bind, asIntOf, run_underlying hu w, Result.andThen_ok, Sem.run_pure]
  go_simp
  rw [List.getElem?_eq_getElem hk]
  rfl

theorem cutAt_lt (c : UInt8) (l : List UInt8) (h : l ≠ []) : (cutAt c l).2.1.length + 1 ≤ l.length ∧ (cutAt c l).1.length + 1 + 3 * (cutAt c l).2.1.length < 3 * l.length := by
  induction l with
  | nil => exact absurd rfl h
  | cons b l ih =>
    rw [cutAt]
    split
    · simp; omega
    · by_cases hl : l = []
      · subst hl; simp [cutAt]
      · have := ih hl
        simp only [List.length_cons]
        omega

theorem begin_size {endl : Int} {R Rq : Rs} (h : beginM endl { R with left := [] } = (true, Rq)) : Rq.size < 3 * R.text.length ∧ Rq.text.length ≤ R.text.length ∧ Rq.number + Rq.text.length ≤ R.number + R.text.length := by
  rw [beginM] at h
  split at h
  · cases h
  · rename_i hc
    simp only [not_or] at hc
    simp only [Prod.mk.injEq, true_and] at h
    subst h
    have h1 := cutAt_lt 10 R.text hc.2.2
    have h2 := trim_len (cutAt 10 R.text).1 32
    refine ⟨?_, by simp only; omega, by simp only; omega⟩
    simp only [Rs.size, lineM]
    split
    · simp only [List.length_append, List.length_singleton]; omega
    · omega

/-- to the line's end -/
theorem RdAt.toEnd {b : Nat} {R : Rs} (h : RdAt W F b R w) :
    ∃ a n cap at_, w.cell? ⟨b, 5, none⟩ = some (.int .i64 (at_ : Nat)) ∧ w.cell? ⟨b, 4, none⟩ = some (.slice a n cap) ∧ n ≤ 100000 ∧ w.frozen? ⟨b, 5, none⟩ = false ∧ b < w.heap.size ∧
      RdAt W F b { R with left := [] } (w.setCell ⟨b, 5, none⟩ (.int .i64 (n : Nat))) := by
  obtain ⟨u, xs, at_, h1, h2, h3, hs⟩ := h
  obtain ⟨a, cap, rfl, -⟩ := hs.r.rowM_val
  exact ⟨a, xs.length, cap, at_, hs.cell (i := 5) rfl, hs.cell (i := 4) rfl, h3, hs.free, hs.lt, _, xs, xs.length, List.drop_of_length_le (Nat.le_refl _), Nat.le_refl _, h3, hs.set (i := 5)⟩

abbrev tok0O : Obj := .cells #[.int .i64 0, .int .u8 0, .string ByteArray.empty] 26

abbrev blankO : Obj := .cells #[.int .i64 10, .int .u8 32, .string ByteArray.empty] 26

def NextPost (W : World) (F : HProp) (b : Nat) (r : Tok × Int × Rs) (e : Ending) (w' : World) : Prop :=
  e = .returned (.tuple #[Tok.val r.1, .int .i64 r.2.1]) ∧ RdAt W F b r.2.2 w'



set_option maxRecDepth 1000000 in
set_option maxHeartbeats 8000000 in
theorem next_any (C : List Int) (hC : C.length = 256) (endl : Int) (R : Rs) (b : Nat) (h : RdAt W F b R w) (ht : R.text.length ≤ 65536) (hn : R.number + R.text.length ≤ 1000000) :
    Calls Tryd.prog 17 #[.pointer (some ⟨b, 0, none⟩), codesV C, .int .i64 endl] w (NextPost W F b (nextM C endl R)) := by
  have h0 := ((h.alloc (codesO C 22)).alloc tok0O).of_eq (show _ = pts w.heap.size (codesO C 22) * (pts (w.heap.size + 1) tok0O * F) by simp; ac_rfl)
  obtain ⟨r, hr⟩ : ∃ r, nextM C endl R = r := ⟨_, rfl⟩
  rw [hr]
  have HR := Lib.hid hr
  have HC := Lib.hid hC
  have HT := Lib.hid ht
  have HNN := Lib.hid hn
  have H0 := Lib.hid h0
  clear h h0 hr hC ht hn
  go_enter Tryd.func17, Tryd.ntmps17
  go_wp2_with fail
  refine Calls.mono (none_any H0.out) ?_
  rintro e w' ⟨rfl, rfl⟩
  have hblk := H0.out.sat.blk
  go_wp2_with fail
  refine wp_load_row 22 (.tmp 4) (by rfl) w.heap.size (by rfl) _ _ _ _ hblk Tryd.underlying22 (by rfl) ?_ ?_
  · have e : (Tryd.prog.info? 22).map (·.size) = some 256 := by kernel_rfl
    rw [e]
    simp [HC.out]
  clear hblk
  go_wp2_with fail
  go_loopg [19] 256 (fun g s19 wx => ∃ k : Nat, k ≤ 256 ∧ g = 256 - k ∧ s19 = .int .i64 k ∧ goodC (C.drop k) = goodC C ∧ RdAt W (pts w.heap.size (codesO C 22) * (pts (w.heap.size + 1) tok0O * F)) b R wx)
  case atStart => exact ⟨0, by omega, rfl, rfl, rfl, H0.out⟩
  case round =>
    obtain ⟨k, hk, rfl, rfl, hg, hx⟩ := hrel
    have HG := Lib.hid hg
    have HX := Lib.hid hx
    clear hg hx
    by_cases hlt : k < 256
    · have i1 : (k : Int) < 256 := by omega
      have i2 : (0 : Int) ≤ (k : Int) := by omega
      have hkl : k < C.length := by rw [HC.out]; exact hlt
      have HGD := Lib.hid (goodC_drop C k hkl)
      have hget := fun w => run_index_codes C k hkl HC.out w
      generalize C[k] = x at *
      clear hkl
      by_cases hx : 0 ≤ x ∧ x ≤ 15
      · have j1 : ¬ x < 0 := by omega
        have j2 : ¬ 15 < x := by omega
        have HG2 := Lib.hid (show goodC (C.drop (k + 1)) = goodC C by rw [← HG.out, HGD.out]; simp [hx])
        clear hx
        go_wp2
        go_roundg (256 - (k + 1))
        case measure => omega
        case rel => exact ⟨k + 1, by omega, rfl, by go_num, HG2.out, HX.out⟩
      · have HG2 := Lib.hid (show goodC C = false by rw [← HG.out, HGD.out]; simp [hx])
        have hxs : x < 0 ∨ (¬ x < 0 ∧ 15 < x) := by omega
        clear hx
        have HRE := Lib.hid (show r = (tok0, 1, R) by rw [← HR.out, nextM, if_pos HG2.out])
        have hr := HX.out.sat.r
        have r0 := hr.cell (i := 0) rfl
        have r1 := hr.cell (i := 1) rfl
        have r2 := hr.cell (i := 2) rfl
        have f0 := hr.free (i := 0)
        have f1 := hr.free (i := 1)
        have f2 := hr.free (i := 2)
        have lr := hr.lt
        clear hr
        rcases hxs with j1 | ⟨j1, j2⟩
        all_goals
          go_wp2
          (try simp only [Exit.inBlock, Exit.then])
          refine bodyPost_ret (v := .tuple #[Tok.val tok0, .int .i64 1]) (by unfold results; go_simp; first | exact ⟨rfl, rfl, rfl⟩ | rfl) rfl ?_
          rw [HRE.out]
          exact ⟨rfl, ((((HX.out.rot.setF (i := 0) (v := .int .i64 0)).setF (i := 1) (v := .int .u8 0)).setF (i := 2) (v := .string ⟨#[]⟩)).drop).drop⟩
    · have hk2 : 256 = k := by omega
      subst hk2
      have HG2 := Lib.hid (show goodC C = true by rw [← HG.out, List.drop_of_length_le (by rw [HC.out]; exact Nat.le_refl _)]; rfl)
      clear hlt
      have hx0 := HX.out
      obtain ⟨u, xs, at_, -, -, -, hs⟩ := hx0
      have c2 : wr.cell? ⟨b, 2, none⟩ = some (.bool R.ended) := hs.cell (i := 2) rfl
      have lb := hs.lt
      clear hs
      obtain ⟨en, hen⟩ : ∃ en, R.ended = en := ⟨_, rfl⟩
      rw [hen] at c2
      cases en
      · have HEN := Lib.hid hen
        clear hen
        have HRE := Lib.hid (show r = nextF C endl (R.size + 1) R by rw [← HR.out, nextM, if_neg (by rw [HG2.out]; simp), if_neg (by rw [HEN.out]; simp)])
        go_wp2_with fail
        go_loopg [12] (R.size + 1) (fun g s12 wx => ∃ R' : Rs, r = nextF C endl g R' ∧ R'.size < g ∧ R'.text.length ≤ 65536 ∧ R'.number + R'.text.length ≤ 1000000 ∧ RdAt W (pts w.heap.size (codesO C 22) * (pts (w.heap.size + 1) tok0O * F)) b R' wx)
        case atStart => exact ⟨R, HRE.out, Nat.lt_succ_self _, HT.out, HNN.out, HX.out⟩
        case round =>
          obtain ⟨R', hr, hsz, ht, hn, hx⟩ := hrel
          obtain ⟨g, rfl⟩ : ∃ g, gk = g + 1 := ⟨gk - 1, by omega⟩
          obtain ⟨m, hm⟩ : ∃ m, made C R'.left = m := ⟨_, rfl⟩
          have hml := made_len C R'.left
          have hCH := char_any C HC.out _ R' b _ hx
          rw [hm] at hCH hml
          have HCH := Lib.hid hCH
          have HM := Lib.hid hm
          have HR2 := Lib.hid hr
          have HSZ := Lib.hid hsz
          have HT2 := Lib.hid ht
          have HN2 := Lib.hid hn
          have HML := Lib.hid hml
          clear hCH hm hr hsz ht hn hml hx c2 lb
          go_wp2_with fail
          refine Calls.mono HCH.out ?_
          intro e' w1 hp
          cases m with
          | nil =>
            obtain ⟨rfl, hr⟩ := hp
            have hB := begin_any _ endl b hr HT2.out (by have := HN2.out; simp only; omega)
            obtain ⟨q, hq⟩ : ∃ q, beginM endl { R' with left := [] } = q := ⟨_, rfl⟩
            have HRQ := Lib.hid (show r = if q.1 = true then nextF C endl g q.2 else (tok0, 3, q.2) by rw [HR2.out, nextF, HM.out]; simp only; rw [hq])
            obtain ⟨bq, Rq⟩ := q
            rw [hq] at hB
            have HB := Lib.hid hB
            have HQ := Lib.hid hq
            clear hr hB hq
            go_wp2_with fail
            refine Calls.mono HB.out ?_
            rintro e w2 ⟨rfl, hr⟩
            have HX2 := Lib.hid hr
            cases bq
            · have HRE2 := Lib.hid (show r = (tok0, 3, Rq) by rw [HRQ.out]; rfl)
              have hr := HX2.out.sat.r
              have r0 := hr.cell (i := 0) rfl
              have r1 := hr.cell (i := 1) rfl
              have r2 := hr.cell (i := 2) rfl
              have f0 := hr.free (i := 0)
              have f1 := hr.free (i := 1)
              have f2 := hr.free (i := 2)
              have lr := hr.lt
              clear hr
              go_wp2
              (try simp only [Exit.inBlock, Exit.then])
              refine bodyPost_ret (v := .tuple #[Tok.val tok0, .int .i64 3]) (by unfold results; go_simp; first | exact ⟨rfl, rfl, rfl⟩ | rfl) rfl ?_
              rw [HRE2.out]
              exact ⟨rfl, ((((HX2.out.rot.setF (i := 0) (v := .int .i64 0)).setF (i := 1) (v := .int .u8 0)).setF (i := 2) (v := .string ⟨#[]⟩)).drop).drop⟩
            · have HRE2 := Lib.hid (show r = nextF C endl g Rq by rw [HRQ.out]; rfl)
              clear hr
              have hbs := begin_size HQ.out
              have hsz : R'.size < g + 1 := HSZ.out
              have ht : R'.text.length ≤ 65536 := HT2.out
              have hn : R'.number + R'.text.length ≤ 1000000 := HN2.out
              have HBS := Lib.hid (show Rq.size < g ∧ Rq.text.length ≤ 65536 ∧ Rq.number + Rq.text.length ≤ 1000000 by simp only [Rs.size] at hsz hbs ⊢; omega)
              clear hbs hsz ht hn
              go_wp2_with fail
              go_roundg g
              case measure => omega
              case rel => exact ⟨Rq, HRE2.out, HBS.out.1, HBS.out.2.1, HBS.out.2.2, HX2.out⟩
          | cons c l =>
            obtain ⟨rfl, hr⟩ := hp
            obtain ⟨-, at_, c5, hat, f5, lb, hn, -⟩ := hr.next rfl
            have c6 := (hr.state 0).1
            have k0 := codes_cell hr.sat HC.out c
            have lk := hr.sat.lt
            have i4 : (c.toNat : Int) < 256 := by have := c.toNat_lt; omega
            have nb := hr.ne
            have HS1 := Lib.hid ((hn.alloc blankO).of_eq (show _ = pts w.heap.size (codesO C 22) * (pts w1.heap.size blankO * (pts (w.heap.size + 1) tok0O * F)) by simp; ac_rfl))
            clear hr hn
            go_upto_block 4 with fail
            generalize hW2 : (w1.setCell ⟨b, 5, none⟩ (.int .i64 ((at_ : Int) + 1))).alloc (.cells #[.int .i64 10, .int .u8 32, .string ⟨#[]⟩] 26) = W2 at *
            have hs1 : RdAt W (pts w.heap.size (codesO C 22) * (pts w1.heap.size blankO * (pts (w.heap.size + 1) tok0O * F))) b { R' with left := l } W2 := hW2 ▸ HS1.out
            generalize w1.heap.size = x1 at *
            generalize w.heap.size + 1 = x2 at *
            have HNX := Lib.hid (show r = if codeAt C c = 0 then (nameT (nameM C { R' with left := l }).1, 0, (nameM C { R' with left := l }).2)
              else if codeAt C c = 5 then (if R'.state = 0 then (nameT [112, 97, 114], 0, { R' with left := [] }) else if R'.state = 1 then (blankT, 0, { R' with left := [] }) else nextF C endl g { R' with left := [] })
              else if codeAt C c = 9 then nextF C endl g { R' with left := l }
              else if codeAt C c = 14 then nextF C endl g { R' with left := [] }
              else if codeAt C c = 10 then (if R'.state = 1 then (blankT, 0, { R' with left := l, state := 2 }) else nextF C endl g { R' with left := l })
              else if codeAt C c = 15 then (tok0, 160, { R' with left := l })
              else (charT (codeAt C c) c, 0, { R' with left := l, state := 1 }) by rw [HR2.out, nextF, HM.out])
            clear hW2 HS1 c5 f5 lb c6 k0 lk nb HCH HM HR2
            obtain ⟨k, hk⟩ : ∃ k, codeAt C c = k := ⟨_, rfl⟩
            rw [hk] at HNX ⊢
            clear hk
            by_cases e0 : k = 0
            · subst e0
              have HRE2 := Lib.hid (show r = (nameT (nameM C { R' with left := l }).1, 0, (nameM C { R' with left := l }).2) by rw [HNX.out, if_pos rfl])
              have HNM := Lib.hid (name_any C HC.out _ _ _ _ hs1)
              clear hs1
              go_wp2_with fail
              refine Calls.mono HNM.out ?_
              rintro e' w3 ⟨rfl, hs1⟩
              generalize nameM C { R' with left := l } = nm at *
              have HE := Lib.hid hs1
              have hr := hs1.sat.r.r
              have r0 := hr.cell (i := 0) rfl
              have r1 := hr.cell (i := 1) rfl
              have r2 := hr.cell (i := 2) rfl
              have f0 := hr.free (i := 0)
              have f1 := hr.free (i := 1)
              have f2 := hr.free (i := 2)
              have lr := hr.lt
              have hx := hs1.sat.r
              have x0 := hx.cell (i := 0) rfl
              have x1c := hx.cell (i := 1) rfl
              have x2c := hx.cell (i := 2) rfl
              have lx := hx.lt
              have n1 := hs1.rot.ne
              have n1' := n1.symm
              have n2 := hs1.rot.drop.rot.ne
              have n2' := n2.symm
              clear hx hr hs1 HNX
              go_wp2
              (try simp only [Exit.inBlock, Exit.then])
              refine bodyPost_ret (v := .tuple #[Tok.val (nameT nm.1), .int .i64 0]) (by unfold results; go_simp; all_goals (first | exact ⟨rfl, rfl, rfl⟩ | rfl)) rfl ?_
              rw [HRE2.out]
              exact ⟨rfl, (((((HE.out.rot.drop.rot).setF (i := 0) (v := .int .i64 16)).setF (i := 1) (v := .int .u8 0)).setF (i := 2) (v := .string ⟨nm.1.toArray⟩)).drop).drop⟩
            have q0 : (k == 0) = false := by simpa using e0
            by_cases e5 : k = 5
            · subst e5
              obtain ⟨av, nn, cv, at2, c5, c4, hnn, f5, lb, hst⟩ := hs1.toEnd
              have HST := Lib.hid hst
              clear hst
              by_cases s0 : R'.state = 0
              · have HRE2 := Lib.hid (show r = (nameT [112, 97, 114], 0, { R' with left := [] }) by rw [HNX.out, if_neg (by decide), if_pos rfl, if_pos s0])
                have HE := Lib.hid HST.out
                have hr := hs1.sat.r.r
                have r0 := hr.cell (i := 0) rfl
                have r1 := hr.cell (i := 1) rfl
                have r2 := hr.cell (i := 2) rfl
                have f0 := hr.free (i := 0)
                have f1 := hr.free (i := 1)
                have f2 := hr.free (i := 2)
                have lr := hr.lt
                have hx := hs1.sat.r
                have x0 := hx.cell (i := 0) rfl
                have x1c := hx.cell (i := 1) rfl
                have x2c := hx.cell (i := 2) rfl
                have lx := hx.lt
                have n1 := hs1.rot.ne
                have n1' := n1.symm
                have n2 := hs1.rot.drop.rot.ne
                have n2' := n2.symm
                clear hx hr hs1 HNX
                go_wp2
                (try simp only [Exit.inBlock, Exit.then])
                refine bodyPost_ret (v := .tuple #[Tok.val (nameT [112, 97, 114]), .int .i64 0]) (by unfold results; go_simp; all_goals (first | exact ⟨rfl, rfl, rfl⟩ | rfl)) rfl ?_
                rw [HRE2.out]
                exact ⟨rfl, (((((HE.out.rot.drop.rot).setF (i := 0) (v := .int .i64 16)).setF (i := 1) (v := .int .u8 0)).setF (i := 2) (v := .string ⟨#[112, 97, 114]⟩)).drop).drop⟩
              · have t0 : ((R'.state : Int) == 0) = false := by simpa using s0
                by_cases s1 : R'.state = 1
                · have t1 : ((R'.state : Int) == 1) = true := by simp [s1]
                  have HRE2 := Lib.hid (show r = (blankT, 0, { R' with left := [] }) by rw [HNX.out, if_neg (by decide), if_pos rfl, if_neg s0, if_pos s1])
                  clear s0 s1
                  have HE := Lib.hid HST.out
                  have hr := hs1.sat.r.r
                  have r0 := hr.cell (i := 0) rfl
                  have r1 := hr.cell (i := 1) rfl
                  have r2 := hr.cell (i := 2) rfl
                  have f0 := hr.free (i := 0)
                  have f1 := hr.free (i := 1)
                  have f2 := hr.free (i := 2)
                  have lr := hr.lt
                  have hx := hs1.sat.r
                  have x0 := hx.cell (i := 0) rfl
                  have x1c := hx.cell (i := 1) rfl
                  have x2c := hx.cell (i := 2) rfl
                  have lx := hx.lt
                  have n1 := hs1.rot.ne
                  have n1' := n1.symm
                  have n2 := hs1.rot.drop.rot.ne
                  have n2' := n2.symm
                  clear hx hr hs1 HNX
                  go_wp2
                  (try simp only [Exit.inBlock, Exit.then])
                  refine bodyPost_ret (v := .tuple #[Tok.val (blankT), .int .i64 0]) (by unfold results; go_simp; all_goals (first | exact ⟨rfl, rfl, rfl⟩ | rfl)) rfl ?_
                  rw [HRE2.out]
                  exact ⟨rfl, (((((HE.out.rot.drop.rot).setF (i := 0) (v := .int .i64 10)).setF (i := 1) (v := .int .u8 32)).setF (i := 2) (v := .string ⟨#[]⟩)).drop).drop⟩
                · have t1 : ((R'.state : Int) == 1) = false := by rw [beq_eq_false_iff_ne]; omega
                  have HRE2 := Lib.hid (show r = nextF C endl g { R' with left := [] } by rw [HNX.out, if_neg (by decide), if_pos rfl, if_neg s0, if_neg s1])
                  clear s0 s1
                  have HE := Lib.hid HST.out
                  have hx := hs1.sat.r
                  have n1 := hs1.rot.ne
                  have n1' := n1.symm
                  have n2 := hs1.rot.drop.rot.ne
                  have n2' := n2.symm
                  clear hx hs1 HNX
                  go_wp2_with fail
                  go_roundg g
                  case measure => omega
                  case rel => exact ⟨{ R' with left := [] }, HRE2.out, by have h1 := HSZ.out; have h2 := HML.out; (first | (simp only [Rs.size, List.length_cons] at h1 h2 ⊢; omega) | (simp only [Rs.size, List.length_cons, List.length_nil] at h1 h2 ⊢; omega)), HT2.out, HN2.out, HE.out.rot.drop⟩
            have q5 : (k == 5) = false := by simpa using e5
            by_cases e9 : k = 9
            · subst e9
              have HRE2 := Lib.hid (show r = nextF C endl g { R' with left := l } by rw [HNX.out, if_neg (by decide), if_neg (by decide), if_pos rfl])
              have HE := Lib.hid hs1
              have hx := hs1.sat.r
              have n1 := hs1.rot.ne
              have n1' := n1.symm
              have n2 := hs1.rot.drop.rot.ne
              have n2' := n2.symm
              clear hx hs1 HNX
              go_wp2_with fail
              go_roundg g
              case measure => omega
              case rel => exact ⟨{ R' with left := l }, HRE2.out, by have h1 := HSZ.out; have h2 := HML.out; (first | (simp only [Rs.size, List.length_cons] at h1 h2 ⊢; omega) | (simp only [Rs.size, List.length_cons, List.length_nil] at h1 h2 ⊢; omega)), HT2.out, HN2.out, HE.out.rot.drop⟩
            have q9 : (k == 9) = false := by simpa using e9
            by_cases e14 : k = 14
            · subst e14
              obtain ⟨av, nn, cv, at2, c5, c4, hnn, f5, lb, hst⟩ := hs1.toEnd
              have HST := Lib.hid hst
              clear hst
              have HRE2 := Lib.hid (show r = nextF C endl g { R' with left := [] } by rw [HNX.out, if_neg (by decide), if_neg (by decide), if_neg (by decide), if_pos rfl])
              have HE := Lib.hid HST.out
              have hx := hs1.sat.r
              have n1 := hs1.rot.ne
              have n1' := n1.symm
              have n2 := hs1.rot.drop.rot.ne
              have n2' := n2.symm
              clear hx hs1 HNX
              go_wp2_with fail
              go_roundg g
              case measure => omega
              case rel => exact ⟨{ R' with left := [] }, HRE2.out, by have h1 := HSZ.out; have h2 := HML.out; (first | (simp only [Rs.size, List.length_cons] at h1 h2 ⊢; omega) | (simp only [Rs.size, List.length_cons, List.length_nil] at h1 h2 ⊢; omega)), HT2.out, HN2.out, HE.out.rot.drop⟩
            have q14 : (k == 14) = false := by simpa using e14
            by_cases e10 : k = 10
            · subst e10
              by_cases s1 : R'.state = 1
              · have t1 : ((R'.state : Int) == 1) = true := by simp [s1]
                have HRE2 := Lib.hid (show r = (blankT, 0, { R' with left := l, state := 2 }) by rw [HNX.out, if_neg (by decide), if_neg (by decide), if_neg (by decide), if_neg (by decide), if_pos rfl, if_pos s1])
                obtain ⟨c6, f6, lb6, hst⟩ := hs1.state 2
                have HST := Lib.hid hst
                clear hst s1
                have HE := Lib.hid HST.out
                have hr := hs1.sat.r.r
                have r0 := hr.cell (i := 0) rfl
                have r1 := hr.cell (i := 1) rfl
                have r2 := hr.cell (i := 2) rfl
                have f0 := hr.free (i := 0)
                have f1 := hr.free (i := 1)
                have f2 := hr.free (i := 2)
                have lr := hr.lt
                have hx := hs1.sat.r
                have x0 := hx.cell (i := 0) rfl
                have x1c := hx.cell (i := 1) rfl
                have x2c := hx.cell (i := 2) rfl
                have lx := hx.lt
                have n1 := hs1.rot.ne
                have n1' := n1.symm
                have n2 := hs1.rot.drop.rot.ne
                have n2' := n2.symm
                clear hx hr hs1 HNX
                go_wp2
                (try simp only [Exit.inBlock, Exit.then])
                refine bodyPost_ret (v := .tuple #[Tok.val (blankT), .int .i64 0]) (by unfold results; go_simp; all_goals (first | exact ⟨rfl, rfl, rfl⟩ | rfl)) rfl ?_
                rw [HRE2.out]
                exact ⟨rfl, (((((HE.out.rot.drop.rot).setF (i := 0) (v := .int .i64 10)).setF (i := 1) (v := .int .u8 32)).setF (i := 2) (v := .string ⟨#[]⟩)).drop).drop⟩
              · have t1 : ((R'.state : Int) == 1) = false := by rw [beq_eq_false_iff_ne]; omega
                have HRE2 := Lib.hid (show r = nextF C endl g { R' with left := l } by rw [HNX.out, if_neg (by decide), if_neg (by decide), if_neg (by decide), if_neg (by decide), if_pos rfl, if_neg s1])
                clear s1
                have HE := Lib.hid hs1
                have hx := hs1.sat.r
                have n1 := hs1.rot.ne
                have n1' := n1.symm
                have n2 := hs1.rot.drop.rot.ne
                have n2' := n2.symm
                clear hx hs1 HNX
                go_wp2_with fail
                go_roundg g
                case measure => omega
                case rel => exact ⟨{ R' with left := l }, HRE2.out, by have h1 := HSZ.out; have h2 := HML.out; (first | (simp only [Rs.size, List.length_cons] at h1 h2 ⊢; omega) | (simp only [Rs.size, List.length_cons, List.length_nil] at h1 h2 ⊢; omega)), HT2.out, HN2.out, HE.out.rot.drop⟩
            have q10 : (k == 10) = false := by simpa using e10
            by_cases e15 : k = 15
            · subst e15
              have HRE2 := Lib.hid (show r = (tok0, 160, { R' with left := l }) by rw [HNX.out, if_neg (by decide), if_neg (by decide), if_neg (by decide), if_neg (by decide), if_neg (by decide), if_pos rfl])
              have HE := Lib.hid hs1
              have hr := hs1.sat.r.r
              have r0 := hr.cell (i := 0) rfl
              have r1 := hr.cell (i := 1) rfl
              have r2 := hr.cell (i := 2) rfl
              have f0 := hr.free (i := 0)
              have f1 := hr.free (i := 1)
              have f2 := hr.free (i := 2)
              have lr := hr.lt
              have hx := hs1.sat.r
              have x0 := hx.cell (i := 0) rfl
              have x1c := hx.cell (i := 1) rfl
              have x2c := hx.cell (i := 2) rfl
              have lx := hx.lt
              have n1 := hs1.rot.ne
              have n1' := n1.symm
              have n2 := hs1.rot.drop.rot.ne
              have n2' := n2.symm
              clear hx hr hs1 HNX
              go_wp2
              (try simp only [Exit.inBlock, Exit.then])
              refine bodyPost_ret (v := .tuple #[Tok.val (tok0), .int .i64 160]) (by unfold results; go_simp; all_goals (first | exact ⟨rfl, rfl, rfl⟩ | rfl)) rfl ?_
              rw [HRE2.out]
              exact ⟨rfl, (((((HE.out.rot.drop.rot).setF (i := 0) (v := .int .i64 0)).setF (i := 1) (v := .int .u8 0)).setF (i := 2) (v := .string ⟨#[]⟩)).drop).drop⟩
            have q15 : (k == 15) = false := by simpa using e15
            have HRE2 := Lib.hid (show r = (charT k c, 0, { R' with left := l, state := 1 }) by rw [HNX.out, if_neg e0, if_neg e5, if_neg e9, if_neg e14, if_neg e10, if_neg e15])
            obtain ⟨c6, f6, lb6, hst⟩ := hs1.state 1
            have HST := Lib.hid hst
            clear hst e0 e5 e9 e14 e10 e15
            have HE := Lib.hid HST.out
            have hr := hs1.sat.r.r
            have r0 := hr.cell (i := 0) rfl
            have r1 := hr.cell (i := 1) rfl
            have r2 := hr.cell (i := 2) rfl
            have f0 := hr.free (i := 0)
            have f1 := hr.free (i := 1)
            have f2 := hr.free (i := 2)
            have lr := hr.lt
            have hx := hs1.sat.r
            have x0 := hx.cell (i := 0) rfl
            have x1c := hx.cell (i := 1) rfl
            have x2c := hx.cell (i := 2) rfl
            have lx := hx.lt
            have n1 := hs1.rot.ne
            have n1' := n1.symm
            have n2 := hs1.rot.drop.rot.ne
            have n2' := n2.symm
            clear hx hr hs1 HNX
            go_wp2
            (try simp only [Exit.inBlock, Exit.then])
            refine bodyPost_ret (v := .tuple #[Tok.val (charT k c), .int .i64 0]) (by unfold results; go_simp; all_goals (first | exact ⟨rfl, rfl, rfl⟩ | rfl)) rfl ?_
            rw [HRE2.out]
            exact ⟨rfl, (((((HE.out.rot.drop.rot).setF (i := 0) (v := .int .i64 k)).setF (i := 1) (v := .int .u8 c.toNat)).setF (i := 2) (v := .string ⟨#[]⟩)).drop).drop⟩
      · have HRE := Lib.hid (show r = (tok0, 3, R) by rw [← HR.out, nextM, if_neg (by rw [HG2.out]; simp), if_pos hen])
        clear hen
        have hr := HX.out.sat.r
        have r0 := hr.cell (i := 0) rfl
        have r1 := hr.cell (i := 1) rfl
        have r2 := hr.cell (i := 2) rfl
        have f0 := hr.free (i := 0)
        have f1 := hr.free (i := 1)
        have f2 := hr.free (i := 2)
        have lr := hr.lt
        clear hr
        go_wp2
        (try simp only [Exit.inBlock, Exit.then])
        refine bodyPost_ret (v := .tuple #[Tok.val tok0, .int .i64 3]) (by unfold results; go_simp; first | exact ⟨rfl, rfl, rfl⟩ | rfl) rfl ?_
        rw [HRE.out]
        exact ⟨rfl, ((((HX.out.rot.setF (i := 0) (v := .int .i64 0)).setF (i := 1) (v := .int .u8 0)).setF (i := 2) (v := .string ⟨#[]⟩)).drop).drop⟩

end Go.Proofs.YtpcdbeicpmjooaaDoor
