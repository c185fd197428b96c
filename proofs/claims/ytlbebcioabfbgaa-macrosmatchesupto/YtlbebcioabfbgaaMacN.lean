/-
  The matcher: follows, exactly. Conditions: those that each theorem names.
-/
import Derived.Test.YtlbebcioabfbgaaMacM
namespace Go.Proofs.Ytlbebcioabfbgaa
open Go.RowKit Go.Sp
variable {W w w' : World} {F : HProp}

theorem same_isQ {b : Bool} (xs ys : List Tok) (v u : Value) (w : World) (n : Nat) (hb : decide (xs = ys) = b) (hv : RdT (w.drewN n) v xs) (hu : RdT (w.drewN n) u ys) :
    Calls Try.prog 55 #[v, u] (w.drewN n) fun e w'' => e = .returned (.bool b) ∧ ∃ m, w'' = w.drewN m := by
  refine Calls.mono (same_any xs ys v u _ hv hu) ?_
  rintro e w' ⟨rfl, q, rfl⟩
  exact ⟨by rw [hb], n + q, by rw [World.drewN_drewN]⟩

theorem prefix_take (D S : List Tok) : D.isPrefixOf S = (decide (D.length ≤ S.length) && decide (S.take D.length = D)) := by
  rw [Bool.eq_iff_iff]
  simp only [List.isPrefixOf_iff_prefix, Bool.and_eq_true, decide_eq_true_eq]
  constructor
  · intro h; exact ⟨h.length_le, (List.prefix_iff_eq_take.1 h).symm⟩
  · rintro ⟨_, h⟩; exact List.prefix_iff_eq_take.2 h.symm

theorem RdT.mid {a : Option Addr} {n c i m : Nat} {L : List Tok} (h : RdT w (.slice a n c) L) (hi : i < L.length) (hm : i + m ≤ L.length) :
    ∃ b off, a = some ⟨b, off, none⟩ ∧ RdT w (.slice (some ⟨b, off + i * 3, none⟩) m (c - i)) ((L.drop i).take m) := by
  obtain ⟨b, off, rfl, -⟩ := h.at hi
  exact ⟨b, off, rfl, RdT.take (h.drop (Nat.le_of_lt hi)) (by rw [List.length_drop]; omega)⟩

theorem follows_any (vp vb vl vd : Value) (long : Bool) (L D : List Tok) (b i : Nat) (h : Sat W (pts b (useO vp vb long vl i) * F) w) (hL : Holds W F vl L) (hD : Holds W F vd D) (hi : i ≤ L.length) (hD0 : 0 < D.length) :
    Calls Try.prog 60 #[.pointer (some ⟨b, 0, none⟩), vd] w fun e w' => e = .returned (.bool (D.isPrefixOf (L.drop i))) ∧ ∃ q, w.drewN q = w' := by
  have hr := hL w h.r
  have hd := hD w h.r
  obtain ⟨a, c, hv, hc⟩ := hr.capd
  obtain ⟨a', c', hv', hc'⟩ := hd.capd
  have hle := hr.le
  have hle' := hd.le
  rw [hv] at hr
  rw [hv'] at hd
  have m4 := h.cell (i := 4) rfl
  have m3 := h.cell (i := 3) rfl
  have hb := h.lt
  by_cases hg : D.length ≤ L.length - i
  · obtain ⟨b', off, rfl, hm⟩ := hr.mid (i := i) (m := D.length) (by omega) (by omega)
    have HP := Lib.hid (show D.isPrefixOf (L.drop i) = decide ((L.drop i).take D.length = D) by rw [prefix_take, List.length_drop]; simp [hg])
    obtain ⟨r, hr'⟩ : ∃ r, decide ((L.drop i).take D.length = D) = r := ⟨_, rfl⟩
    have HR := Lib.hid hr'
    have HM := Lib.hid hm
    have HD := Lib.hid hd
    clear hr' hm hd hr
    generalize hn : L.length = n at *
    generalize hn' : D.length = m at *
    clear hn hn' hL hD
    subst hv hv'
    have g1 : ((m : Int) ≤ (n : Int) - (i : Int)) := by omega
    have g2 : decide ((m : Int) ≤ (n : Int) - (i : Int)) = true := by simpa using g1
    have g3 : (i : Int) + (m : Int) ≤ (c : Int) := by omega
    have e1 : IntKind.i64.wrap ((n : Int) - (i : Int)) = (n : Int) - (i : Int) := IntWalk.i64_in _ (by omega)
    have e2 : IntKind.i64.wrap ((i : Int) + (m : Int)) = (i : Int) + (m : Int) := IntWalk.i64_in _ (by omega)
    have e3 : ((i : Int) + (m : Int)).toNat = i + m := by omega
    go_enter Try.func60, Try.ntmps60
    go_wp2
    go_quiet ((go_at_call 55; refine same_isQ _ _ _ _ _ _ HR.out ?_ ?_; exact HM.out.drewN _; exact HD.out.drewN _))
    go_wp2
    go_ret
    exact ⟨by rw [HP.out, HR.out]; rfl, _, rfl⟩
  · have HP := Lib.hid (show D.isPrefixOf (L.drop i) = false by rw [prefix_take, List.length_drop]; simp [hg])
    generalize hn : L.length = n at *
    generalize hn' : D.length = m at *
    clear hn hn' hL hD hr hd
    subst hv hv'
    have g2 : decide ((m : Int) ≤ (n : Int) - (i : Int)) = false := by simp; omega
    have e1 : IntKind.i64.wrap ((n : Int) - (i : Int)) = (n : Int) - (i : Int) := IntWalk.i64_in _ (by omega)
    go_enter Try.func60, Try.ntmps60
    go_wp2
    go_quiet (fail)
    go_wp2
    go_ret
    exact ⟨by rw [HP.out]; rfl, _, rfl⟩

def ExPost (W : World) (F : HProp) (b : Nat) (vp vb vl : Value) (long : Bool) (r : Int) (i n : Nat) (e : Ending) (w' : World) : Prop :=
  if r = 0 then e = .returned (.tuple #[]) ∧ Sat W (pts b (useO vp vb long vl (i + n)) * F) w' else e = died r ∧ ∃ j, Sat W (pts b (useO vp vb long vl j) * F) w'

theorem preM_end (D : List Tok) (h : 0 < D.length) : preM D [] = 172 := by cases D with | nil => simp at h | cons => rfl
theorem preM_drop (D S : List Tok) (k i : Nat) (hk : k < D.length) (hi : i < S.length) : preM (D.drop k) (S.drop i) = if S[i] = D[k] then preM (D.drop (k + 1)) (S.drop (i + 1)) else 171 := by
  rw [List.drop_eq_getElem_cons hk, List.drop_eq_getElem_cons hi, preM]

set_option maxHeartbeats 1000000 in
theorem exactly_any (vp vb vl vd : Value) (long : Bool) (L D : List Tok) (b i : Nat) (h : Sat W (pts b (useO vp vb long vl i) * F) w) (hL : Holds W F vl L) (hD : Holds W F vd D) (hi : i ≤ L.length) :
    Calls Try.prog 47 #[.pointer (some ⟨b, 0, none⟩), vd] w (ExPost W F b vp vb vl long (preM D (L.drop i)) i D.length) := by
  obtain ⟨a', c', hv', hc'⟩ := (hD w h.r).capd
  have hle := (hL w h.r).le
  have hle' := (hD w h.r).le
  obtain ⟨m, hm⟩ : ∃ m, D.length = m := ⟨_, rfl⟩
  rw [hm] at hv' hc' hle' ⊢
  subst hv'
  obtain ⟨r, hr⟩ : ∃ r, preM D (L.drop i) = r := ⟨_, rfl⟩
  rw [hr]
  have HR := Lib.hid hr
  have HM := Lib.hid hm
  have H := Lib.hid h
  clear hr hm h
  go_enter Try.func47, Try.ntmps47
  go_wp2
  go_loopw [8] (fun n wr => ∃ k : Nat, k ≤ m ∧ n = .int .i64 k ∧ i + k ≤ L.length ∧ preM (D.drop k) (L.drop (i + k)) = r ∧ Sat W (pts b (useO vp vb long vl (i + k)) * F) wr) (fun n _ => m - (intOf n).toNat)
  case atStart => exact ⟨0, by omega, rfl, by omega, HR.out, H.out⟩
  case round =>
    obtain ⟨k, hk, rfl, hik, ha, hx⟩ := hrel
    have HA := Lib.hid ha
    have HX := Lib.hid hx
    clear ha hx
    by_cases hlt : k < m
    · have hlt' : k < D.length := by rw [HM.out]; exact hlt
      obtain ⟨b', off, rfl, ⟨c0, c1, c2⟩, hb'⟩ := (hD wr HX.out.r).at hlt'
      have lt1 : (k : Int) < (m : Int) := by omega
      have h1 := HX.out.alloc (.cells #[.int .i64 D[k].cat, .int .u8 D[k].chr.toNat, .string D[k].name] 46)
      have H1 := Lib.hid h1
      clear h1
      by_cases hin : i + k < L.length
      · have HP := Lib.hid (preM_drop D L k (i + k) hlt' hin)
        generalize D[k] = t at *
        generalize hu : L[i + k] = u at *
        have HU := Lib.hid hu
        clear hu
        go_wp2
        generalize wr.heap.size = x at *
        refine wp_region_tail (Sat W (pts x (.cells #[.int .i64 t.cat, .int .u8 t.chr.toNat, .string t.name] 46 (0, 0)) * (pts b (useO vp vb long vl (i + k)) * F))) 3 (by kernel_rfl) (by kernel_rfl) (H1.out.drew) ?_
        simp only [List.take_succ_cons, List.take_zero, List.drop_succ_cons, List.drop_zero]
        repeat (refine wpQuiet_step (fun K hK => ?_); go_simp; first | (refine hK _ ?_; clear hK K) | (apply Exists.intro; refine ⟨fun w' hw' => ?_, hK _ ?_⟩; (first | rfl | (go_at_call 57; exact (peek_yes vp vb vl long L b (i + k) (F := pts x (.cells #[.int .i64 t.cat, .int .u8 t.chr.toNat, .string t.name] 46 (0, 0)) * F) hw'.rot (fun w h => hL w h.r) hin).mono fun _ _ ⟨h1, h2⟩ => ⟨h1, h2.rot⟩) | (have c0 := hw'.cell (i := 0) rfl; have c1 := hw'.cell (i := 1) rfl; have c2 := hw'.cell (i := 2) rfl; go_simp; first | done | rfl)); clear hK K))
        refine wpQuiet_nil ?_
        intro w1 hw1
        rw [HU.out]
        have hrun := fun w => run_neq w u t
        have HW := Lib.hid hw1.r
        have m4 := hw1.r.cell (i := 4) rfl
        have f4 := hw1.r.free (i := 4)
        have hb := hw1.r.lt
        clear hw1
        by_cases hut : u = t
        · have hd : (!decide (u = t)) = false := by simp [hut]
          have HN := Lib.hid (show preM (D.drop (k + 1)) (L.drop (i + (k + 1))) = r by rw [← HA.out, HP.out, if_pos hut]; rfl)
          have HS := Lib.hid (HW.out.set (i := 4) (v := .int .i64 (i + (k + 1) : Nat)))
          have e1 : ((i + k : Nat) : Int) + 1 = (i + (k + 1) : Nat) := by omega
          clear hut
          go_wp2
          go_roundw
          case rel => exact ⟨k + 1, by omega, by go_num, by omega, HN.out, HS.out⟩
          case measure => simp [intOf]; omega
        · have hd : (!decide (u = t)) = true := by simp [hut]
          have HN := Lib.hid (show r = 171 by rw [← HA.out, HP.out, if_neg hut])
          clear hut
          go_wp2_with (go_at_call 58; with_reducible refine Calls.mono (fail_any _ _ _) ?_; rintro e w' ⟨rfl, rfl⟩)
          refine ⟨rfl, ?_⟩
          rw [ExPost, HN.out]
          exact ⟨rfl, _, HW.out⟩
      · have HN := Lib.hid (show r = 172 by rw [← HA.out, List.drop_of_length_le (l := L) (by omega), preM_end]; rw [List.length_drop]; omega)
        generalize D[k] = t at *
        go_wp2
        generalize wr.heap.size = x at *
        have c0 := H1.out.drew.cell (i := 0) rfl
        have c1 := H1.out.drew.cell (i := 1) rfl
        have c2 := H1.out.drew.cell (i := 2) rfl
        have HK := Lib.hid (peek_no vp vb vl long L b (i + k) (F := pts x (.cells #[.int .i64 t.cat, .int .u8 t.chr.toNat, .string t.name] 46 (0, 0)) * F) H1.out.drew.rot (fun w h => hL w h.r) hin)
        have HE := Lib.hid (show ∀ w', Sat W (pts b (useO vp vb long vl (i + k)) * (pts x (.cells #[.int .i64 t.cat, .int .u8 t.chr.toNat, .string t.name] 46 (0, 0)) * F)) w' → ExPost W F b vp vb vl long r i m (died 172) w' from fun w' h => by rw [ExPost, HN.out]; exact ⟨rfl, _, h.rot.r⟩)
        refine wp_region_any (by kernel_rfl) ?_
        change wpAny _ _ _ _ _ _ _ (World.drew _)
        refine wpAny_take (i := 0) (v := ?_) rfl (by kernel_rfl) (by kernel_rfl) (by kernel_rfl) (fun _ _ _ h => h) (Or.inl ⟨by rfl, ?_⟩) ?_
        rotate_left 1
        · intro w; go_simp; try with_reducible rfl
        refine wpAny_ready (rs := [1, 2]) (by kernel_rfl) (by simp) ?_
        refine AllReady.cons rfl (fun K hK => ?_) ?_
        · go_simp
          refine Calls.mono HK.out ?_
          rintro e w' ⟨rfl, h2⟩
          exact ⟨rfl, HE.out _ h2⟩
        refine AllReady.cons rfl (fun K hK => ?_) ?_
        · go_simp
          refine hK _ _ ?_
          clear hK K
          refine wpAny_ready (rs := [1]) (by kernel_rfl) (by simp) ?_
          refine AllReady.cons rfl (fun K hK => ?_) ?_
          · go_simp
            refine Calls.mono HK.out ?_
            rintro e w' ⟨rfl, h2⟩
            exact ⟨rfl, HE.out _ h2⟩
          exact AllReady.nil
        exact AllReady.nil
    · obtain rfl : k = m := by omega
      have HN := Lib.hid (show r = 0 by rw [← HA.out, List.drop_of_length_le (l := D) (by rw [HM.out]; omega)]; rfl)
      go_wp2
      go_end0
      rw [ExPost, HN.out]
      exact ⟨rfl, HX.out⟩

end Go.Proofs.Ytlbebcioabfbgaa
