/-
  The helpers of the laws: alike, spoil, lists. Conditions: those that each theorem names.
-/
import Derived.Test.YtlbebcioabfbgaaMacG
theorem Go.Sp.quiet_of {P : Go.Program} {f : Go.FuncId} {args : Array Go.Value} {w : Go.World} {n : Nat} {v : Go.Value}
    (h : Go.Calls P f args (w.drewN n) fun e w' => e = .returned v ∧ ∃ q, (w.drewN n).drewN q = w') : Go.Calls P f args (w.drewN n) fun e w'' => e = .returned v ∧ ∃ m, w'' = w.drewN m :=
  h.mono fun _ _ ⟨he, q, hq⟩ => ⟨he, n + q, by rw [← hq, Go.World.drewN_drewN]⟩

namespace Go.Proofs.Ytlbebcioabfbgaa
open Go.RowKit Go.Sp
variable {W w w' : World} {F : HProp}

set_option maxHeartbeats 4000000 in
set_option maxRecDepth 100000 in
theorem alike_any (P B P' B' : List Tok) (vp vb vp' vb' : Value) (long long' : Bool) (w : World) (hp : RdT w vp P) (hb : RdT w vb B) (hp' : RdT w vp' P') (hb' : RdT w vb' B') :
    Calls Try.prog 15 #[.agg #[vp, vb, .bool long], .agg #[vp', vb', .bool long']] w fun e w' => e = .returned (.bool (sameM P B P' B' long long')) ∧ Ext w w' := by
  have HP := Lib.hid hp
  have HB := Lib.hid hb
  have HP' := Lib.hid hp'
  have HB' := Lib.hid hb'
  clear hp hb hp' hb'
  obtain ⟨b1, h1⟩ : ∃ b1, decide (P = P') = b1 := ⟨_, rfl⟩
  obtain ⟨b2, h2⟩ : ∃ b2, decide (B = B') = b2 := ⟨_, rfl⟩
  have HS := Lib.hid (show sameM P B P' B' long long' = (b1 && b2 && (long == long')) by rw [sameM, h1, h2])
  have H1 := Lib.hid h1
  have H2 := Lib.hid h2
  clear h1 h2
  have HX := Lib.hid (show Ext w ((w.alloc (.cells #[vp, vb, .bool long] 25)).alloc (.cells #[vp', vb', .bool long'] 29)) from (Ext.refl _).alloc.alloc)
  cases b1 <;> cases b2 <;> cases long <;> cases long'
  all_goals
    go_enter Try.func15, Try.ntmps15
    go_wp2_with first
      | (go_at_call 16; with_reducible refine Calls.mono (sameT_is P P' _ _ _ H1.out (HP.out.ext HX.out) (HP'.out.ext HX.out)) ?_; rintro e w' ⟨rfl, q, rfl⟩)
      | (go_at_call 16; with_reducible refine Calls.mono (sameT_is B B' _ _ _ H2.out (HB.out.ext HX.out) (HB'.out.ext HX.out)) ?_; rintro e w' ⟨rfl, q, rfl⟩)
      | (go_at_call 16; with_reducible refine Calls.mono (sameT_is B B' _ _ _ H2.out (HB.out.ext HX.out.drewN) (HB'.out.ext HX.out.drewN)) ?_; rintro e w' ⟨rfl, q2, rfl⟩)
    go_ret
    exact ⟨by rw [HS.out]; rfl, by first | exact HX.out | exact HX.out.drewN | exact HX.out.drewN.drewN⟩

theorem flat_set (L : List Tok) (t : Tok) : ∀ i, i < L.length → flat (L.set i t) = (((flat L).set (i * 3) (.int .i64 t.cat)).set (i * 3 + 1) (.int .u8 t.chr.toNat)).set (i * 3 + 2) (.string t.name) := by
  induction L with
  | nil => intro i h; simp at h
  | cons x L ih =>
    intro i h
    cases i with
    | zero => rfl
    | succ i =>
      have e1 : (i + 1) * 3 = i * 3 + 3 := by omega
      rw [List.set_cons_succ, flat_cons, ih i (by simpa using h), flat_cons, e1]
      simp only [Tok.cells, List.cons_append, List.nil_append, List.set_cons_succ, Nat.add_assoc, Nat.reduceAdd]

theorem rowT_at {a : Option Addr} {n c i : Nat} {L : List Tok} (h : Sat W (rowT (.slice a n c) L * F) w) (hi : i < L.length) :
    ∃ g, a = some ⟨g, 0, none⟩ ∧ n = L.length ∧ At w g (i * 3) L[i] ∧ (∀ j, w.frozen? ⟨g, j, none⟩ = false) ∧ g < w.heap.size := by
  have hr := rowT_rd h
  obtain ⟨b, off, rfl, hat, hb⟩ := hr.at hi
  obtain ⟨hn, _⟩ := hr.cap
  obtain ⟨_, hc⟩ := h.row_cases
  rcases hc with ⟨h0, _⟩ | ⟨g, cap, cur, h0, _⟩
  · simp at h0
  · simp only [Value.slice.injEq, Option.some.injEq, Addr.mk.injEq, and_true] at h0
    obtain ⟨⟨rfl, rfl⟩, rfl, rfl⟩ := h0
    exact ⟨b, rfl, rfl, by simpa using hat, fun j => Sat.row_free h, hb⟩

theorem rowT_set {g n c i : Nat} {L : List Tok} (h : Sat W (rowT (.slice (some ⟨g, 0, none⟩) n c) L * F) w) (hi : i < L.length) (t : Tok) :
    Sat W (rowT (.slice (some ⟨g, 0, none⟩) n c) (L.set i t) * F) (((w.setCell ⟨g, i * 3, none⟩ (.int .i64 t.cat)).setCell ⟨g, i * 3 + 1, none⟩ (.int .u8 t.chr.toNat)).setCell ⟨g, i * 3 + 2, none⟩ (.string t.name)) := by
  have hn : n = L.length := (rowT_rd h).cap.1
  unfold rowT at h ⊢
  rw [List.length_set, flat_set L t i hi]
  rw [← hn] at h ⊢
  exact ((h.row_set).row_set).row_set

/-- tokens that are written over -/
theorem spoil_any (L : List Tok) (v : Value) (w : World) (hn : L.length ≤ 4000000000) (h : Sat W (rowT v L * F) w) :
    Calls Try.prog 17 #[v] w fun e w' => e = .returned (.tuple #[]) ∧ ∃ L' : List Tok, L'.length = L.length ∧ Sat W (rowT v L' * F) w' := by
  obtain ⟨nL, hnl⟩ : ∃ nL, L.length = nL := ⟨_, rfl⟩
  obtain ⟨a, c, hv, hc⟩ := (rowT_rd h).capd
  rw [hnl] at hv hc hn
  subst hv
  have H := Lib.hid h
  have NL := Lib.hid hnl
  clear h hnl
  by_cases h0 : nL = 0
  · subst h0
    go_enter Try.func17, Try.ntmps17
    go_wp2
    go_loopw [2] (fun i wr => i = .int .i64 0 ∧ w = wr) (fun i _ => 0)
    case atStart => exact ⟨rfl, rfl⟩
    case round =>
      obtain ⟨rfl, rfl⟩ := hrel
      go_wp2
      go_end0
      exact ⟨rfl, L, rfl, H.out⟩
  have hpos : 0 < nL := by omega
  obtain ⟨g, rfl, -, -⟩ := rowT_at H.out (i := 0) (by rw [NL.out]; exact hpos)
  go_enter Try.func17, Try.ntmps17
  go_wp2
  go_loopw [2] (fun i wr => ∃ k : Nat, k ≤ nL ∧ i = .int .i64 k ∧ ∃ L' : List Tok, L'.length = nL ∧ Sat W (rowT (.slice (some ⟨g, 0, none⟩) nL c) L' * F) wr) (fun i _ => nL - (intOf i).toNat)
  case atStart => exact ⟨0, by omega, rfl, L, NL.out, H.out⟩
  case round =>
    obtain ⟨k, hk, rfl, L', hl, hx⟩ := hrel
    have HL := Lib.hid hl
    have HX := Lib.hid hx
    clear hl hx
    by_cases hlt : k < nL
    · obtain ⟨_, hq, -, ⟨c0, c1, c2⟩, hf, hb⟩ := rowT_at HX.out (i := k) (by rw [HL.out]; exact hlt)
      cases hq
      have f0 := hf (k * 3)
      have f1 := hf (k * 3 + 1)
      have f2 := hf (k * 3 + 2)
      have HS := Lib.hid (rowT_set HX.out (i := k) (by rw [HL.out]; exact hlt) ⟨77, 0, ByteArray.empty⟩)
      have lt1 : (k : Int) < (nL : Int) := by omega
      go_wp2
      go_roundw
      case rel => exact ⟨k + 1, by omega, by go_num, _, by rw [List.length_set, HL.out], HS.out⟩
      case measure => simp [intOf]; omega
    · obtain rfl : k = nL := by omega
      go_wp2
      go_end0
      exact ⟨rfl, L', by rw [HL.out, NL.out], HX.out⟩

/-- In w the slice v is the list of lists LL. -/
def RdTT (w : World) (v : Value) (LL : List (List Tok)) : Prop :=
  ∃ us : List Value, us.length = LL.length ∧ Rd w v LL.length 1 us ∧ (∃ a cap, v = .slice a LL.length cap ∧ LL.length ≤ cap) ∧ ∀ (i : Nat) (u : Value) (L : List Tok), us[i]? = some u → LL[i]? = some L → RdT w u L

theorem RdTT.ext {v : Value} {LL : List (List Tok)} (h : RdTT w v LL) (k : Ext w w') : RdTT w' v LL :=
  let ⟨us, h1, h2, h3, h4⟩ := h
  ⟨us, h1, h2.ext k, h3, fun i u L hu hL => (h4 i u L hu hL).ext k⟩

theorem RdTT.at {a : Option Addr} {cap n i : Nat} {LL : List (List Tok)} (h : RdTT w (.slice a n cap) LL) (hi : i < LL.length) :
    ∃ b off a' c', a = some ⟨b, off, none⟩ ∧ w.cell? ⟨b, off + i, none⟩ = some (.slice a' LL[i].length c') ∧ RdT w (.slice a' LL[i].length c') LL[i] ∧ b < w.heap.size := by
  obtain ⟨us, h1, ⟨h2, h3, a', cap', e, hc⟩, h4, h5⟩ := h
  cases e
  obtain ⟨b, off, rfl, hcell⟩ := hc i us[i] (by simp [h1, hi])
  have hr := h5 i us[i] LL[i] (by simp [h1, hi]) (by simp [hi])
  obtain ⟨a', c', hv⟩ := hr.val
  exact ⟨b, off, a', c', rfl, by rw [hcell, hv], hv ▸ hr, World.block_lt_of_cell? w _ hcell⟩

theorem lists_any (A B : List (List Tok)) (v u : Value) (w : World) (hn : A.length ≤ 4000000000) (hv : RdTT w v A) (hu : RdTT w u B) :
    Calls Try.prog 22 #[v, u] w fun e w' => e = .returned (.bool (decide (A = B))) ∧ Ext w w' := by
  obtain ⟨na, hna⟩ : ∃ na, A.length = na := ⟨_, rfl⟩
  obtain ⟨nb, hnb⟩ : ∃ nb, B.length = nb := ⟨_, rfl⟩
  have hv' := hv
  have hu' := hu
  obtain ⟨_, _, _, ⟨a, c, rfl, _⟩, _⟩ := hv'
  obtain ⟨_, _, ⟨_, hbm, _⟩, ⟨a', c', rfl, _⟩, _⟩ := hu'
  rw [hna] at hn hv
  rw [hnb] at hu hbm
  rw [hna, hnb]
  have HV := Lib.hid hv
  have HU := Lib.hid hu
  have NA := Lib.hid hna
  have NB := Lib.hid hnb
  clear hv hu hna hnb
  simp only [maxLen] at hbm
  by_cases hl : na = nb
  · subst hl
    go_enter Try.func22, Try.ntmps22
    go_wp2
    go_loopw [5] (fun i wr => ∃ k : Nat, k ≤ na ∧ i = .int .i64 k ∧ A.take k = B.take k ∧ Ext w wr) (fun i _ => na - (intOf i).toNat)
    case atStart => exact ⟨0, by omega, rfl, rfl, Ext.refl _⟩
    case round =>
      obtain ⟨k, hk, rfl, he, hx⟩ := hrel
      have HE := Lib.hid he
      have HX := Lib.hid hx
      clear he hx
      by_cases hlt : k < na
      · obtain ⟨b, off, d, e, rfl, hc, hr, hb⟩ := (HV.out.ext HX.out).at (i := k) (by rw [NA.out]; exact hlt)
        obtain ⟨b', off', d', e', rfl, hc', hr', hb'⟩ := (HU.out.ext HX.out).at (i := k) (by rw [NB.out]; exact hlt)
        have HR := Lib.hid hr
        have HR' := Lib.hid hr'
        clear hr hr'
        have lt1 : (k : Int) < (na : Int) := by omega
        have HT := Lib.hid (show A[k]'(by rw [NA.out]; exact hlt) = B[k]'(by rw [NB.out]; exact hlt) → A.take (k + 1) = B.take (k + 1) by
          intro h
          rw [List.take_succ_eq_append_getElem (by rw [NA.out]; exact hlt), List.take_succ_eq_append_getElem (by rw [NB.out]; exact hlt), HE.out, h])
        have HT2 := Lib.hid (show A = B → A[k]'(by rw [NA.out]; exact hlt) = B[k]'(by rw [NB.out]; exact hlt) by rintro rfl; rfl)
        generalize A[k]'(by rw [NA.out]; exact hlt) = x at *
        generalize B[k]'(by rw [NB.out]; exact hlt) = y at *
        by_cases hxy : x = y
        · have HD := Lib.hid (show decide (x = y) = true by simpa using hxy)
          have HT3 := Lib.hid (HT.out hxy)
          clear hxy
          go_wp2
          go_quiet ((go_at_call 16; refine Sp.quiet_of (sameT_is x y _ _ _ HD.out ?_ ?_); exact HR.out.drewN _; exact HR'.out.drewN _))
          go_wp2
          go_roundw
          case rel => exact ⟨k + 1, by omega, by go_num, HT3.out, HX.out.drewN⟩
          case measure => simp [intOf]; omega
        · have HD := Lib.hid (show decide (x = y) = false by simpa using hxy)
          have HT3 := Lib.hid (show decide (A = B) = false by simp; intro h; exact hxy (HT2.out h))
          clear hxy
          go_wp2
          go_quiet ((go_at_call 16; refine Sp.quiet_of (sameT_is x y _ _ _ HD.out ?_ ?_); exact HR.out.drewN _; exact HR'.out.drewN _))
          go_wp2
          go_ret
          exact ⟨by rw [HT3.out]; rfl, HX.out.drewN⟩
      · obtain rfl : k = na := by omega
        go_wp2
        go_ret
        refine ⟨?_, HX.out⟩
        have e := HE.out
        rw [List.take_of_length_le (by rw [NA.out]; omega), List.take_of_length_le (by rw [NB.out]; omega)] at e
        simp [e]
  · have hne : ((na : Int) != (nb : Int)) = true := by simp; omega
    have HD := Lib.hid (show decide (A = B) = false by simp; intro h; exact hl (by rw [← NA.out, h, NB.out]))
    go_enter Try.func22, Try.ntmps22
    go_wp2
    go_ret
    exact ⟨by rw [HD.out]; rfl, Ext.refl _⟩

end Go.Proofs.Ytlbebcioabfbgaa
