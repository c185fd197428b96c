/-
  The law CodesReads, walked. Conditions: those that each theorem names.
-/
import Derived.Test.YtkfobimigiaknaaDoorCodRH
import Derived.Test.YtkfobimigiaknaaDoorCodRI
import Derived.Test.YtkfobimigiaknaaDoorCodY
namespace Go.Proofs.YtkfobimigiaknaaDoor
open Go.RowKit Go.Sp
variable {W w w' : World} {F F' : HProp}

/-- a change -/
structure Ch where
  c : Int
  code : Int
  endl : Int
  stop : Bool
def Ch.cells (x : Ch) : List Value := [.int .i64 x.c, .int .i64 x.code, .int .i64 x.endl, .bool x.stop]

/-- in w the slice v is the list L -/
def RdC (w : World) (v : Value) (L : List Ch) : Prop := L.length ≤ maxLen ∧ ∃ a cap, v = .slice a L.length cap ∧ ∀ i, (hi : i < L.length) → ∃ b o, a = some ⟨b, o, none⟩ ∧ ∀ j u, L[i].cells[j]? = some u → w.cell? ⟨b, o + i * 4 + j, none⟩ = some u

/-- the program's reader, the reference's reader, as parts of the heap -/
def rdH (b : Nat) (R : Rs) : HProp := fun h => ∃ v xs at_, xs.drop at_ = R.left ∧ at_ ≤ xs.length ∧ xs.length ≤ 100000 ∧ (pts b (rdO R v at_) * rowM v xs) h
def refH (b : Nat) (R : Rs) : HProp := fun h => (R.ended = true → R.left = []) ∧ ∃ vl vL v0 ls k, tailOf v0 ls.length k vl ∧ ls.drop k = linesL R.text ∧ (pts b (rfO R vl vL) * (rowM vL R.left * row v0 ls.length 9 1 (strsV ls))) h

theorem sat_split {A B : HProp} (h : Sat W (A * B) w) : ∃ x a b : Nat → Option Obj, (w.os = W.os ∧ w.tape = W.tape ∧ w.output = W.output) ∧ (∀ (k : Nat) (o : Obj), x k = some o → w.heap[k]? = some o) ∧ (∀ k, a k = none ∨ b k = none) ∧ (∀ k, x k = (a k).or (b k)) ∧ A a ∧ B b := by
  obtain ⟨h1, x, hx, a, b, hd, hu, ha, hb⟩ := h
  exact ⟨x, a, b, h1, hx, hd, hu, ha, hb⟩

theorem rd_iff {b : Nat} {R : Rs} : RdAt W F b R w ↔ Sat W (rdH b R * F) w := by
  constructor
  · rintro ⟨v, xs, at_, h1, h2, h3, hs⟩
    have h := hs.asc'
    exact h.imp_l fun x hx => ⟨v, xs, at_, h1, h2, h3, hx⟩
  · intro h
    obtain ⟨x, a, c, h1, hx, hd, hu, ⟨v, xs, at_, k1, k2, k3, ha⟩, hc⟩ := sat_split h
    exact ⟨v, xs, at_, k1, k2, k3, Sat.asc ⟨h1, x, hx, a, c, hd, hu, ha, hc⟩⟩

theorem ref_iff {b : Nat} {R : Rs} : RefAt W F b R w ↔ Sat W (refH b R * F) w := by
  constructor
  · rintro ⟨he, vl, vL, v0, ls, k, h1, h2, hs⟩
    have h : Sat W ((pts b (rfO R vl vL) * (rowM vL R.left * row v0 ls.length 9 1 (strsV ls))) * F) w := hs.of_eq (by ac_rfl)
    exact h.imp_l fun x hx => ⟨he, vl, vL, v0, ls, k, h1, h2, hx⟩
  · intro h
    obtain ⟨x, a, c, h1, hx, hd, hu, ⟨he, vl, vL, v0, ls, k, k1, k2, ha⟩, hc⟩ := sat_split h
    have h : Sat W ((pts b (rfO R vl vL) * (rowM vL R.left * row v0 ls.length 9 1 (strsV ls))) * F) w := ⟨h1, x, hx, a, c, hd, hu, ha, hc⟩
    exact ⟨he, vl, vL, v0, ls, k, k1, k2, h.of_eq (by ac_rfl)⟩

/-- two readers of one text, or none -/
def Duo (p q : Value) (some_ : Bool) (A : HProp) : Prop :=
  (some_ = false ∧ p = .pointer none ∧ q = .pointer none ∧ A = emp) ∨
  (some_ = true ∧ ∃ b1 b2 R, p = .pointer (some ⟨b1, 0, none⟩) ∧ q = .pointer (some ⟨b2, 0, none⟩) ∧ A = rdH b1 R * refH b2 R ∧ R.text.length ≤ 65536 ∧ R.number + R.text.length ≤ 1000000)

/-- the error of New -/
def errN (t : List UInt8) : Int := if 65536 < t.length then 6 else 0
def goodN (t : List UInt8) : Bool := decide (t.length ≤ 65536)

def NewP (H : Nat → Rs → HProp) (W : World) (F : HProp) (t : List UInt8) (e : Ending) (w' : World) : Prop :=
  ∃ p A, e = .returned (.tuple #[p, .int .i64 (errN t)]) ∧ Sat W (A * F) w' ∧ ((goodN t = false ∧ p = .pointer none ∧ A = emp) ∨ (goodN t = true ∧ ∃ b, p = .pointer (some ⟨b, 0, none⟩) ∧ A = H b (newR t)))

theorem newP_any (t : List UInt8) (h : Sat W F w) : Calls Tryd.prog 19 #[(.string ⟨t.toArray⟩)] w (NewP rdH W F t) := by
  by_cases ht : 65536 < t.length
  · refine (new_no t w ht).mono ?_
    rintro e w' ⟨rfl, rfl⟩
    exact ⟨_, emp, by rw [errN, if_pos ht], h.of_eq emp_star.symm, .inl ⟨by simp [goodN]; omega, rfl, rfl⟩⟩
  · refine (new_any t h (by omega)).mono ?_
    rintro e w' ⟨b, rfl, hr⟩
    exact ⟨_, _, by rw [errN, if_neg ht], rd_iff.1 hr, .inr ⟨by simp [goodN]; omega, b, rfl, rfl⟩⟩

theorem newQ_any (t : List UInt8) (h : Sat W F w) : Calls Tryd.prog 23 #[(.string ⟨t.toArray⟩)] w (NewP refH W F t) := by
  by_cases ht : 65536 < t.length
  · refine (newR_no t w ht).mono ?_
    rintro e w' ⟨rfl, rfl⟩
    exact ⟨_, emp, by rw [errN, if_pos ht], h.of_eq emp_star.symm, .inl ⟨by simp [goodN]; omega, rfl, rfl⟩⟩
  · refine (newR_any t h (by omega)).mono ?_
    rintro e w' ⟨b, rfl, hr⟩
    exact ⟨_, _, by rw [errN, if_neg ht], ref_iff.1 hr, .inr ⟨by simp [goodN]; omega, b, rfl, rfl⟩⟩

theorem duo_new {t : List UInt8} {p q : Value} {A B : HProp} (h1 : (goodN t = false ∧ p = .pointer none ∧ A = emp) ∨ (goodN t = true ∧ ∃ b, p = .pointer (some ⟨b, 0, none⟩) ∧ A = rdH b (newR t)))
    (h2 : (goodN t = false ∧ q = .pointer none ∧ B = emp) ∨ (goodN t = true ∧ ∃ b, q = .pointer (some ⟨b, 0, none⟩) ∧ B = refH b (newR t))) : Duo p q (goodN t) (A * B) := by
  rcases h1 with ⟨e1, rfl, rfl⟩ | ⟨e1, b1, rfl, rfl⟩
  · rcases h2 with ⟨e2, rfl, rfl⟩ | ⟨e2, b2, rfl, rfl⟩
    · exact .inl ⟨e1, rfl, rfl, emp_star⟩
    · rw [e1] at e2; cases e2
  · rcases h2 with ⟨e2, rfl, rfl⟩ | ⟨e2, b2, rfl, rfl⟩
    · rw [e1] at e2; cases e2
    · have : t.length ≤ 65536 := by simpa [goodN] using e1
      exact .inr ⟨e1, b1, b2, newR t, rfl, rfl, rfl, this, by show 0 + t.length ≤ 1000000; omega⟩

theorem chO_at {L : List Ch} {v : Value} (h : RdC w v L) {a : Option Addr} {n cap i : Nat} (hv : v = .slice a n cap) (hi : i < L.length) : ∃ b o, a = some ⟨b, o, none⟩ ∧
    w.cell? ⟨b, o + i * 4, none⟩ = some (.int .i64 L[i].c) ∧ w.cell? ⟨b, o + i * 4 + 1, none⟩ = some (.int .i64 L[i].code) ∧ w.cell? ⟨b, o + i * 4 + 2, none⟩ = some (.int .i64 L[i].endl) ∧ w.cell? ⟨b, o + i * 4 + 3, none⟩ = some (.bool L[i].stop) := by
  obtain ⟨_, a', cap', e, hc⟩ := h
  rw [hv] at e
  simp only [Value.slice.injEq] at e
  obtain ⟨rfl, _, _⟩ := e
  obtain ⟨b, o, e1, e2⟩ := hc i hi
  exact ⟨b, o, e1, e2 0 _ rfl, e2 1 _ rfl, e2 2 _ rfl, e2 3 _ rfl⟩

set_option maxRecDepth 1000000 in
set_option maxHeartbeats 16000000 in
theorem reads_any (C : List Int) (hC : C.length = 256) (text other : List UInt8) (L : List Ch) (v : Value) (hv : RdC w v L) :
    Calls Tryd.prog 8 #[(.string ⟨text.toArray⟩), codesV C, v, (.string ⟨other.toArray⟩)] w fun e w' => e = .returned (.bool true) ∧ Sat w (own w) w' := by
  have h0 := (Sat.start w).alloc (codesO C 22)
  have H0 := Lib.hid h0
  have HV := Lib.hid hv
  have HC := Lib.hid hC
  have hlen : L.length ≤ 9223372036854775807 := hv.1
  obtain ⟨_, va, vc, hvv, _⟩ := hv
  obtain ⟨n, hn⟩ : ∃ n, L.length = n := ⟨_, rfl⟩
  have HN := Lib.hid hn
  rw [hn] at hvv hlen
  subst hvv
  obtain ⟨ba, hba⟩ : ∃ ba, w.heap.size = ba := ⟨_, rfl⟩
  rw [hba] at H0
  have HN1 := Lib.hid (fun (F : HProp) (w' : World) (h : Sat w F w') => newP_any text h)
  have HN2 := Lib.hid (fun (F : HProp) (w' : World) (h : Sat w F w') => newQ_any text h)
  have HN3 := Lib.hid (fun (F : HProp) (w' : World) (h : Sat w F w') => newP_any other h)
  have HN4 := Lib.hid (fun (F : HProp) (w' : World) (h : Sat w F w') => newQ_any other h)
  clear h0 hC hn
  go_enter Tryd.func8, Tryd.ntmps8
  go_wp2_with fail
  clear hba
  refine Calls.mono (HN1.out _ _ H0.out) ?_
  rintro e w1 ⟨p1, A1, rfl, h1, d1⟩
  have H1 := Lib.hid h1
  have D1 := Lib.hid d1
  clear h1 d1
  go_wp2_with fail
  refine Calls.mono (HN2.out _ _ H1.out) ?_
  rintro e w2 ⟨p2, A2, rfl, h2, d2⟩
  have H2 := Lib.hid h2
  have D2 := Lib.hid d2
  clear h2 d2
  go_wp2_with fail
  refine Calls.mono (HN3.out _ _ H2.out) ?_
  rintro e w3 ⟨p3, A3, rfl, h3, d3⟩
  have H3 := Lib.hid h3
  have D3 := Lib.hid d3
  clear h3 d3
  go_wp2_with fail
  refine Calls.mono (HN4.out _ _ H3.out) ?_
  rintro e w4 ⟨p4, A4, rfl, h4, d4⟩
  have HA := Lib.hid (duo_new D1.out D2.out)
  have HB := Lib.hid (duo_new D3.out d4)
  have H4 := Lib.hid (h4.of_eq (show _ = pts ba (codesO C 22) * ((A1 * A2) * ((A3 * A4) * own w)) by ac_rfl))
  clear h4 d4 D1 D2 D3 H0 H1 H2 H3 HN1 HN2 HN3 HN4
  generalize A1 * A2 = PA at *
  generalize A3 * A4 = PB at *
  generalize errN text = e1 at *
  generalize errN other = e2 at *
  generalize goodN text = g1 at *
  generalize goodN other = g2 at *
  go_upto_region 5 with fail
  go_cut [71] from 48 to 72 (fun s71 wx => s71 = .bool false ∧ w4 = wx)
  case first => as_aux_lemma =>
    rcases HA.out with ⟨_, rfl, rfl, _⟩ | ⟨_, b1, b2, R1, rfl, rfl, _⟩
    all_goals rcases HB.out with ⟨_, rfl, rfl, _⟩ | ⟨_, b3, b4, R3, rfl, rfl, _⟩
    all_goals
      go_wp2_with (go_at_call 16; with_reducible refine Calls.mono (num_any _ _) ?_; rintro e w' ⟨rfl, rfl⟩)
      go_meet
      exact ⟨rfl, rfl⟩
  case rest => as_aux_lemma =>
    obtain ⟨rfl, rfl⟩ := hcut
    have h5 := (H4.out.alloc (.cells Tryd.zeroCells22 22))
    have hb0 := h5.blk
    go_wp2_with fail
    refine wp_load_row 22 (.tmp 5) (by rfl) ba (by rfl) _ _ _ _ H4.out.blk Tryd.underlying22 (by rfl) ?_ ?_
    · rw [size_codes]; simp [HC.out]
    go_step
    go_simp
    go_step
    go_simp
    go_step
    refine (wpList_store_row (by rfl) 22 (.tmp 17) (.tmp 72) (by rfl) w4.heap.size (C.map (Value.int .i64)).toArray (by rfl) (by rfl) _ _ hb0 ?_ ?_ ?_ ?_)
    · rw [size_codes]; simp [HC.out]
    · simp [HC.out]
    · exact one_codes C
    have H6 := Lib.hid (Sat.upd_row h5 (C.map (Value.int .i64)).toArray)
    clear hb0 h5 H4
    obtain ⟨bn, hbn⟩ : ∃ bn, w4.heap.size = bn := ⟨_, rfl⟩
    rw [hbn] at H6 ⊢
    clear hbn
    go_upto_block 0 with fail
    generalize (w4.alloc (.cells Tryd.zeroCells22 22)).setRow bn (C.map (Value.int .i64)).toArray = W6 at *
    go_wp2_with fail
    go_loopw [18] (fun s18 wr => ∃ (i : Nat) (M : List Int) (PA PB : HProp), i ≤ n ∧ s18 = .int .i64 i ∧ M.length = 256 ∧ Duo p1 p2 g1 PA ∧ Duo p3 p4 g2 PB ∧
      Sat w (pts bn (codesO M 22) * (pts ba (codesO C 22) * (PA * (PB * own w)))) wr) (fun s18 _ => n - (intOf s18).toNat)
    case atStart => exact ⟨0, C, PA, PB, Nat.zero_le _, rfl, HC.out, HA.out, HB.out, H6.out⟩
    case round =>
      clear HA HB H6 PA PB
      obtain ⟨i, M, PA, PB, hi, rfl, hM, dA, dB, hs⟩ := hrel
      have HM := Lib.hid hM
      have HA := Lib.hid dA
      have HB := Lib.hid dB
      have HS := Lib.hid hs
      clear hM dA dB hs
      by_cases hlt : i < n
      · obtain ⟨bv, ov, rfl, k0, k1, k2, k3⟩ := chO_at HV.out rfl (i := i) (by rw [HN.out]; exact hlt)
        generalize L[i]'(by rw [HN.out]; exact hlt) = x at *
        obtain ⟨c, code, endl, stop⟩ := x
        simp only at k0 k1 k2 k3
        replace k0 := HS.out.r.r.r.r.own_cell k0
        replace k1 := HS.out.r.r.r.r.own_cell k1
        replace k2 := HS.out.r.r.r.r.own_cell k2
        replace k3 := HS.out.r.r.r.r.own_cell k3
        have H1 := Lib.hid (HS.out.alloc (.cells #[.int .i64 c, .int .i64 code, .int .i64 endl, .bool stop] 49))
        go_upto_region 12 with fail
        generalize wr.alloc (.cells #[.int .i64 c, .int .i64 code, .int .i64 endl, .bool stop] 49) = W1 at *
        generalize wr.heap.size = bx at *
        clear k0 k1 k2 k3 HS
        go_cut [90] from 83 to 91 (fun s90 wx => s90 = .bool (decide (0 ≤ c ∧ c < 256)) ∧ W1 = wx)
        case first => as_aux_lemma =>
          have k0 := H1.out.cell (i := 0) rfl
          by_cases h1 : 0 ≤ c
          · by_cases h2 : c < 256
            · have e := Lib.hid (show decide (0 ≤ c ∧ c < 256) = true by simp [h1, h2])
              go_wp2
              go_meet
              exact ⟨by rw [e.out], rfl⟩
            · have e := Lib.hid (show decide (0 ≤ c ∧ c < 256) = false by simp [h2])
              go_wp2
              go_meet
              exact ⟨by rw [e.out], rfl⟩
          · have e := Lib.hid (show decide (0 ≤ c ∧ c < 256) = false by simp [h1])
            go_wp2
            go_meet
            exact ⟨by rw [e.out], rfl⟩
        case rest => as_aux_lemma =>
          obtain ⟨rfl, rfl⟩ := hcut
          obtain ⟨q, hq⟩ : ∃ q, decide (0 ≤ c ∧ c < 256) = q := ⟨_, rfl⟩
          rw [hq]
          have HQ := Lib.hid hq
          clear hq
          go_upto_if 90 with fail
          go_cut [91] from 91 to 96 (fun _ wx => ∃ M', M'.length = 256 ∧ Sat w (pts bx (.cells #[.int .i64 c, .int .i64 code, .int .i64 endl, .bool stop] 49) * (pts bn (codesO M' 22) * (pts ba (codesO C 22) * (PA * (PB * own w))))) wx)
          case first => as_aux_lemma =>
            cases q
            · go_wp2
              go_meet
              exact ⟨M, HM.out, H1.out⟩
            · obtain ⟨h1, h2⟩ := of_decide_eq_true HQ.out
              obtain ⟨k, rfl⟩ := Int.eq_ofNat_of_zero_le h1
              have k0 := H1.out.cell (i := 0) rfl
              have k1 := H1.out.cell (i := 1) rfl
              have hk : k < M.length := by rw [HM.out]; omega
              obtain ⟨x, hx, hf⟩ := H1.out.r.cellC k hk
              have lb := H1.out.r.lt
              clear hk
              go_wp2
              go_meet
              exact ⟨M.set k code, by simp [HM.out], (H1.out.rot.setC (i := k) code).rot⟩
          case rest => as_aux_lemma =>
            obtain ⟨M', hM', hs⟩ := hcut
            have HM' := Lib.hid hM'
            have HS := Lib.hid hs
            clear hM' hs H1 HQ HM
            go_upto_region 14 with fail
            go_cut [97] from 96 to 98 (fun s97 wx => s97 = .bool g1 ∧ ∃ w0, w0 = wx ∧ Sat w (pts bx (.cells #[.int .i64 c, .int .i64 code, .int .i64 endl, .bool stop] 49) * (pts bn (codesO M' 22) * (pts ba (codesO C 22) * (PA * (PB * own w))))) w0)
            case first => as_aux_lemma =>
              rcases HA.out with ⟨eg, rfl, rfl, _⟩ | ⟨eg, b1, b2, R1, rfl, rfl, _⟩
              all_goals
                have EG := Lib.hid eg
                clear eg
                go_wp2
                go_meet
                exact ⟨by rw [EG.out], _, rfl, HS.out⟩
            case rest => as_aux_lemma =>
              obtain ⟨rfl, w0, rfl, hs0⟩ := hcut
              clear HS
              have HS := Lib.hid hs0
              clear hs0
              go_upto_if 97 with fail
              go_cut [20, 21, 22, 23] from 98 to 138 (fun s20 s21 s22 s23 wx => ∃ PA', Duo p1 p2 g1 PA' ∧ Sat w (pts bx (.cells #[.int .i64 c, .int .i64 code, .int .i64 endl, .bool stop] 49) * (pts bn (codesO M' 22) * (pts ba (codesO C 22) * (PA' * (PB * own w))))) wx)
              case first => as_aux_lemma =>
                have hda := HA.out
                rcases hda with ⟨rfl, rfl, rfl, _⟩ | ⟨rfl, b1, b2, R1, rfl, rfl, rfl, ht, hn⟩
                · go_wp2
                  go_meet
                  exact ⟨PA, HA.out, HS.out⟩
                · have HR := Lib.hid (HS.out.of_eq (show _ = rdH b1 R1 * (refH b2 R1 * (pts bx (.cells #[.int .i64 c, .int .i64 code, .int .i64 endl, .bool stop] 49) * (pts bn (codesO M' 22) * (pts ba (codesO C 22) * (PB * own w))))) by ac_rfl))
                  have HT := Lib.hid ht
                  have HNN := Lib.hid hn
                  clear ht hn
                  have k3 := HR.out.r.r.cell (i := 3) rfl
                  go_upto_if 99 with fail
                  clear k3
                  go_cut [100] from 100 to 104 (fun _ wx => ∃ R', R'.text.length ≤ 65536 ∧ R'.number + R'.text.length ≤ 1000000 ∧ Sat w (rdH b1 R' * (refH b2 R' * (pts bx (.cells #[.int .i64 c, .int .i64 code, .int .i64 endl, .bool stop] 49) * (pts bn (codesO M' 22) * (pts ba (codesO C 22) * (PB * own w)))))) wx)
                  case first => as_aux_lemma =>
                    cases stop
                    · go_wp2
                      go_meet
                      exact ⟨R1, HT.out, HNN.out, HR.out⟩
                    · have HST := Lib.hid (stop_any (rd_iff.2 HR.out))
                      go_wp2_with fail
                      refine Calls.mono HST.out ?_
                      rintro e w5 ⟨rfl, h5⟩
                      have h6 := (rd_iff.1 h5).rot
                      have HST2 := Lib.hid (stopR_any (ref_iff.2 h6))
                      clear h5 h6
                      go_wp2_with fail
                      refine Calls.mono HST2.out ?_
                      rintro e w6 ⟨rfl, h7⟩
                      have H7 := Lib.hid (ref_iff.1 h7).rot
                      clear h7
                      go_wp2
                      go_meet
                      exact ⟨{ R1 with stopped := true }, HT.out, HNN.out, H7.out⟩
                  case rest => as_aux_lemma =>
                    obtain ⟨R', ht, hn, hs⟩ := hcut
                    have HS1 := Lib.hid hs
                    clear HT HNN HR hs
                    obtain ⟨q, hq⟩ : ∃ q, nextM M' endl R' = q := ⟨_, rfl⟩
                    have hle := nextM_le M' endl R'
                    have hll := (rd_iff.2 HS1.out).left_len
                    have hN1 := next_any M' HM'.out endl R' b1 (rd_iff.2 HS1.out) ht hn
                    have hN2 := fun (F : HProp) (w' : World) (h : Sat w (refH b2 R' * F) w') => nextR_any M' HM'.out endl R' b2 (ref_iff.2 h) ht hn hll
                    rw [hq] at hle hN1 hN2
                    obtain ⟨tk, er, R2⟩ := q
                    have HLE := Lib.hid (show R2.text.length ≤ 65536 ∧ R2.number + R2.text.length ≤ 1000000 from ⟨Nat.le_trans hle.1 ht, Nat.le_trans hle.2 hn⟩)
                    have HN1 := Lib.hid hN1
                    have HN2 := Lib.hid hN2
                    have k2 := HS1.out.r.r.cell (i := 2) rfl
                    have hblk := HS1.out.r.r.r.blk
                    clear ht hn hq hle hll hN1 hN2
                    go_wp2_with fail
                    refine wp_load_row 22 (.tmp 17) (by rfl) bn (by rfl) _ _ _ _ hblk Tryd.underlying22 (by rfl) ?_ ?_
                    · rw [size_codes]; simp [HM'.out]
                    clear hblk
                    go_wp2_with fail
                    refine Calls.mono HN1.out ?_
                    rintro e w5 ⟨rfl, h5⟩
                    have H5 := Lib.hid ((rd_iff.1 h5).rot.alloc (.cells #[.int .i64 tk.cat, .int .u8 tk.chr.toNat, .string tk.name] 31))
                    have k2' := H5.out.r.r.r.cell (i := 2) rfl
                    have hblk := H5.out.r.r.r.r.blk
                    have lx := H5.out.r.r.r.lt
                    clear h5 k2
                    go_wp2_with fail
                    refine wp_load_row 22 (.tmp 17) (by rfl) bn (by rfl) _ _ _ _ hblk Tryd.underlying22 (by rfl) ?_ ?_
                    · rw [size_codes]; simp [HM'.out]
                    clear hblk
                    go_wp2_with fail
                    refine Calls.mono (HN2.out _ _ H5.out.rot) ?_
                    rintro e w6 ⟨rfl, h6⟩
                    have H7 := Lib.hid ((ref_iff.1 h6).alloc (.cells #[.int .i64 tk.cat, .int .u8 tk.chr.toNat, .string tk.name] 31))
                    clear h6 k2' lx H5
                    go_upto_region 20 with fail
                    generalize w6.alloc (.cells #[.int .i64 tk.cat, .int .u8 tk.chr.toNat, .string tk.name] 31) = W7 at *
                    generalize w6.heap.size = x2 at *
                    generalize w5.heap.size = x1 at *
                    go_cut [137] from 120 to 138 (fun s137 wx => s137 = .bool false ∧ Sat w (rdH b1 R2 * (refH b2 R2 * (pts bx (.cells #[.int .i64 c, .int .i64 code, .int .i64 endl, .bool stop] 49) * (pts bn (codesO M' 22) * (pts ba (codesO C 22) * (PB * own w)))))) wx)
                    case first => as_aux_lemma =>
                      have a0 := H7.out.cell (i := 0) rfl
                      have a1 := H7.out.cell (i := 1) rfl
                      have a2 := H7.out.cell (i := 2) rfl
                      have b0 := H7.out.r.r.cell (i := 0) rfl
                      have b1' := H7.out.r.r.cell (i := 1) rfl
                      have b2' := H7.out.r.r.cell (i := 2) rfl
                      have hno := (ref_iff.2 H7.out.r).number
                      have HLI := Lib.hid (fun n => line_any (rd_iff.2 ((H7.out.r.r.r).drewN (n := n))))
                      have hneq := fun w => run_neq w tk tk
                      simp only [Tok.val, decide_true, Bool.not_true] at hneq
                      go_quiet ((first
                        | (go_at_call 16; with_reducible refine Calls.mono (num_any _ _) ?_; exact fun _ _ h => ⟨h.1, _, h.2.symm⟩)
                        | (go_at_call 21; with_reducible refine Calls.mono (HLI.out _) ?_; exact fun _ _ h => ⟨h.1, _, h.2.symm⟩)))
                      go_wp2_with fail
                      go_meet
                      exact ⟨rfl, (H7.out.r.rot.r.drewN).rot⟩
                    case rest => as_aux_lemma =>
                      obtain ⟨rfl, hs⟩ := hcut
                      have HF := Lib.hid hs
                      clear hs H7
                      go_wp2
                      go_meet
                      exact ⟨_, .inr ⟨rfl, b1, b2, R2, rfl, rfl, rfl, HLE.out.1, HLE.out.2⟩, HF.out.of_eq (by ac_rfl)⟩
              case rest => as_aux_lemma =>
                obtain ⟨PA', hda, hs⟩ := hcut
                have HA' := Lib.hid hda
                clear HA HS
                have HS := Lib.hid (show Sat w (pts bn (codesO M' 22) * (pts ba (codesO C 22) * (PA' * (PB * own w)))) _ from hs.r)
                clear hda hs PA
                go_upto_region 22 with fail
                go_cut [139] from 138 to 140 (fun s139 wx => s139 = .bool g2 ∧ ∃ w0, w0 = wx ∧ Sat w (pts bn (codesO M' 22) * (pts ba (codesO C 22) * (PA' * (PB * own w)))) w0)
                case first => as_aux_lemma =>
                  rcases HB.out with ⟨eg, rfl, rfl, _⟩ | ⟨eg, b1, b2, R1, rfl, rfl, _⟩
                  all_goals
                    have EG := Lib.hid eg
                    clear eg
                    go_wp2
                    go_meet
                    exact ⟨by rw [EG.out], _, rfl, HS.out⟩
                case rest => as_aux_lemma =>
                  obtain ⟨rfl, w0, rfl, hs0⟩ := hcut
                  clear HS
                  have HS := Lib.hid hs0
                  clear hs0
                  go_upto_if 139 with fail
                  have hda := HB.out
                  rcases hda with ⟨rfl, rfl, rfl, _⟩ | ⟨rfl, b1, b2, R', rfl, rfl, rfl, ht, hn⟩
                  · go_wp2
                    go_roundw
                    case rel => exact ⟨i + 1, M', PA', PB, hlt, by go_num, HM'.out, HA'.out, HB.out, HS.out⟩
                    case measure => simp [intOf]; omega
                  · have HS1 := Lib.hid (HS.out.of_eq (show _ = rdH b1 R' * (refH b2 R' * (pts bn (codesO M' 22) * (pts ba (codesO C 22) * (PA' * own w)))) by ac_rfl))
                    obtain ⟨q, hq⟩ : ∃ q, nextM C 13 R' = q := ⟨_, rfl⟩
                    have hle := nextM_le C 13 R'
                    have hll := (rd_iff.2 HS1.out).left_len
                    have hN1 := next_any C HC.out 13 R' b1 (rd_iff.2 HS1.out) ht hn
                    have hN2 := fun (F : HProp) (w' : World) (h : Sat w (refH b2 R' * F) w') => nextR_any C HC.out 13 R' b2 (ref_iff.2 h) ht hn hll
                    rw [hq] at hle hN1 hN2
                    obtain ⟨tk, er, R2⟩ := q
                    have HLE := Lib.hid (show R2.text.length ≤ 65536 ∧ R2.number + R2.text.length ≤ 1000000 from ⟨Nat.le_trans hle.1 ht, Nat.le_trans hle.2 hn⟩)
                    have HN1 := Lib.hid hN1
                    have HN2 := Lib.hid hN2
                    have hblk := HS1.out.r.r.r.blk
                    clear ht hn hq hle hll hN1 hN2
                    go_wp2_with fail
                    refine wp_load_row 22 (.tmp 5) (by rfl) ba (by rfl) _ _ _ _ hblk Tryd.underlying22 (by rfl) ?_ ?_
                    · rw [size_codes]; simp [HC.out]
                    clear hblk
                    go_wp2_with fail
                    refine Calls.mono HN1.out ?_
                    rintro e w5 ⟨rfl, h5⟩
                    have H5 := Lib.hid ((rd_iff.1 h5).rot.alloc (.cells #[.int .i64 tk.cat, .int .u8 tk.chr.toNat, .string tk.name] 31))
                    have hblk := H5.out.r.r.r.r.blk
                    clear h5
                    go_wp2_with fail
                    refine wp_load_row 22 (.tmp 5) (by rfl) ba (by rfl) _ _ _ _ hblk Tryd.underlying22 (by rfl) ?_ ?_
                    · rw [size_codes]; simp [HC.out]
                    clear hblk
                    go_wp2_with fail
                    refine Calls.mono (HN2.out _ _ H5.out.rot) ?_
                    rintro e w6 ⟨rfl, h6⟩
                    have H7 := Lib.hid ((ref_iff.1 h6).alloc (.cells #[.int .i64 tk.cat, .int .u8 tk.chr.toNat, .string tk.name] 31))
                    clear h6 H5
                    go_upto_region 25 with fail
                    generalize w6.alloc (.cells #[.int .i64 tk.cat, .int .u8 tk.chr.toNat, .string tk.name] 31) = W7 at *
                    generalize w6.heap.size = x2 at *
                    generalize w5.heap.size = x1 at *
                    go_cut [169] from 152 to 169 (fun s169 wx => s169 = .bool false ∧ Sat w (rdH b1 R2 * (refH b2 R2 * (pts bn (codesO M' 22) * (pts ba (codesO C 22) * (PA' * own w))))) wx)
                    case first => as_aux_lemma =>
                      have a0 := H7.out.cell (i := 0) rfl
                      have a1 := H7.out.cell (i := 1) rfl
                      have a2 := H7.out.cell (i := 2) rfl
                      have b0 := H7.out.r.r.cell (i := 0) rfl
                      have b1' := H7.out.r.r.cell (i := 1) rfl
                      have b2' := H7.out.r.r.cell (i := 2) rfl
                      have hno := (ref_iff.2 H7.out.r).number
                      have HLI := Lib.hid (fun n => line_any (rd_iff.2 ((H7.out.r.r.r).drewN (n := n))))
                      have hneq := fun w => run_neq w tk tk
                      simp only [Tok.val, decide_true, Bool.not_true] at hneq
                      go_quiet ((first
                        | (go_at_call 16; with_reducible refine Calls.mono (num_any _ _) ?_; exact fun _ _ h => ⟨h.1, _, h.2.symm⟩)
                        | (go_at_call 21; with_reducible refine Calls.mono (HLI.out _) ?_; exact fun _ _ h => ⟨h.1, _, h.2.symm⟩)))
                      go_wp2_with fail
                      go_meet
                      exact ⟨rfl, (H7.out.r.rot.r.drewN).rot⟩
                    case rest => as_aux_lemma =>
                      obtain ⟨rfl, hs⟩ := hcut
                      have HF := Lib.hid hs
                      clear hs H7
                      go_wp2
                      go_roundw
                      case rel =>
                          exact ⟨i + 1, M', PA', _, hlt, by go_num, HM'.out, HA'.out, .inr ⟨rfl, b1, b2, R2, rfl, rfl, rfl, HLE.out.1, HLE.out.2⟩, HF.out.of_eq (by ac_rfl)⟩
                      case measure => simp [intOf]; omega
      · have HL := Lib.hid (live_any HS.out)
        have hin : i = n := by omega
        subst hin
        go_wp2_with fail
        refine Calls.mono HL.out ?_
        rintro e w9 ⟨rfl, h9⟩
        have H9 := Lib.hid h9.r.r.r.r
        clear h9
        go_wp2
        go_ret
        exact ⟨rfl, H9.out⟩
end Go.Proofs.YtkfobimigiaknaaDoor
