import Derived.Test.YticljfpippbkkaaDoorMNDK
import Derived.Test.YticljfpippbkkaaDoorMNDP
import Derived.Test.YticljfpippbkkaaDoorMTS
import Derived.Deep.LoopGhost
/-
  NumbersDecimals, the walk. Conditions: those that each theorem names.
-/
namespace Go.Proofs.YticljfpippbkkaaDoor
open Go.RowKit Go.Sp
variable {W w w' : World} {A : HProp}

theorem bytes_app2 (l m : List UInt8) : (⟨l.toArray⟩ : ByteArray) ++ ⟨m.toArray⟩ = ⟨(l ++ m).toArray⟩ := by apply ByteArray.ext; simp
abbrev stopT : Tok := ⟨16, 0, ⟨#[114, 101, 108, 97, 120]⟩⟩
theorem row_oneD {x : Tok} {F : HProp} (h : Sat W F w) : Sat W (row (.slice (some ⟨w.heap.size, 0, none⟩) 1 1) 1 24 3 x.cells * F) (w.alloc (.cells #[.int .i64 x.cat, .int .u8 x.chr.toNat, .string x.name] 24)) :=
  (h.alloc (.cells #[.int .i64 x.cat, .int .u8 x.chr.toNat, .string x.name] 24)).row_whole 1 (size := 3) (by simp [maxLen]) (by simp)
theorem rowT_oneD {v : Value} {X : List Tok} {n : Nat} {xs : List Value} {F : HProp} (h : Sat W (row v n 24 3 xs * F) w) (hn : n = X.length) (hx : xs = flat X) : Sat W (rowT v X * F) w := by subst hn hx; exact h
theorem nat_of (r : Int) (h : -2147483648 < r ∧ r < 2147483648) : (∃ n : Nat, n ≤ 2147483647 ∧ r = n) ∨ ∃ n : Nat, 0 < n ∧ n ≤ 2147483647 ∧ r = -(n : Int) := by
  by_cases h0 : r < 0
  · exact .inr ⟨r.natAbs, by omega, by omega, by omega⟩
  · exact .inl ⟨r.natAbs, by omega, by omega⟩
theorem bas_len (b : Nat) (hb : 2 ≤ b) : ∀ k n, n < b ^ (k + 1) → (basB b n).length ≤ k + 1 := by
  intro k
  induction k with
  | zero => intro n hn; rw [basB_lt (by simpa using hn)]; simp
  | succ k ih =>
    intro n hn
    by_cases h10 : n < b
    · rw [basB_lt h10]; simp
    · rw [basB_ge hb h10, List.length_append, List.length_singleton]
      have := ih (n / b) (by rw [Nat.pow_succ] at hn; exact Nat.div_lt_of_lt_mul (by rw [Nat.mul_comm]; exact hn))
      omega
theorem bas8 (n : Nat) (h : n ≤ 2147483647) : (basB 8 n).length ≤ 1000 := by have := bas_len 8 (by decide) 20 n (by omega); omega
theorem bas16 (n : Nat) (h : n ≤ 2147483647) : (basB 16 n).length ≤ 1000 := by have := bas_len 16 (by decide) 20 n (by omega); omega
theorem sgn_pos {r : Int} {n : Nat} (h : ¬ r < 0) (em : (if r < -r then -r else r) = (n : Int)) : r = n := by rw [← em, if_neg (by omega)]
theorem sgn_neg {r : Int} {n : Nat} (h : r < 0) (em : (if r < -r then -r else r) = (n : Int)) : -r = n := by rw [← em, if_pos (by omega)]
theorem sign_of (r : Int) (h : -2147483648 < r ∧ r < 2147483648) : ∃ (n : Nat) (neg : Bool), n ≤ 2147483647 ∧ ((neg = false ∧ ¬ r < 0) ∨ (neg = true ∧ r < 0)) ∧ (if r < -r then -r else r) = n ∧ turnM n neg = r ∧ wrap64 r = r ∧ wrap64 (-r) = -r := by
  have e1 : wrap64 r = r := wrap64_id _ (by omega) (by omega)
  have e2 : wrap64 (-r) = -r := wrap64_id _ (by omega) (by omega)
  by_cases h0 : r < 0
  · refine ⟨r.natAbs, true, by omega, .inr ⟨rfl, h0⟩, by rw [if_pos (by omega)]; omega, ?_, e1, e2⟩
    rw [turnM, if_pos rfl, show -(r.natAbs : Int) = r by omega]; exact e1
  · exact ⟨r.natAbs, false, by omega, .inl ⟨rfl, h0⟩, by rw [if_neg (by omega)]; omega, by rw [turnM, if_neg (by decide)]; omega, e1, e2⟩
/-- the three texts of an integer -/
def txtsM (m : Bool) (n : Nat) : List (List UInt8) := [(minB m ++ decB n) ++ [32], ((minB m ++ [39]) ++ basB 8 n) ++ [32], ((minB m ++ [34]) ++ basB 16 n) ++ [32]]
theorem txts_at (m : Bool) (n : Nat) (hn : n ≤ 2147483647) (k : Nat) (hk : k < 3) (TL : List Tok) : ∃ T : List UInt8, (txtsM m n)[k]? = some T ∧ T.length ≤ 1000 ∧ integerM newS (T.map tokOf ++ TL) = (turnM n m, 0, TL) := by
  have l1 := dec_smallD n hn
  have l2 := bas_len 8 (by decide) 20 n (by omega)
  have l3 := bas_len 16 (by decide) 20 n (by omega)
  have hm : (minB m).length ≤ 1 := by cases m <;> simp [minB]
  have dl : (decB n).length ≤ 900 := by
    have H : ∀ k n, n < 10 ^ (k + 1) → (decB n).length ≤ k + 1 := by
      intro k
      induction k with
      | zero => intro n hn; rw [decB_lt (by simpa using hn)]; simp
      | succ k ih =>
        intro n hn
        by_cases h10 : n < 10
        · rw [decB_lt h10]; simp
        · rw [decB_ge h10, List.length_append, List.length_singleton]
          have := ih (n / 10) (by rw [Nat.pow_succ] at hn; omega)
          omega
    have := H 20 n (by omega)
    omega
  match k, hk with
  | 0, _ => exact ⟨_, rfl, by simp only [List.length_append, List.length_singleton]; omega, by rw [List.append_assoc]; exact int_dec newS m n hn TL⟩
  | 1, _ => exact ⟨_, rfl, by simp only [List.length_append, List.length_singleton]; omega, by
      rw [List.append_assoc, List.append_assoc]; exact int_bas newS m n hn TL 8 39 (.inl ⟨rfl, rfl⟩)⟩
  | 2, _ => exact ⟨_, rfl, by simp only [List.length_append, List.length_singleton]; omega, by
      rw [List.append_assoc, List.append_assoc]; exact int_bas newS m n hn TL 16 34 (.inr ⟨rfl, rfl⟩)⟩
theorem dim_of (y : Int) (h : -1073741824 < y ∧ y < 1073741824) : ∃ (m : Bool) (q f : Nat), f < 65536 ∧ 65536 * q + f ≤ 1073741823 ∧ (m = true → 0 < 65536 * q + f) ∧ y = (if m = true then -((65536 * q + f : Nat) : Int) else ((65536 * q + f : Nat) : Int)) := by
  by_cases h0 : y < 0
  · exact ⟨true, y.natAbs / 65536, y.natAbs % 65536, by omega, by omega, fun _ => by omega, by rw [if_pos rfl]; omega⟩
  · exact ⟨false, y.natAbs / 65536, y.natAbs % 65536, by omega, by omega, fun h => (by cases h), by rw [if_neg (by decide)]; omega⟩
theorem prt_len (m : Bool) (q f : Nat) (hq : q ≤ 2147483647) : (prtB m q f).length ≤ 1900 := by
  have h1 := dec_smallD q hq
  have h2 := digsF_len f
  have h3 : (minB m).length ≤ 1 := by cases m <;> simp [minB]
  simp only [prtB, fracB, List.length_append, List.length_cons, List.length_map]
  omega
set_option maxRecDepth 1000000 in
set_option maxHeartbeats 8000000 in
theorem decimals_ext (z s : Int) {v : Value} {B : List Tok} (hv : RdT W v B) (hl : B.length ≤ 1048576) (hpow : PowIs W) :
    Calls Tryd.prog 3 #[.int .i64 z, .int .i64 s, v] W fun e w' => e = .returned (.bool true) ∧ Ext W w' := by
  obtain ⟨va, vc, rfl, hvc⟩ := hv.capd
  have HRD := Lib.hid ((hv.ext ((Ext.refl W).alloc (o := Tok.box stopT))).ext ((Ext.refl _).alloc (o := Tok.box stopT)))
  have HB0 := Lib.hid (row_oneD (x := stopT) ((Sat.start W).alloc (Tok.box stopT)))
  obtain ⟨k, hk⟩ : ∃ k, B.length = k := ⟨_, rfl⟩
  have HK := Lib.hid hk
  rw [hk] at hl hvc HRD
  rw [hk]
  have HPOW := Lib.hid hpow
  obtain ⟨r, hr⟩ : ∃ r, z.tmod 2147483648 = r := ⟨_, rfl⟩
  have hrb : -2147483648 < r ∧ r < 2147483648 := by
    rw [← hr]
    exact ⟨Int.lt_tmod_of_pos _ (by omega), Int.tmod_lt_of_pos _ (by omega)⟩
  obtain ⟨y, hy⟩ : ∃ y, s.tmod 1073741824 = y := ⟨_, rfl⟩
  have hyb : -1073741824 < y ∧ y < 1073741824 := by
    rw [← hy]
    exact ⟨Int.lt_tmod_of_pos _ (by omega), Int.tmod_lt_of_pos _ (by omega)⟩
  have e3 : wrap64 y = y := wrap64_id _ (by omega) (by omega)
  have HYB := Lib.hid hyb
  obtain ⟨b0, hb0⟩ : ∃ b0, W.heap.size = b0 := ⟨_, rfl⟩
  rw [World.size_alloc, hb0] at HB0
  obtain ⟨b1, hb1⟩ : ∃ b1, b0 + 1 = b1 := ⟨_, rfl⟩
  rw [hb1] at HB0
  obtain ⟨i0, hi0, hz0, hz1, hz2⟩ := info_parts3 info_tok
  have HI := Lib.hid hi0
  have HZ0 := Lib.hid hz0
  have HZ1 := Lib.hid hz1
  have HZ2 := Lib.hid hz2
  clear hi0 hz0 hz1 hz2 hv hk hpow hyb
  obtain ⟨n, neg, hn, hsg, em, htn, e1, e2⟩ := sign_of r hrb
  have HRN := Lib.hid htn
  have HL1 := Lib.hid (dec_smallD n hn)
  have HL2 := Lib.hid (bas8 n hn)
  have HL3 := Lib.hid (bas16 n hn)
  clear hrb htn
  rcases hsg with ⟨rfl, i1⟩ | ⟨rfl, i1⟩
  · have hnr : (n : Int) = r := (sgn_pos i1 em).symm
    clear em
    go_enter Tryd.func3, Tryd.ntmps3
    go_wp2_with (at_builtin; refine wpList_append_rd rfl _ _ 22 rfl i0 _ 32 Tryd.underlying22 HI.out HZ0.out HZ1.out HZ2.out rfl (by omega) rfl HB0.out (.slice va k vc) B.length (flat B) rfl HRD.out.1 (flat_one B) (by have := HK.out; simp [maxLen]; omega) (by have := HK.out; omega) ?_)
    intro v1 w1 h3
    have h4 := rowT_oneD (X := stopT :: B) h3 (by simp only [List.length_cons]; omega) rfl
    obtain ⟨ta, tc, htv⟩ := (rowT_rd h4).val
    subst htv
    obtain ⟨TL, hTL⟩ : ∃ TL, stopT :: B = TL := ⟨_, rfl⟩
    have HTLn := Lib.hid (show TL.length ≤ 1048577 by rw [← hTL, List.length_cons, HK.out]; omega)
    rw [hTL] at h4
    rw [show (stopT :: B).length = TL.length by rw [hTL]]
    have HX0 := Lib.hid (show Sat W (rowT (.slice ta TL.length tc) TL * own W) w1 by
      exact (h4.of_eq (by ac_rfl : _ = pts b0 (Tok.box stopT) * (rowT (.slice ta TL.length tc) TL * own W))).r)
    have HNU := Lib.hid (refn_any n (by omega) w1)
    have HLA := Lib.hid (lawbased_any 8 (by decide) (by decide) n (by omega))
    have HLB := Lib.hid (lawbased_any 16 (by decide) (by decide) n (by omega))
    rw [hnr] at HNU HLA HLB
    clear hnr
    have HTX := Lib.hid (fun k hk => txts_at false n hn k hk TL)
    unfold txtsM at HTX
    have l1 := HL1.out
    have l2 := HL2.out
    have l3 := HL3.out
    clear h3 h4 hTL HB0 HRD HL1 HL2 HL3
    generalize decB n = D1 at *
    generalize basB 8 n = D2 at *
    generalize basB 16 n = D3 at *
    have HE1 := Lib.hid (show (⟨#[]⟩ : ByteArray) ++ ⟨D1.toArray⟩ ++ ⟨#[32]⟩ = ⟨((minB false ++ D1) ++ [32]).toArray⟩ by apply ByteArray.ext; simp [minB])
    have HE2 := Lib.hid (show (⟨#[]⟩ : ByteArray) ++ ⟨#[39]⟩ ++ ⟨D2.toArray⟩ ++ ⟨#[32]⟩ = ⟨(((minB false ++ [39]) ++ D2) ++ [32]).toArray⟩ by apply ByteArray.ext; simp [minB])
    have HE3 := Lib.hid (show (⟨#[]⟩ : ByteArray) ++ ⟨#[34]⟩ ++ ⟨D3.toArray⟩ ++ ⟨#[32]⟩ = ⟨(((minB false ++ [34]) ++ D3) ++ [32]).toArray⟩ by apply ByteArray.ext; simp [minB])
    generalize (minB false ++ D1) ++ [32] = T1 at HE1 HTX
    generalize ((minB false ++ [39]) ++ D2) ++ [32] = T2 at HE2 HTX
    generalize ((minB false ++ [34]) ++ D3) ++ [32] = T3 at HE3 HTX
    go_wp2_with fail
    with_reducible refine Calls.mono HNU.out ?_
    rintro e w2 ⟨rfl, x1⟩
    have HX1 := Lib.hid (HX0.out.ext x1)
    clear x1 HX0 HNU
    go_wp2_with fail
    with_reducible refine Calls.mono (HLA.out w2) ?_
    rintro e w3 ⟨rfl, q3, hq3⟩
    have HX2 := Lib.hid (show Sat W _ w3 from hq3 ▸ HX1.out.drewN (n := q3))
    clear hq3 HX1 HLA
    go_wp2_with fail
    with_reducible refine Calls.mono (HLB.out w3) ?_
    rintro e w4 ⟨rfl, q4, hq4⟩
    have h4 := (show Sat W _ w4 from hq4 ▸ HX2.out.drewN (n := q4)).alloc (.cells #[.string ⟨T1.toArray⟩, .string ⟨T2.toArray⟩, .string ⟨T3.toArray⟩] 9)
    rw [← HE1.out, ← HE2.out, ← HE3.out] at h4
    clear hq4 HX2 HLB
    go_upto_region 10 with fail
    obtain ⟨bq, hbq⟩ : ∃ b, w4.heap.size = b := ⟨_, rfl⟩
    obtain ⟨w5, hw5⟩ : ∃ w5, w4.alloc (.cells #[.string (⟨#[]⟩ ++ ⟨D1.toArray⟩ ++ ⟨#[32]⟩), .string (⟨#[]⟩ ++ ⟨#[39]⟩ ++ ⟨D2.toArray⟩ ++ ⟨#[32]⟩), .string (⟨#[]⟩ ++ ⟨#[34]⟩ ++ ⟨D3.toArray⟩ ++ ⟨#[32]⟩)] 9) = w5 := ⟨_, rfl⟩
    rw [hbq, hw5] at h4
    rw [HE1.out, HE2.out, HE3.out] at h4
    (try rw [hw5])
    (try rw [hbq])
    have H5 := Lib.hid h4
    clear h4 hbq hw5 l1 l2 l3 HE1 HE2 HE3
    obtain ⟨m, q, f, hf, hq, hm, hyv⟩ := dim_of y HYB.out
    have HYV := Lib.hid hyv
    have HF := Lib.hid hf
    have HQ := Lib.hid hq
    have HM := Lib.hid hm
    clear hf hq hm hyv
    go_wp2_with fail
    go_loopg [12] 3 (fun gg s12 wx => ∃ j : Nat, j ≤ 3 ∧ gg = 3 - j ∧ s12 = .int .i64 j ∧ Sat W (pts bq (.cells #[.string ⟨T1.toArray⟩, .string ⟨T2.toArray⟩, .string ⟨T3.toArray⟩] 9) * (rowT (.slice ta TL.length tc) TL * own W)) wx)
    case atStart => exact ⟨0, by omega, rfl, rfl, H5.out⟩
    case round =>
      obtain ⟨j, hj, hg, rfl, hx⟩ := hrel
      have HX := Lib.hid hx
      clear hx H5
      by_cases hlt : j < 3
      · obtain ⟨T, htx, hTl, hint⟩ := HTX.out j hlt
        have hcv : (#[.string ⟨T1.toArray⟩, .string ⟨T2.toArray⟩, .string ⟨T3.toArray⟩] : Array Value)[j]? = some (.string ⟨T.toArray⟩) := by
          rcases (by omega : j = 0 ∨ j = 1 ∨ j = 2) with h | h | h <;> (subst h; cases htx; rfl)
        have c0 := HX.out.cell (i := j) hcv
        have i3 : (j : Int) < 3 := by omega
        have lq := HX.out.lt
        have HT := Lib.hid (text_any T (by omega) HX.out)
        rw [HRN.out] at hint
        have HINT := Lib.hid hint
        clear htx hcv hint HX
        go_wp2_with fail
        with_reducible refine Calls.mono HT.out ?_
        rintro e w6 ⟨v6, rfl, h6⟩
        obtain ⟨pa, pc, hpv⟩ := (rowT_rd h6).val
        rw [List.length_map] at hpv
        subst hpv
        have H6 := Lib.hid (show Sat W (row (.slice pa T.length pc) T.length 24 3 (flat (T.map tokOf)) * (pts bq (.cells #[.string ⟨T1.toArray⟩, .string ⟨T2.toArray⟩, .string ⟨T3.toArray⟩] 9) * (rowT (.slice ta TL.length tc) TL * own W))) w6 by
          have h := h6
          unfold rowT at h
          rw [List.length_map] at h
          exact h)
        have HRD2 := Lib.hid (rowT_rd h6.r.r)
        clear h6 HT
        go_wp2_with (at_builtin; refine wpList_append_rd rfl _ _ 22 rfl i0 _ 32 Tryd.underlying22 HI.out HZ0.out HZ1.out HZ2.out rfl (by omega) rfl H6.out (.slice ta TL.length tc) TL.length (flat TL) rfl HRD2.out.1 (flat_one TL) (by have := HTLn.out; simp [maxLen]; omega) (by have := HTLn.out; omega) ?_)
        intro v7 w7 h7
        have h8 := rowT_app (acc := T.map tokOf) (X := TL) h7 (by rw [List.length_map])
        have HLI := Lib.hid (glist_any (v := v7) (L := T.map tokOf ++ TL) (fun w' h => rowT_rd h) (by simp only [List.length_append, List.length_map]; have := HTLn.out; omega) h8)
        clear h7 h8 H6 HRD2
        go_wp2_with fail
        with_reducible refine Calls.mono HLI.out ?_
        rintro e w8 ⟨bs, rfl, h9⟩
        have HNW := Lib.hid (tnew_any h9.less)
        clear h9 HLI
        go_wp2_with fail
        with_reducible refine Calls.mono HNW.out ?_
        rintro e w9 ⟨bt, rfl, h10⟩
        have HIN := Lib.hid (int_any (by simp only [List.length_append, List.length_map]; have := HTLn.out; omega) h10)
        rw [HINT.out] at HIN
        clear h10 HNW
        go_wp2_with fail
        with_reducible refine Calls.mono HIN.out ?_
        rintro e w10 ⟨rfl, h11⟩
        have HR := Lib.hid (ltrest_any (by have := HTLn.out; omega) h11)
        clear h11 HIN HINT
        go_wp2_with fail
        with_reducible refine Calls.mono (num_any _ _) ?_
        rintro e w11 ⟨rfl, rfl⟩
        go_wp2_with fail
        with_reducible refine Calls.mono HR.out ?_
        rintro e w12 ⟨u, rfl, h12⟩
        have HSM := Lib.hid (sameT_any TL TL u (.slice ta TL.length tc) w12 (rowT_rd h12.sat) (rowT_rd h12.sat.r.r))
        rw [show decide (TL = TL) = true by simp] at HSM
        have H12 := Lib.hid h12.sat
        clear h12 HR
        go_wp2_with fail
        with_reducible refine Calls.mono HSM.out ?_
        rintro e w13 ⟨rfl, q13, hq13⟩
        have h13 := (show Sat W _ w13 from hq13 ▸ H12.out.drewN (n := q13))
        clear hq13 H12 HSM
        have HS9 := Lib.hid h13.r
        clear h13
        go_wp2
        go_roundg (3 - (j + 1))
        case measure => omega
        case rel => exact ⟨j + 1, by omega, rfl, by go_num, HS9.out⟩
      · have hj3 : 3 = j := by omega
        subst hj3
        have hpr := print_any m q f HF.out HQ.out HM.out (itoa_c q (by have := HQ.out; omega) (fun w' h' t h1 h2 => h'.r.r.own_cell (HPOW.out t h1 h2))) HX.out
        rw [← HYV.out] at hpr
        have HP := Lib.hid hpr
        obtain ⟨hdt, hun⟩ := dimen_text m q f HF.out HQ.out TL
        rw [← HYV.out] at hdt
        have hlp := prt_len m q f (by have := HQ.out; omega)
        obtain ⟨Q, hQ⟩ : ∃ Q, prtB m q f ++ [112, 116, 32] = Q := ⟨_, rfl⟩
        have hcat : (⟨(prtB m q f).toArray⟩ : ByteArray) ++ ⟨#[112, 116, 32]⟩ = ⟨Q.toArray⟩ := by rw [← hQ]; exact bytes_app2 _ [112, 116, 32]
        have hQl : Q.length ≤ 2000 := by rw [← hQ]; simp only [List.length_append, List.length_cons, List.length_nil]; omega
        rw [hQ] at hdt hun
        have HDT := Lib.hid hdt
        have HUN := Lib.hid hun
        generalize prtB m q f = P at *
        clear hpr hdt hun hQ HX hlt hj hg HYV HPOW
        go_wp2_with fail
        with_reducible refine Calls.mono HP.out ?_
        rintro e w5 ⟨rfl, h5⟩
        have HT := Lib.hid (text_any Q (by omega) h5)
        clear h5 HP
        go_wp2_with fail
        with_reducible refine Calls.mono HT.out ?_
        rintro e w6 ⟨v6, rfl, h6⟩
        obtain ⟨pa, pc, hpv⟩ := (rowT_rd h6).val
        rw [List.length_map] at hpv
        subst hpv
        have H6 := Lib.hid (show Sat W (row (.slice pa Q.length pc) Q.length 24 3 (flat (Q.map tokOf)) * (pts bq (.cells #[.string ⟨T1.toArray⟩, .string ⟨T2.toArray⟩, .string ⟨T3.toArray⟩] 9) * (rowT (.slice ta TL.length tc) TL * own W))) w6 by
          have h := h6
          unfold rowT at h
          rw [List.length_map] at h
          exact h)
        have HRD2 := Lib.hid (rowT_rd h6.r.r)
        clear h6 HT
        go_wp2_with (at_builtin; refine wpList_append_rd rfl _ _ 22 rfl i0 _ 32 Tryd.underlying22 HI.out HZ0.out HZ1.out HZ2.out rfl (by omega) rfl H6.out (.slice ta TL.length tc) TL.length (flat TL) rfl HRD2.out.1 (flat_one TL) (by have := HTLn.out; simp [maxLen]; omega) (by have := HTLn.out; omega) ?_)
        intro v7 w7 h7
        have h8 := rowT_app (acc := Q.map tokOf) (X := TL) h7 (by rw [List.length_map])
        have HLI := Lib.hid (glist_any (v := v7) (L := Q.map tokOf ++ TL) (fun w' h => rowT_rd h) (by simp only [List.length_append, List.length_map]; have := HTLn.out; omega) h8)
        clear h7 h8 H6 HRD2
        go_wp2_with fail
        with_reducible refine Calls.mono HLI.out ?_
        rintro e w8 ⟨bs, rfl, h9⟩
        have HNW := Lib.hid (tnew_any h9.less)
        clear h9 HLI
        go_wp2_with fail
        with_reducible refine Calls.mono HNW.out ?_
        rintro e w9 ⟨bt, rfl, h10⟩
        have HIN := Lib.hid (ndimen_any (P := UnitP newS) (fun bx => unitC_some) HUN.out (by simp only [List.length_append, List.length_map]; have := HTLn.out; omega) h10)
        rw [HDT.out] at HIN
        clear h10 HNW
        go_wp2_with fail
        with_reducible refine Calls.mono HIN.out ?_
        rintro e w10 ⟨rfl, h11⟩
        have HR := Lib.hid (ltrest_any (by have := HTLn.out; omega) h11)
        clear h11 HIN HDT HUN
        go_wp2_with fail
        with_reducible refine Calls.mono (num_any _ _) ?_
        rintro e w11 ⟨rfl, rfl⟩
        go_wp2_with fail
        with_reducible refine Calls.mono HR.out ?_
        rintro e w12 ⟨u, rfl, h12⟩
        have HSM := Lib.hid (sameT_any TL TL u (.slice ta TL.length tc) w12 (rowT_rd h12.sat) (rowT_rd h12.sat.r.r))
        rw [show decide (TL = TL) = true by simp] at HSM
        have H12 := Lib.hid h12.sat
        clear h12 HR
        go_wp2_with fail
        with_reducible refine Calls.mono HSM.out ?_
        rintro e w13 ⟨rfl, q13, hq13⟩
        have h13 := (show Sat W _ w13 from hq13 ▸ H12.out.drewN (n := q13))
        clear hq13 H12 HSM
        have HK9 := Lib.hid (nknows_any h13.r)
        clear h13
        go_wp2_with fail
        with_reducible refine Calls.mono HK9.out ?_
        rintro e w14 ⟨rfl, h14⟩
        have HE9 := Lib.hid h14.r.r.toExt
        clear h14 HK9
        go_wp2
        go_ret
        exact ⟨rfl, HE9.out⟩
  · have hnr : (n : Int) = -r := (sgn_neg i1 em).symm
    have i4 : r < -r := by omega
    clear em
    go_enter Tryd.func3, Tryd.ntmps3
    go_wp2_with (at_builtin; refine wpList_append_rd rfl _ _ 22 rfl i0 _ 32 Tryd.underlying22 HI.out HZ0.out HZ1.out HZ2.out rfl (by omega) rfl HB0.out (.slice va k vc) B.length (flat B) rfl HRD.out.1 (flat_one B) (by have := HK.out; simp [maxLen]; omega) (by have := HK.out; omega) ?_)
    intro v1 w1 h3
    have h4 := rowT_oneD (X := stopT :: B) h3 (by simp only [List.length_cons]; omega) rfl
    obtain ⟨ta, tc, htv⟩ := (rowT_rd h4).val
    subst htv
    obtain ⟨TL, hTL⟩ : ∃ TL, stopT :: B = TL := ⟨_, rfl⟩
    have HTLn := Lib.hid (show TL.length ≤ 1048577 by rw [← hTL, List.length_cons, HK.out]; omega)
    rw [hTL] at h4
    rw [show (stopT :: B).length = TL.length by rw [hTL]]
    have HX0 := Lib.hid (show Sat W (rowT (.slice ta TL.length tc) TL * own W) w1 by
      exact (h4.of_eq (by ac_rfl : _ = pts b0 (Tok.box stopT) * (rowT (.slice ta TL.length tc) TL * own W))).r)
    have HNU := Lib.hid (refn_any n (by omega) w1)
    have HLA := Lib.hid (lawbased_any 8 (by decide) (by decide) n (by omega))
    have HLB := Lib.hid (lawbased_any 16 (by decide) (by decide) n (by omega))
    rw [hnr] at HNU HLA HLB
    clear hnr
    have HTX := Lib.hid (fun k hk => txts_at true n hn k hk TL)
    unfold txtsM at HTX
    have l1 := HL1.out
    have l2 := HL2.out
    have l3 := HL3.out
    clear h3 h4 hTL HB0 HRD HL1 HL2 HL3
    generalize decB n = D1 at *
    generalize basB 8 n = D2 at *
    generalize basB 16 n = D3 at *
    have HE1 := Lib.hid (show (⟨#[45]⟩ : ByteArray) ++ ⟨D1.toArray⟩ ++ ⟨#[32]⟩ = ⟨((minB true ++ D1) ++ [32]).toArray⟩ by apply ByteArray.ext; simp [minB])
    have HE2 := Lib.hid (show (⟨#[45]⟩ : ByteArray) ++ ⟨#[39]⟩ ++ ⟨D2.toArray⟩ ++ ⟨#[32]⟩ = ⟨(((minB true ++ [39]) ++ D2) ++ [32]).toArray⟩ by apply ByteArray.ext; simp [minB])
    have HE3 := Lib.hid (show (⟨#[45]⟩ : ByteArray) ++ ⟨#[34]⟩ ++ ⟨D3.toArray⟩ ++ ⟨#[32]⟩ = ⟨(((minB true ++ [34]) ++ D3) ++ [32]).toArray⟩ by apply ByteArray.ext; simp [minB])
    generalize (minB true ++ D1) ++ [32] = T1 at HE1 HTX
    generalize ((minB true ++ [39]) ++ D2) ++ [32] = T2 at HE2 HTX
    generalize ((minB true ++ [34]) ++ D3) ++ [32] = T3 at HE3 HTX
    go_wp2_with fail
    with_reducible refine Calls.mono HNU.out ?_
    rintro e w2 ⟨rfl, x1⟩
    have HX1 := Lib.hid (HX0.out.ext x1)
    clear x1 HX0 HNU
    go_wp2_with fail
    with_reducible refine Calls.mono (HLA.out w2) ?_
    rintro e w3 ⟨rfl, q3, hq3⟩
    have HX2 := Lib.hid (show Sat W _ w3 from hq3 ▸ HX1.out.drewN (n := q3))
    clear hq3 HX1 HLA
    go_wp2_with fail
    with_reducible refine Calls.mono (HLB.out w3) ?_
    rintro e w4 ⟨rfl, q4, hq4⟩
    have h4 := (show Sat W _ w4 from hq4 ▸ HX2.out.drewN (n := q4)).alloc (.cells #[.string ⟨T1.toArray⟩, .string ⟨T2.toArray⟩, .string ⟨T3.toArray⟩] 9)
    rw [← HE1.out, ← HE2.out, ← HE3.out] at h4
    clear hq4 HX2 HLB
    go_upto_region 10 with fail
    obtain ⟨bq, hbq⟩ : ∃ b, w4.heap.size = b := ⟨_, rfl⟩
    obtain ⟨w5, hw5⟩ : ∃ w5, w4.alloc (.cells #[.string (⟨#[45]⟩ ++ ⟨D1.toArray⟩ ++ ⟨#[32]⟩), .string (⟨#[45]⟩ ++ ⟨#[39]⟩ ++ ⟨D2.toArray⟩ ++ ⟨#[32]⟩), .string (⟨#[45]⟩ ++ ⟨#[34]⟩ ++ ⟨D3.toArray⟩ ++ ⟨#[32]⟩)] 9) = w5 := ⟨_, rfl⟩
    rw [hbq, hw5] at h4
    rw [HE1.out, HE2.out, HE3.out] at h4
    (try rw [hw5])
    (try rw [hbq])
    have H5 := Lib.hid h4
    clear h4 hbq hw5 l1 l2 l3 HE1 HE2 HE3
    obtain ⟨m, q, f, hf, hq, hm, hyv⟩ := dim_of y HYB.out
    have HYV := Lib.hid hyv
    have HF := Lib.hid hf
    have HQ := Lib.hid hq
    have HM := Lib.hid hm
    clear hf hq hm hyv
    go_wp2_with fail
    go_loopg [12] 3 (fun gg s12 wx => ∃ j : Nat, j ≤ 3 ∧ gg = 3 - j ∧ s12 = .int .i64 j ∧ Sat W (pts bq (.cells #[.string ⟨T1.toArray⟩, .string ⟨T2.toArray⟩, .string ⟨T3.toArray⟩] 9) * (rowT (.slice ta TL.length tc) TL * own W)) wx)
    case atStart => exact ⟨0, by omega, rfl, rfl, H5.out⟩
    case round =>
      obtain ⟨j, hj, hg, rfl, hx⟩ := hrel
      have HX := Lib.hid hx
      clear hx H5
      by_cases hlt : j < 3
      · obtain ⟨T, htx, hTl, hint⟩ := HTX.out j hlt
        have hcv : (#[.string ⟨T1.toArray⟩, .string ⟨T2.toArray⟩, .string ⟨T3.toArray⟩] : Array Value)[j]? = some (.string ⟨T.toArray⟩) := by
          rcases (by omega : j = 0 ∨ j = 1 ∨ j = 2) with h | h | h <;> (subst h; cases htx; rfl)
        have c0 := HX.out.cell (i := j) hcv
        have i3 : (j : Int) < 3 := by omega
        have lq := HX.out.lt
        have HT := Lib.hid (text_any T (by omega) HX.out)
        rw [HRN.out] at hint
        have HINT := Lib.hid hint
        clear htx hcv hint HX
        go_wp2_with fail
        with_reducible refine Calls.mono HT.out ?_
        rintro e w6 ⟨v6, rfl, h6⟩
        obtain ⟨pa, pc, hpv⟩ := (rowT_rd h6).val
        rw [List.length_map] at hpv
        subst hpv
        have H6 := Lib.hid (show Sat W (row (.slice pa T.length pc) T.length 24 3 (flat (T.map tokOf)) * (pts bq (.cells #[.string ⟨T1.toArray⟩, .string ⟨T2.toArray⟩, .string ⟨T3.toArray⟩] 9) * (rowT (.slice ta TL.length tc) TL * own W))) w6 by
          have h := h6
          unfold rowT at h
          rw [List.length_map] at h
          exact h)
        have HRD2 := Lib.hid (rowT_rd h6.r.r)
        clear h6 HT
        go_wp2_with (at_builtin; refine wpList_append_rd rfl _ _ 22 rfl i0 _ 32 Tryd.underlying22 HI.out HZ0.out HZ1.out HZ2.out rfl (by omega) rfl H6.out (.slice ta TL.length tc) TL.length (flat TL) rfl HRD2.out.1 (flat_one TL) (by have := HTLn.out; simp [maxLen]; omega) (by have := HTLn.out; omega) ?_)
        intro v7 w7 h7
        have h8 := rowT_app (acc := T.map tokOf) (X := TL) h7 (by rw [List.length_map])
        have HLI := Lib.hid (glist_any (v := v7) (L := T.map tokOf ++ TL) (fun w' h => rowT_rd h) (by simp only [List.length_append, List.length_map]; have := HTLn.out; omega) h8)
        clear h7 h8 H6 HRD2
        go_wp2_with fail
        with_reducible refine Calls.mono HLI.out ?_
        rintro e w8 ⟨bs, rfl, h9⟩
        have HNW := Lib.hid (tnew_any h9.less)
        clear h9 HLI
        go_wp2_with fail
        with_reducible refine Calls.mono HNW.out ?_
        rintro e w9 ⟨bt, rfl, h10⟩
        have HIN := Lib.hid (int_any (by simp only [List.length_append, List.length_map]; have := HTLn.out; omega) h10)
        rw [HINT.out] at HIN
        clear h10 HNW
        go_wp2_with fail
        with_reducible refine Calls.mono HIN.out ?_
        rintro e w10 ⟨rfl, h11⟩
        have HR := Lib.hid (ltrest_any (by have := HTLn.out; omega) h11)
        clear h11 HIN HINT
        go_wp2_with fail
        with_reducible refine Calls.mono (num_any _ _) ?_
        rintro e w11 ⟨rfl, rfl⟩
        go_wp2_with fail
        with_reducible refine Calls.mono HR.out ?_
        rintro e w12 ⟨u, rfl, h12⟩
        have HSM := Lib.hid (sameT_any TL TL u (.slice ta TL.length tc) w12 (rowT_rd h12.sat) (rowT_rd h12.sat.r.r))
        rw [show decide (TL = TL) = true by simp] at HSM
        have H12 := Lib.hid h12.sat
        clear h12 HR
        go_wp2_with fail
        with_reducible refine Calls.mono HSM.out ?_
        rintro e w13 ⟨rfl, q13, hq13⟩
        have h13 := (show Sat W _ w13 from hq13 ▸ H12.out.drewN (n := q13))
        clear hq13 H12 HSM
        have HS9 := Lib.hid h13.r
        clear h13
        go_wp2
        go_roundg (3 - (j + 1))
        case measure => omega
        case rel => exact ⟨j + 1, by omega, rfl, by go_num, HS9.out⟩
      · have hj3 : 3 = j := by omega
        subst hj3
        have hpr := print_any m q f HF.out HQ.out HM.out (itoa_c q (by have := HQ.out; omega) (fun w' h' t h1 h2 => h'.r.r.own_cell (HPOW.out t h1 h2))) HX.out
        rw [← HYV.out] at hpr
        have HP := Lib.hid hpr
        obtain ⟨hdt, hun⟩ := dimen_text m q f HF.out HQ.out TL
        rw [← HYV.out] at hdt
        have hlp := prt_len m q f (by have := HQ.out; omega)
        obtain ⟨Q, hQ⟩ : ∃ Q, prtB m q f ++ [112, 116, 32] = Q := ⟨_, rfl⟩
        have hcat : (⟨(prtB m q f).toArray⟩ : ByteArray) ++ ⟨#[112, 116, 32]⟩ = ⟨Q.toArray⟩ := by rw [← hQ]; exact bytes_app2 _ [112, 116, 32]
        have hQl : Q.length ≤ 2000 := by rw [← hQ]; simp only [List.length_append, List.length_cons, List.length_nil]; omega
        rw [hQ] at hdt hun
        have HDT := Lib.hid hdt
        have HUN := Lib.hid hun
        generalize prtB m q f = P at *
        clear hpr hdt hun hQ HX hlt hj hg HYV HPOW
        go_wp2_with fail
        with_reducible refine Calls.mono HP.out ?_
        rintro e w5 ⟨rfl, h5⟩
        have HT := Lib.hid (text_any Q (by omega) h5)
        clear h5 HP
        go_wp2_with fail
        with_reducible refine Calls.mono HT.out ?_
        rintro e w6 ⟨v6, rfl, h6⟩
        obtain ⟨pa, pc, hpv⟩ := (rowT_rd h6).val
        rw [List.length_map] at hpv
        subst hpv
        have H6 := Lib.hid (show Sat W (row (.slice pa Q.length pc) Q.length 24 3 (flat (Q.map tokOf)) * (pts bq (.cells #[.string ⟨T1.toArray⟩, .string ⟨T2.toArray⟩, .string ⟨T3.toArray⟩] 9) * (rowT (.slice ta TL.length tc) TL * own W))) w6 by
          have h := h6
          unfold rowT at h
          rw [List.length_map] at h
          exact h)
        have HRD2 := Lib.hid (rowT_rd h6.r.r)
        clear h6 HT
        go_wp2_with (at_builtin; refine wpList_append_rd rfl _ _ 22 rfl i0 _ 32 Tryd.underlying22 HI.out HZ0.out HZ1.out HZ2.out rfl (by omega) rfl H6.out (.slice ta TL.length tc) TL.length (flat TL) rfl HRD2.out.1 (flat_one TL) (by have := HTLn.out; simp [maxLen]; omega) (by have := HTLn.out; omega) ?_)
        intro v7 w7 h7
        have h8 := rowT_app (acc := Q.map tokOf) (X := TL) h7 (by rw [List.length_map])
        have HLI := Lib.hid (glist_any (v := v7) (L := Q.map tokOf ++ TL) (fun w' h => rowT_rd h) (by simp only [List.length_append, List.length_map]; have := HTLn.out; omega) h8)
        clear h7 h8 H6 HRD2
        go_wp2_with fail
        with_reducible refine Calls.mono HLI.out ?_
        rintro e w8 ⟨bs, rfl, h9⟩
        have HNW := Lib.hid (tnew_any h9.less)
        clear h9 HLI
        go_wp2_with fail
        with_reducible refine Calls.mono HNW.out ?_
        rintro e w9 ⟨bt, rfl, h10⟩
        have HIN := Lib.hid (ndimen_any (P := UnitP newS) (fun bx => unitC_some) HUN.out (by simp only [List.length_append, List.length_map]; have := HTLn.out; omega) h10)
        rw [HDT.out] at HIN
        clear h10 HNW
        go_wp2_with fail
        with_reducible refine Calls.mono HIN.out ?_
        rintro e w10 ⟨rfl, h11⟩
        have HR := Lib.hid (ltrest_any (by have := HTLn.out; omega) h11)
        clear h11 HIN HDT HUN
        go_wp2_with fail
        with_reducible refine Calls.mono (num_any _ _) ?_
        rintro e w11 ⟨rfl, rfl⟩
        go_wp2_with fail
        with_reducible refine Calls.mono HR.out ?_
        rintro e w12 ⟨u, rfl, h12⟩
        have HSM := Lib.hid (sameT_any TL TL u (.slice ta TL.length tc) w12 (rowT_rd h12.sat) (rowT_rd h12.sat.r.r))
        rw [show decide (TL = TL) = true by simp] at HSM
        have H12 := Lib.hid h12.sat
        clear h12 HR
        go_wp2_with fail
        with_reducible refine Calls.mono HSM.out ?_
        rintro e w13 ⟨rfl, q13, hq13⟩
        have h13 := (show Sat W _ w13 from hq13 ▸ H12.out.drewN (n := q13))
        clear hq13 H12 HSM
        have HK9 := Lib.hid (nknows_any h13.r)
        clear h13
        go_wp2_with fail
        with_reducible refine Calls.mono HK9.out ?_
        rintro e w14 ⟨rfl, h14⟩
        have HE9 := Lib.hid h14.r.r.toExt
        clear h14 HK9
        go_wp2
        go_ret
        exact ⟨rfl, HE9.out⟩
theorem decimals_sat (z s : Int) {v : Value} {B : List Tok} (hv : RdT W v B) (hl : B.length ≤ 1048576) (hpow : PowIs W) :
    Calls Tryd.prog 3 #[.int .i64 z, .int .i64 s, v] W fun e w' => e = .returned (.bool true) ∧ Sat W (own W) w' :=
  (decimals_ext z s hv hl hpow).mono fun _ _ h => ⟨h.1, Sat.ext (Sat.start W) h.2⟩
end Go.Proofs.YticljfpippbkkaaDoor
