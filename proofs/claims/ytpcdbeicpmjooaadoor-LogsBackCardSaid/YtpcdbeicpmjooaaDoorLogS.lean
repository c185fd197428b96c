
/-
  Lists of tokens as text, of so many bytes: the program's. Conditions: those that each theorem names.
-/
import Derived.Test.YtpcdbeicpmjooaaDoorLogI
namespace Go.Proofs.YtpcdbeicpmjooaaDoor
open Go.RowKit Go.Sp
variable {W w w' : World} {F F' : HProp}

def etcB : List UInt8 := [92, 69, 84, 67, 46]
/-- tokens as text, behind what is there, of at most so many bytes -/
def cutM (C : List Int) (most : Int) : List Tok → List UInt8 → List UInt8
  | [], out => out
  | t :: L, out => if most - (out.length : Int) < ((tokenB C t).length : Int) then out ++ etcB else cutM C most L (out ++ tokenB C t)
/-- what Tokens answers -/
def tokM (C : List Int) (most : Int) (L : List Tok) : List UInt8 × Int := if most < 0 then ([], 11) else if 20000 < L.length then ([], 6) else (cutM C most L [], 0)

theorem cutM_drop (C : List Int) (most : Int) (L : List Tok) (k : Nat) (out : List UInt8) (h : k < L.length) : cutM C most (L.drop k) out = if most - (out.length : Int) < ((tokenB C L[k]).length : Int) then out ++ etcB else cutM C most (L.drop (k + 1)) (out ++ tokenB C L[k]) := by
  rw [List.drop_eq_getElem_cons h, cutM]
theorem cutM_end (C : List Int) (most : Int) (L : List Tok) (k : Nat) (out : List UInt8) (h : L.length ≤ k) : cutM C most (L.drop k) out = out := by
  rw [List.drop_of_length_le h, cutM]
theorem cutM_len (C : List Int) (most : Int) (L : List Tok) (out : List UInt8) : (cutM C most L out).length ≤ out.length + (textB C L).length + 5 := by
  induction L generalizing out with
  | nil => simp [cutM, textB]
  | cons t L ih =>
    rw [cutM]
    have e : (textB C (t :: L)).length = (tokenB C t).length + (textB C L).length := by simp [textB]
    split
    · simp [etcB]
    · have := ih (out ++ tokenB C t)
      rw [List.length_append] at this
      omega

theorem tokens_neg (C : List Int) (v : Value) (most : Int) (h0 : most < 0) (h : Sat W F w) :
    Calls Tryd.prog 6 #[v, codesV C, .int .i64 most] w fun e w' => e = .returned (.tuple #[.string ⟨#[]⟩, .int .i64 11]) ∧ Sat W F w' := by
  have HF := Lib.hid (h.allocD (o := codesO C 22))
  clear h
  go_enter Tryd.func6, Tryd.ntmps6
  go_wp2
  go_ret2
  exact ⟨rfl, HF.out⟩

set_option maxRecDepth 1000000 in
set_option maxHeartbeats 8000000 in
theorem tokens_few (C : List Int) (hC : C.length = 256) (v : Value) (L : List Tok) (most : Int) (h0 : 0 ≤ most) (hM : most ≤ maxLen) (hv : ∀ w', Sat W F w' → RdT w' v L) (hl : L.length ≤ 20000) (hT : (textB C L).length ≤ 200000000) (hN : ∀ t ∈ L, t.name.size ≤ 2000000) (h : Sat W F w) :
    Calls Tryd.prog 6 #[v, codesV C, .int .i64 most] w fun e w' => e = .returned (.tuple #[(.string ⟨(cutM C most L []).toArray⟩), .int .i64 0]) ∧ Sat W F w' := by
  have h0' := h.alloc (codesO C 22)
  have H0 := Lib.hid ((BdAt.new h0').of_eq (show _ = pts w.heap.size (codesO C 22) * F from rfl))
  have HV := Lib.hid hv
  have HC := Lib.hid hC
  obtain ⟨a, cap, rfl⟩ := (hv w h).val
  obtain ⟨n, hn⟩ : ∃ n, L.length = n := ⟨_, rfl⟩
  have HN := Lib.hid hn
  have HNM := Lib.hid hN
  have HTT := Lib.hid hT
  have HMX := Lib.hid hM
  rw [hn] at hl HV
  rw [hn]
  obtain ⟨b, hb⟩ : ∃ b, (w.alloc (codesO C 22)).heap.size = b := ⟨_, rfl⟩
  rw [hb] at H0
  have hb2 : w.heap.size + 1 = b := by rw [← hb]; simp
  obtain ⟨bc, hbc⟩ : ∃ bc, w.heap.size = bc := ⟨_, rfl⟩
  rw [hbc] at H0 hb2
  subst hb2
  have i2 : ¬ (20000 : Int) < (n : Int) := by omega
  have i3 : ¬ most < 0 := by omega
  obtain ⟨OUT, hOUT⟩ : ∃ OUT, cutM C most L [] = OUT := ⟨_, rfl⟩
  rw [hOUT]
  have HOUT := Lib.hid hOUT
  clear h h0 h0' hv hC hn hN hT hb hOUT hM
  go_enter Tryd.func6, Tryd.ntmps6
  go_wp2_with fail
  clear hbc
  go_loopg [21] n (fun g s21 wx => ∃ k : Nat, k ≤ n ∧ g = n - k ∧ s21 = .int .i64 k ∧ OUT = cutM C most (L.drop k) (textB C (L.take k)) ∧ BdAt W (pts bc (codesO C 22) * F) (bc + 1) (textB C (L.take k)) wx)
  case atStart =>
    have e : textB C (L.take 0) = [] := by rw [List.take_zero]; rfl
    refine ⟨0, by omega, rfl, rfl, ?_, ?_⟩
    · rw [e, ← HOUT.out]; rfl
    · rw [e]
      exact H0.out
  case round =>
    obtain ⟨k, hk, rfl, rfl, hO, hx⟩ := hrel
    have HX := Lib.hid hx
    have HO := Lib.hid hO
    clear hx hO
    by_cases hlt : k < n
    · have i1 : (k : Int) < (n : Int) := by omega
      have hkl : k < L.length := by rw [HN.out]; exact hlt
      obtain ⟨b', off, rfl, ⟨a0, a1, a2⟩, hb'⟩ := (HV.out wr HX.out.sat.r).at (i := k) hkl
      have HTK := Lib.hid (textB_take C L k hkl)
      have HNT := Lib.hid (HNM.out L[k] (List.getElem_mem hkl))
      have HTL := Lib.hid (textB_le C L (k + 1))
      have HCD := Lib.hid (cutM_drop C most L k (textB C (L.take k)) hkl)
      obtain ⟨t, ht⟩ : ∃ t, L[k] = t := ⟨_, rfl⟩
      rw [ht] at a0 a1 a2 HTK HNT HCD
      obtain ⟨m1, hm1⟩ : ∃ m, (textB C (L.take k)).length = m := ⟨_, rfl⟩
      obtain ⟨q, hq⟩ : ∃ q, (tokenB C t).length = q := ⟨_, rfl⟩
      have hmq : m1 + q ≤ 200000000 := by
        have h1 := HTL.out
        have h2 := HTT.out
        rw [HTK.out, List.length_append, hm1, hq] at h1
        omega
      rw [hm1, hq] at HCD
      have hss : (⟨(tokenB C t).toArray⟩ : ByteArray).size = q := by rw [← hq]; simp [ByteArray.size]
      have HM1 := Lib.hid hm1
      have HQ := Lib.hid hq
      have HTOK := Lib.hid (token_bd C HC.out t HNT.out (HX.out.allocD (o := .cells #[.int .i64 t.cat, .int .u8 t.chr.toNat, .string t.name] 26)))
      have HBK := Lib.hid (HX.out.allocD (o := .cells #[.int .i64 t.cat, .int .u8 t.chr.toNat, .string t.name] 26)).sat.blk
      obtain ⟨s, hs⟩ : ∃ s, (⟨(tokenB C t).toArray⟩ : ByteArray) = s := ⟨_, rfl⟩
      rw [hs] at hss HTOK
      have HSS := Lib.hid hs
      have jw : wrap64 (most - (m1 : Int)) = most - (m1 : Int) := IntWalk.wrap64_in _ (by have := HMX.out; unfold maxLen at this; omega)
      have HSE := Lib.hid (show (⟨(textB C (L.take k)).toArray⟩ : ByteArray) ++ (⟨#[92, 69, 84, 67, 46]⟩ : ByteArray) = ⟨(textB C (L.take k) ++ etcB).toArray⟩ from cat_mk _ _)
      have hzs : (⟨(textB C (L.take k)).toArray⟩ : ByteArray).size = m1 := by rw [← hm1]; simp [ByteArray.size]
      clear ht hkl hm1 hq hs
      go_wp2_with fail
      refine wp_load_row 22 (.tmp 4) (by rfl) bc (by rfl) _ _ _ _ HBK.out Tryd.underlying22 (by rfl) ?_ ?_
      · rw [size_codes]; simp [HC.out]
      clear HBK
      go_wp2_with fail
      refine Calls.mono HTOK.out ?_
      rintro e w1 ⟨rfl, h1⟩
      have H1 := Lib.hid h1
      have HLE := Lib.hid (len_any h1)
      rw [HM1.out] at HLE
      clear h1 a0 a1 a2 hb'
      by_cases hcut : most - (m1 : Int) < (q : Int)
      · have HF2 := Lib.hid (show OUT = textB C (L.take k) ++ etcB by rw [HO.out, HCD.out, if_pos hcut])
        go_wp2_with fail
        refine Calls.mono HLE.out ?_
        rintro e w2 ⟨rfl, rfl⟩
        have HST := Lib.hid (string_any H1.out (by rw [HM1.out]; omega))
        generalize (⟨(textB C (L.take k)).toArray⟩ : ByteArray) = S1 at *
        clear HTOK HLE
        go_wp2_with fail
        refine Calls.mono HST.out ?_
        rintro e w2 ⟨rfl, h2⟩
        have H2 := Lib.hid h2.r
        clear h2
        go_wp2
        go_ret2
        exact ⟨by rw [HF2.out, ← HSE.out]; rfl, H2.out⟩
      · have HO2 := Lib.hid (show OUT = cutM C most (L.drop (k + 1)) (textB C (L.take (k + 1))) by rw [HO.out, HCD.out, if_neg hcut, HTK.out])
        go_wp2_with fail
        refine Calls.mono HLE.out ?_
        rintro e w2 ⟨rfl, rfl⟩
        have HWR := Lib.hid (write_any (tokenB C t) H1.out (by rw [HM1.out, HQ.out]; omega))
        rw [HSS.out] at HWR
        clear HTOK HLE hzs HSE
        go_wp2_with fail
        refine Calls.mono HWR.out ?_
        rintro e w3 ⟨⟨r, rfl⟩, h3⟩
        have H3 := Lib.hid h3
        clear h3
        go_wp2
        go_roundg (n - (k + 1))
        case measure => omega
        case rel => exact ⟨k + 1, by omega, rfl, by go_num, HO2.out, by rw [HTK.out]; exact H3.out⟩
    · have hkn : n = k := by omega
      subst hkn
      have htk : L.take n = L := List.take_of_length_le (by rw [HN.out]; exact Nat.le_refl _)
      have hx := HX.out
      rw [htk] at hx
      have HF2 := Lib.hid (show textB C L = OUT by rw [HO.out, cutM_end C most L n _ (by rw [HN.out]; exact Nat.le_refl _), htk])
      have HST := Lib.hid (string_any hx (by have := HTT.out; omega))
      rw [HF2.out] at HST
      clear hx htk
      go_wp2_with fail
      refine Calls.mono HST.out ?_
      rintro e w2 ⟨rfl, h2⟩
      have H2 := Lib.hid h2.r
      clear h2
      go_wp2
      go_ret2
      exact ⟨rfl, H2.out⟩

theorem tokM_neg {C : List Int} {most : Int} {L : List Tok} (h : most < 0) : tokM C most L = ([], 11) := by rw [tokM, if_pos h]
theorem tokM_big {C : List Int} {most : Int} {L : List Tok} (h : ¬ most < 0) (hl : 20000 < L.length) : tokM C most L = ([], 6) := by rw [tokM, if_neg h, if_pos hl]
theorem tokM_few {C : List Int} {most : Int} {L : List Tok} (h : ¬ most < 0) (hl : ¬ 20000 < L.length) : tokM C most L = (cutM C most L [], 0) := by rw [tokM, if_neg h, if_neg hl]

theorem tokens_m (C : List Int) (hC : C.length = 256) (v : Value) (L : List Tok) (most : Int) (hM : most ≤ maxLen) (hv : ∀ w', Sat W F w' → RdT w' v L) (hT : (textB C L).length ≤ 200000000) (hN : ∀ t ∈ L, t.name.size ≤ 2000000) (h : Sat W F w) :
    Calls Tryd.prog 6 #[v, codesV C, .int .i64 most] w fun e w' => e = .returned (.tuple #[(.string ⟨((tokM C most L).1).toArray⟩), .int .i64 (tokM C most L).2]) ∧ Sat W F w' := by
  by_cases h0 : most < 0
  · rw [tokM_neg h0]; exact tokens_neg C v most h0 h
  · by_cases hl : 20000 < L.length
    · rw [tokM_big h0 hl]; exact tokens_big C v L most (by omega) (hv w h) hl h
    · rw [tokM_few h0 hl]; exact tokens_few C hC v L most (by omega) hM hv (by omega) hT hN h

theorem tokM_len (C : List Int) (most : Int) (L : List Tok) : (tokM C most L).1.length ≤ (textB C L).length + 5 := by
  by_cases h0 : most < 0
  · rw [tokM_neg h0]; simp
  · by_cases hl : 20000 < L.length
    · rw [tokM_big h0 hl]; simp
    · rw [tokM_few h0 hl]
      have := cutM_len C most L []
      simpa using this

end Go.Proofs.YtpcdbeicpmjooaaDoor
