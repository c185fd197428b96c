
/-
  Package logs: lists of tokens as text. Conditions: those that each theorem names.
-/
import Derived.Test.YtpcdbeicpmjooaaDoorLogG
namespace Go.Proofs.YtpcdbeicpmjooaaDoor
open Go.RowKit Go.Sp
variable {W w w' : World} {F F' : HProp}

/-- tokens as text -/
def textB (C : List Int) (L : List Tok) : List UInt8 := L.flatMap (tokenB C)

theorem textB_app (C : List Int) (a b : List Tok) : textB C (a ++ b) = textB C a ++ textB C b := by simp [textB]
theorem textB_take (C : List Int) (L : List Tok) (k : Nat) (h : k < L.length) : textB C (L.take (k + 1)) = textB C (L.take k) ++ tokenB C L[k] := by
  unfold textB
  rw [List.take_succ_eq_append_getElem h, List.flatMap_append, List.flatMap_singleton]
theorem textB_le (C : List Int) (L : List Tok) (k : Nat) : (textB C (L.take k)).length ≤ (textB C L).length := by
  have h : textB C L = textB C (L.take k) ++ textB C (L.drop k) := by rw [← textB_app, List.take_append_drop]
  rw [h, List.length_append]
  omega

theorem BdAt.allocD {b : Nat} {l : List UInt8} (h : BdAt W F b l w) {o : Obj} : BdAt W F b l (w.alloc o) := by
  obtain ⟨p, v, h1, h2, h3⟩ := h
  exact ⟨p, v, h1, h2, h3.allocD⟩
theorem token_bd (C : List Int) (hC : C.length = 256) (t : Tok) (hb : t.name.size ≤ 2000000) {b : Nat} {l : List UInt8} (h : BdAt W F b l w) : Calls Tryd.prog 12 #[Tok.val t, codesV C] w fun e w' => e = .returned ((.string ⟨(tokenB C t).toArray⟩)) ∧ BdAt W F b l w' := by
  obtain ⟨p, v, h1, h2, h3⟩ := h
  exact (token_any C hC t hb h3).mono fun e w' ⟨he, hs⟩ => ⟨he, p, v, h1, h2, hs⟩


theorem tokens_big (C : List Int) (v : Value) (L : List Tok) (most : Int) (h0 : 0 ≤ most) (hv : RdT w v L) (hl : 20000 < L.length) (h : Sat W F w) :
    Calls Tryd.prog 6 #[v, codesV C, .int .i64 most] w fun e w' => e = .returned (.tuple #[.string ⟨#[]⟩, .int .i64 6]) ∧ Sat W F w' := by
  have HF := Lib.hid (h.allocD (o := codesO C 22))
  have hle := hv.le
  obtain ⟨a, cap, rfl⟩ := hv.val
  have i1 : ¬ most < 0 := by omega
  have i2 : (20000 : Int) < (L.length : Int) := by omega
  generalize L.length = n at *
  clear h hv
  go_enter Tryd.func6, Tryd.ntmps6
  go_wp2
  go_ret2
  exact ⟨rfl, HF.out⟩

set_option maxRecDepth 1000000 in
set_option maxHeartbeats 8000000 in
theorem tokens_any (C : List Int) (hC : C.length = 256) (v : Value) (L : List Tok) (hv : ∀ w', Sat W F w' → RdT w' v L) (hl : L.length ≤ 20000) (hT : (textB C L).length ≤ 200000000) (hN : ∀ t ∈ L, t.name.size ≤ 2000000) (h : Sat W F w) :
    Calls Tryd.prog 6 #[v, codesV C, .int .i64 1099511627776] w fun e w' => e = .returned (.tuple #[(.string ⟨(textB C L).toArray⟩), .int .i64 0]) ∧ Sat W F w' := by
  have h0 := h.alloc (codesO C 22)
  have H0 := Lib.hid ((BdAt.new h0).of_eq (show _ = pts w.heap.size (codesO C 22) * F from rfl))
  have HV := Lib.hid hv
  have HC := Lib.hid hC
  obtain ⟨a, cap, rfl⟩ := (hv w h).val
  obtain ⟨n, hn⟩ : ∃ n, L.length = n := ⟨_, rfl⟩
  have HN := Lib.hid hn
  have HNM := Lib.hid hN
  have HTT := Lib.hid hT
  rw [hn] at hl HV
  rw [hn]
  obtain ⟨b, hb⟩ : ∃ b, (w.alloc (codesO C 22)).heap.size = b := ⟨_, rfl⟩
  rw [hb] at H0
  have hb2 : w.heap.size + 1 = b := by rw [← hb]; simp
  obtain ⟨bc, hbc⟩ : ∃ bc, w.heap.size = bc := ⟨_, rfl⟩
  rw [hbc] at H0 hb2
  subst hb2
  have i2 : ¬ (20000 : Int) < (n : Int) := by omega
  obtain ⟨ST, hST⟩ : ∃ ST, (⟨(textB C L).toArray⟩ : ByteArray) = ST := ⟨_, rfl⟩
  rw [hST]
  have HSTR := Lib.hid hST
  clear hST
  clear h h0 hv hC hn hN hT hb
  go_enter Tryd.func6, Tryd.ntmps6
  go_wp2_with fail
  clear hbc
  go_loopg [21] n (fun g s21 wx => ∃ k : Nat, k ≤ n ∧ g = n - k ∧ s21 = .int .i64 k ∧ BdAt W (pts bc (codesO C 22) * F) (bc + 1) (textB C (L.take k)) wx)
  case atStart =>
    have e : textB C (L.take 0) = [] := by rw [List.take_zero]; rfl
    refine ⟨0, by omega, rfl, rfl, ?_⟩
    rw [e]
    exact H0.out
  case round =>
    obtain ⟨k, hk, rfl, rfl, hx⟩ := hrel
    have HX := Lib.hid hx
    clear hx
    by_cases hlt : k < n
    · have i1 : (k : Int) < (n : Int) := by omega
      have hkl : k < L.length := by rw [HN.out]; exact hlt
      obtain ⟨b', off, rfl, ⟨a0, a1, a2⟩, hb'⟩ := (HV.out wr HX.out.sat.r).at (i := k) hkl
      have HTK := Lib.hid (textB_take C L k hkl)
      have HNT := Lib.hid (HNM.out L[k] (List.getElem_mem hkl))
      have HTL := Lib.hid (textB_le C L (k + 1))
      obtain ⟨t, ht⟩ : ∃ t, L[k] = t := ⟨_, rfl⟩
      rw [ht] at a0 a1 a2 HTK HNT
      obtain ⟨m1, hm1⟩ : ∃ m, (textB C (L.take k)).length = m := ⟨_, rfl⟩
      obtain ⟨q, hq⟩ : ∃ q, (tokenB C t).length = q := ⟨_, rfl⟩
      have hmq : m1 + q ≤ 200000000 := by
        have h1 := HTL.out
        have h2 := HTT.out
        rw [HTK.out, List.length_append, hm1, hq] at h1
        omega
      have hss : (⟨(tokenB C t).toArray⟩ : ByteArray).size = q := by rw [← hq]; simp [ByteArray.size]
      have HM1 := Lib.hid hm1
      have HQ := Lib.hid hq
      have HTOK := Lib.hid (token_bd C HC.out t HNT.out (HX.out.allocD (o := .cells #[.int .i64 t.cat, .int .u8 t.chr.toNat, .string t.name] 26)))
      have HBK := Lib.hid (HX.out.allocD (o := .cells #[.int .i64 t.cat, .int .u8 t.chr.toNat, .string t.name] 26)).sat.blk
      obtain ⟨s, hs⟩ : ∃ s, (⟨(tokenB C t).toArray⟩ : ByteArray) = s := ⟨_, rfl⟩
      rw [hs] at hss HTOK
      have HSS := Lib.hid hs
      clear ht hkl hm1 hq hs
      go_wp2_with fail
      refine wp_load_row 22 (.tmp 4) (by rfl) bc (by rfl) _ _ _ _ HBK.out Tryd.underlying22 (by rfl) ?_ ?_
      · rw [size_codes]; simp [HC.out]
      clear HBK
      go_wp2_with fail
      refine Calls.mono HTOK.out ?_
      rintro e w1 ⟨rfl, h1⟩
      have H1 := Lib.hid h1
      have HLE := Lib.hid (len_any h1)
      rw [HM1.out] at HLE
      clear h1 a0 a1 a2 hb'
      have j3 : ¬ (1099511627776 : Int) - (m1 : Int) < (q : Int) := by omega
      go_wp2_with fail
      refine Calls.mono HLE.out ?_
      rintro e w2 ⟨rfl, rfl⟩
      have HWR := Lib.hid (write_any (tokenB C t) H1.out (by rw [HM1.out, HQ.out]; omega))
      rw [HSS.out] at HWR
      clear HTOK HLE
      go_wp2_with fail
      refine Calls.mono HWR.out ?_
      rintro e w3 ⟨⟨r, rfl⟩, h3⟩
      have H3 := Lib.hid h3
      clear h3
      go_wp2
      go_roundg (n - (k + 1))
      case measure => omega
      case rel => exact ⟨k + 1, by omega, rfl, by go_num, by rw [HTK.out]; exact H3.out⟩
    · have hkn : n = k := by omega
      subst hkn
      have htk : L.take n = L := List.take_of_length_le (by rw [HN.out]; exact Nat.le_refl _)
      have hx := HX.out
      rw [htk] at hx
      have HST := Lib.hid (string_any hx (by have := HTT.out; omega))
      rw [HSTR.out] at HST
      clear hx htk
      go_wp2_with fail
      refine Calls.mono HST.out ?_
      rintro e w2 ⟨rfl, h2⟩
      have H2 := Lib.hid h2.r
      clear h2
      go_wp2
      go_ret2
      exact ⟨rfl, H2.out⟩

end Go.Proofs.YtpcdbeicpmjooaaDoor
