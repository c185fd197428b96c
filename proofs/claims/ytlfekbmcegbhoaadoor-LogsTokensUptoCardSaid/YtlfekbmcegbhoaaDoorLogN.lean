
/-
  Lists of tokens as text, of so many bytes: the program's and the reference's. Conditions: those that each theorem names.
-/
import Derived.Test.YtlfekbmcegbhoaaDoorLogM
import Derived.Test.YtlfekbmcegbhoaaDoorLogJ
namespace Go.Proofs.YtlfekbmcegbhoaaDoor
open Go.RowKit Go.Sp
variable {W w w' : World} {F F' : HProp}

def etcB : List UInt8 := [92, 69, 84, 67, 46]
/-- tokens as text, behind what is there, of at most so many bytes -/
def cutM (C : List Int) (most : Int) : List Tok → List UInt8 → List UInt8
  | [], out => out
  | t :: L, out => if most - (out.length : Int) < ((tokenB C t).length : Int) then out ++ etcB else cutM C most L (out ++ tokenB C t)
/-- what Tokens answers -/
def tokM (C : List Int) (most : Int) (L : List Tok) : List UInt8 × Int := if most < 0 then ([], 11) else if 20000 < L.length then ([], 6) else (cutM C most L [], 0)

theorem cutM_drop (C : List Int) (most : Int) (L : List Tok) (k : Nat) (out : List UInt8) (h : k < L.length) : cutM C most (L.drop k) out = if most - (out.length : Int) < ((tokenB C L[k]).length : Int) then out ++ etcB else cutM C most (L.drop (k + 1)) (out ++ tokenB C L[k]) := by
  rw [List.drop_eq_getElem_cons h, cutM]
theorem cutM_end (C : List Int) (most : Int) (L : List Tok) (k : Nat) (out : List UInt8) (h : L.length ≤ k) : cutM C most (L.drop k) out = out := by
  rw [List.drop_of_length_le h, cutM]
theorem cutM_len (C : List Int) (most : Int) (L : List Tok) (out : List UInt8) : (cutM C most L out).length ≤ out.length + (textB C L).length + 5 := by
  induction L generalizing out with
  | nil => simp [cutM, textB]
  | cons t L ih =>
    rw [cutM]
    have e : (textB C (t :: L)).length = (tokenB C t).length + (textB C L).length := by simp [textB]
    split
    · simp [etcB]
    · have := ih (out ++ tokenB C t)
      rw [List.length_append] at this
      omega

theorem tokens_neg (C : List Int) (v : Value) (most : Int) (h0 : most < 0) (h : Sat W F w) :
    Calls Tryd.prog 13 #[v, codesV C, .int .i64 most] w fun e w' => e = .returned (.tuple #[.string ⟨#[]⟩, .int .i64 11]) ∧ Sat W F w' := by
  have HF := Lib.hid (h.allocD (o := codesO C 40))
  clear h
  go_enter Tryd.func13, Tryd.ntmps13
  go_wp2
  go_ret2
  exact ⟨rfl, HF.out⟩

theorem tokensR_neg (C : List Int) (v : Value) (most : Int) (h0 : most < 0) (h : Sat W F w) :
    Calls Tryd.prog 14 #[v, codesV C, .int .i64 most] w fun e w' => e = .returned (.tuple #[.string ⟨#[]⟩, .int .i64 11]) ∧ Sat W F w' := by
  have HF := Lib.hid (h.allocD (o := codesO C 40))
  clear h
  go_enter Tryd.func14, Tryd.ntmps14
  go_wp2
  go_ret2
  exact ⟨rfl, HF.out⟩

theorem tokensR_big (C : List Int) (v : Value) (L : List Tok) (most : Int) (h0 : 0 ≤ most) (hv : RdT w v L) (hl : 20000 < L.length) (h : Sat W F w) :
    Calls Tryd.prog 14 #[v, codesV C, .int .i64 most] w fun e w' => e = .returned (.tuple #[.string ⟨#[]⟩, .int .i64 6]) ∧ Sat W F w' := by
  have HF := Lib.hid (h.allocD (o := codesO C 40))
  have hle := hv.le
  obtain ⟨a, cap, rfl⟩ := hv.val
  have i1 : ¬ most < 0 := by omega
  have i2 : (20000 : Int) < (L.length : Int) := by omega
  generalize L.length = n at *
  clear h hv
  go_enter Tryd.func14, Tryd.ntmps14
  go_wp2
  go_ret2
  exact ⟨rfl, HF.out⟩

set_option maxRecDepth 1000000 in
set_option maxHeartbeats 8000000 in
theorem tokensR_few (C : List Int) (hC : C.length = 256) (v : Value) (L : List Tok) (most : Int) (h0 : 0 ≤ most) (hM : most ≤ maxLen) (hv : ∀ w', Sat W F w' → RdT w' v L) (hl : L.length ≤ 20000) (hT : (textB C L).length ≤ 200000000) (hN : ∀ t ∈ L, t.name.size ≤ 2000000) (h : Sat W F w) :
    Calls Tryd.prog 14 #[v, codesV C, .int .i64 most] w fun e w' => e = .returned (.tuple #[(.string ⟨(cutM C most L []).toArray⟩), .int .i64 0]) ∧ Sat W F w' := by
  have H0 := Lib.hid (h.alloc (codesO C 40))
  have HV := Lib.hid hv
  have hd : (Tryd.prog.info? 40).map (·.size) = some ((C.map (Value.int .i64)).toArray).size := by rw [size_codes]; simp [hC]
  obtain ⟨bc, hbc⟩ : ∃ bc, w.heap.size = bc := ⟨_, rfl⟩
  have HLD := Lib.hid hd
  rw [hbc] at H0
  have HC := Lib.hid hC
  obtain ⟨a, cap, rfl⟩ := (hv w h).val
  obtain ⟨n, hn⟩ : ∃ n, L.length = n := ⟨_, rfl⟩
  have HN := Lib.hid hn
  have HNM := Lib.hid hN
  have HTT := Lib.hid hT
  have HMX := Lib.hid hM
  rw [hn] at hl HV
  rw [hn]
  have i2 : ¬ (20000 : Int) < (n : Int) := by omega
  have i3 : ¬ most < 0 := by omega
  obtain ⟨OUT, hOUT⟩ : ∃ OUT, cutM C most L [] = OUT := ⟨_, rfl⟩
  rw [hOUT]
  have HOUT := Lib.hid hOUT
  have cvb := Lib.hid (fun w => conv_int w 92 92 rfl)
  have HE := Lib.hid (show (⟨#[]⟩ : ByteArray) = ⟨(textB C (L.take 0)).toArray⟩ from rfl)
  clear h hv hC hn hN hT hOUT hd hM h0
  go_enter Tryd.func14, Tryd.ntmps14
  go_wp2_with fail
  clear hbc
  go_loopg [8, 9] n (fun g s8 s9 wx => ∃ (k : Nat) (S : ByteArray), k ≤ n ∧ g = n - k ∧ s9 = .int .i64 k ∧ s8 = .string S ∧ S = ⟨(textB C (L.take k)).toArray⟩ ∧ OUT = cutM C most (L.drop k) (textB C (L.take k)) ∧ Sat W (pts bc (codesO C 40) * F) wx)
  case atStart => exact ⟨0, _, by omega, rfl, rfl, rfl, HE.out, by rw [← HOUT.out]; rfl, H0.out⟩
  case round =>
    obtain ⟨k, S, hk, rfl, rfl, rfl, hS, hO, hx⟩ := hrel
    have HX := Lib.hid hx
    have HSS := Lib.hid hS
    have HO := Lib.hid hO
    have hsz : S.size = (textB C (L.take k)).length := by rw [hS]; simp [ByteArray.size]
    clear hx hS hO
    by_cases hlt : k < n
    · have i1 : (k : Int) < (n : Int) := by omega
      have hkl : k < L.length := by rw [HN.out]; exact hlt
      obtain ⟨b', off, rfl, -, hb'⟩ := (HV.out wr HX.out.r).at (i := k) hkl
      have HAT := Lib.hid (fun (w' : World) (h : Sat W (pts bc (codesO C 40) * F) w') => (show At w' b' (off + k * 3) L[k] by
        obtain ⟨b2, off2, e, ha, _⟩ := (HV.out w' h.r).at (i := k) hkl
        simp only [Option.some.injEq, Addr.mk.injEq, and_true] at e
        obtain ⟨rfl, rfl⟩ := e
        exact ha))
      have HTK := Lib.hid (textB_take C L k hkl)
      have HNT := Lib.hid (HNM.out L[k] (List.getElem_mem hkl))
      have HTL := Lib.hid (textB_le C L (k + 1))
      have HCD := Lib.hid (cutM_drop C most L k (textB C (L.take k)) hkl)
      obtain ⟨t, ht⟩ : ∃ t, L[k] = t := ⟨_, rfl⟩
      rw [ht] at HAT HTK HNT HCD
      obtain ⟨m1, hm1⟩ : ∃ m, (textB C (L.take k)).length = m := ⟨_, rfl⟩
      obtain ⟨q, hq⟩ : ∃ q, (tokenB C t).length = q := ⟨_, rfl⟩
      have hmq : m1 + q ≤ 200000000 := by
        have h1 := HTL.out
        have h2 := HTT.out
        rw [HTK.out, List.length_append, hm1, hq] at h1
        omega
      rw [hm1] at hsz HCD
      rw [hq] at HCD
      have hss : (⟨(tokenB C t).toArray⟩ : ByteArray).size = q := by rw [← hq]; simp [ByteArray.size]
      have HTOK := Lib.hid (fun (w' : World) (h : Sat W (pts bc (codesO C 40) * F) w') => tokR_any C HC.out t HNT.out h)
      have HCT := Lib.hid (show S ++ (⟨(tokenB C t).toArray⟩ : ByteArray) = ⟨(textB C (L.take (k + 1))).toArray⟩ by rw [HTK.out, HSS.out]; exact cat_mk _ _)
      have HCE := Lib.hid (show S ++ (⟨#[92]⟩ : ByteArray) ++ (⟨#[69, 84, 67, 46]⟩ : ByteArray) = ⟨(textB C (L.take k) ++ etcB).toArray⟩ by
        rw [HSS.out, show (⟨#[92]⟩ : ByteArray) = ⟨([92] : List UInt8).toArray⟩ from rfl, show (⟨#[69, 84, 67, 46]⟩ : ByteArray) = ⟨([69, 84, 67, 46] : List UInt8).toArray⟩ from rfl, cat_mk, cat_mk, List.append_assoc]; rfl)
      obtain ⟨s, hs⟩ : ∃ s, (⟨(tokenB C t).toArray⟩ : ByteArray) = s := ⟨_, rfl⟩
      rw [hs] at hss HTOK HCT
      have jw : wrap64 (most - (m1 : Int)) = most - (m1 : Int) := IntWalk.wrap64_in _ (by have := HMX.out; unfold maxLen at this; omega)
      clear ht hkl hs
      go_wp2_with fail
      refine wp_region_C (Sat W (pts bc (codesO C 40) * F)) (by kernel_rfl) ?_
      refine wpC_take (i := 0) (v := ?_) rfl (by kernel_rfl) (by kernel_rfl) (by kernel_rfl) (fun _ _ _ h => h) (by rfl) ?_ ?_
      rotate_left 1
      · intro w hw; go_simp; try with_reducible rfl
      refine wpC_take (i := 1) (v := ?_) rfl (by kernel_rfl) (by kernel_rfl) (by kernel_rfl) (fun _ _ _ h => h) (by rfl) ?_ ?_
      rotate_left 1
      · intro w hw; go_simp; try with_reducible rfl
      refine wpC_take (i := 2) (v := ?_) rfl (by kernel_rfl) (by kernel_rfl) (by kernel_rfl) (fun _ _ _ h => h) (by rfl) ?_ ?_
      rotate_left 1
      · intro w hw; go_simp; try with_reducible rfl
      refine wpC_take (i := 3) (v := ?_) rfl (by kernel_rfl) (by kernel_rfl) (by kernel_rfl) (fun _ _ _ h => h) (by rfl) ?_ ?_
      rotate_left 1
      · intro w hw; (obtain ⟨a0, a1, a2⟩ := HAT.out w hw; go_simp; try with_reducible rfl)
      refine wpC_take (i := 4) (v := ?_) rfl (by kernel_rfl) (by kernel_rfl) (by kernel_rfl) (fun _ _ _ h => h) (by rfl) ?_ ?_
      rotate_left 1
      · intro w hw; (refine exec_load_row 40 (.tmp 4) ?_ bc ?_ 40 _ _ _ hw.blk Tryd.underlying40 (by rfl) HLD.out <;> rfl)
      refine wpC_one (i := 5) rfl (by kernel_rfl) (HX.out.drew) (fun K hK => ?_)
      go_simp
      refine Calls.mono (HTOK.out _ HX.out.drew) ?_
      rintro e w1 ⟨rfl, h1⟩
      have H1 := Lib.hid h1
      clear h1
      go_simp
      refine hK _ _ ?_
      clear hK K
      refine wpC_take (i := 6) (v := ?_) rfl (by kernel_rfl) (by kernel_rfl) (by kernel_rfl) (fun _ _ _ h => h) (by rfl) ?_ ?_
      rotate_left 1
      · intro w hw; go_simp; try with_reducible rfl
      refine wpC_done (by kernel_rfl) (H1.out) ?_
      by_cases hcut : most - (m1 : Int) < (q : Int)
      · have HF2 := Lib.hid (show OUT = textB C (L.take k) ++ etcB by rw [HO.out, HCD.out, if_pos hcut])
        have hcv := cvb.out w1
        clear hm1 hq
        go_wp2
        go_ret2
        exact ⟨by rw [HF2.out, ← HCE.out]; rfl, H1.out.allocD.r⟩
      · have HO2 := Lib.hid (show OUT = cutM C most (L.drop (k + 1)) (textB C (L.take (k + 1))) by rw [HO.out, HCD.out, if_neg hcut, HTK.out])
        clear hm1 hq
        go_wp2
        go_roundg (n - (k + 1))
        case measure => omega
        case rel => exact ⟨k + 1, _, by omega, rfl, by go_num, rfl, HCT.out, HO2.out, H1.out⟩
    · have hkn : n = k := by omega
      subst hkn
      have htk : L.take n = L := List.take_of_length_le (by rw [HN.out]; exact Nat.le_refl _)
      have HF2 := Lib.hid (show S = ⟨OUT.toArray⟩ by rw [HO.out, cutM_end C most L n _ (by rw [HN.out]; exact Nat.le_refl _), HSS.out])
      clear hsz htk
      go_wp2
      go_ret2
      exact ⟨by rw [HF2.out]; rfl, HX.out.r⟩

end Go.Proofs.YtlfekbmcegbhoaaDoor
