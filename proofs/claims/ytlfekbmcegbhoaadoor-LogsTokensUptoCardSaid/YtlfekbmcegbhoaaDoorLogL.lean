
/-
  The reference of logs: bytes, a digit, a token as text. Conditions: those that each theorem names.
-/
import Derived.Test.YtlfekbmcegbhoaaDoorLogK
import Derived.Test.YtlfekbmcegbhoaaDoorAnyC
namespace Go.Proofs.YtlfekbmcegbhoaaDoor
open Go.RowKit Go.Sp
variable {W w w' : World} {F F' : HProp}

set_option maxRecDepth 100000 in
set_option maxHeartbeats 4000000 in
theorem bytesR_any (l : List UInt8) (hl : l.length ≤ 100000000) (h : Sat W F w) : Calls Tryd.prog 37 #[(.string ⟨l.toArray⟩)] w fun e w' => e = .returned ((.string ⟨(spelledB l).toArray⟩)) ∧ Sat W F w' := by
  have H0 := Lib.hid h
  have hsz : (⟨l.toArray⟩ : ByteArray).size = l.length := by simp [ByteArray.size]
  have HGET := Lib.hid (fun (i : Nat) (h : i < (⟨l.toArray⟩ : ByteArray).size) => Lib.getElem_mk l i h)
  obtain ⟨n, hn⟩ : ∃ n, l.length = n := ⟨_, rfl⟩
  rw [hn] at hsz hl
  have HN := Lib.hid hn
  have HE := Lib.hid (show (⟨#[]⟩ : ByteArray) = ⟨(spelledB (l.take 0)).toArray⟩ from rfl)
  generalize (⟨l.toArray⟩ : ByteArray) = s at *
  clear h hn
  go_enter Tryd.func37, Tryd.ntmps37
  go_wp2_with fail
  go_loopg [3, 4] n (fun g s3 s4 wx => ∃ (k : Nat) (S : ByteArray), k ≤ n ∧ g = n - k ∧ s4 = .int .i64 k ∧ s3 = .string S ∧ S = ⟨(spelledB (l.take k)).toArray⟩ ∧ Sat W F wx)
  case atStart => exact ⟨0, _, by omega, rfl, rfl, rfl, HE.out, H0.out⟩
  case round =>
    obtain ⟨k, S, hk, rfl, rfl, rfl, hS, hx⟩ := hrel
    have HX := Lib.hid hx
    have HSS := Lib.hid hS
    have hSz : S.size = (spelledB (l.take k)).length := by rw [hS]; simp [ByteArray.size]
    clear hx hS
    by_cases hlt : k < n
    · have i1 : (k : Int) < (n : Int) := by omega
      have hkl : k < l.length := by rw [HN.out]; exact hlt
      have hget : s[k]'(by omega) = l[k] := by
        have := HGET.out k (by omega)
        rw [List.getElem?_eq_getElem hkl] at this
        exact (Option.some.inj this).symm
      have HTK := Lib.hid (spelledB_take l k hkl)
      obtain ⟨c, hc⟩ : ∃ c, l[k] = c := ⟨_, rfl⟩
      rw [hc] at hget HTK
      have hb1 := spelledB_len (l.take k)
      have hb2 := shownB_le c
      rw [List.length_take] at hb1
      have hcz : (⟨(shownB c).toArray⟩ : ByteArray).size = (shownB c).length := by simp [ByteArray.size]
      have hb3 : S.size + (⟨(shownB c).toArray⟩ : ByteArray).size ≤ 500000000 := by omega
      have HCT := Lib.hid (show S ++ (⟨(shownB c).toArray⟩ : ByteArray) = ⟨(spelledB (l.take (k + 1))).toArray⟩ by rw [HTK.out, HSS.out]; exact cat_mk _ _)
      clear hc hkl HTK hb1 hb2 hcz hSz
      have HBY := Lib.hid (byteR_any c HX.out)
      generalize (⟨(shownB c).toArray⟩ : ByteArray) = sc at *
      go_wp2_with fail
      refine Calls.mono HBY.out ?_
      rintro e w1 ⟨rfl, h1⟩
      have H1 := Lib.hid h1
      clear h1
      go_wp2
      go_roundg (n - (k + 1))
      case measure => omega
      case rel => exact ⟨k + 1, _, by omega, rfl, by go_num, rfl, HCT.out, H1.out⟩
    · have hkn : n = k := by omega
      subst hkn
      have htk : l.take n = l := List.take_of_length_le (by rw [HN.out]; exact Nat.le_refl _)
      have hss := HSS.out
      rw [htk] at hss
      have HS2 := Lib.hid hss
      clear hss htk hSz
      go_wp2
      go_ret
      exact ⟨by rw [HS2.out]; rfl, HX.out⟩

theorem numR_one (k : Nat) (hk : k < 10) (h : Sat W F w) : Calls Tryd.prog 36 #[.int .i64 k] w fun e w' => e = .returned (.string ⟨#[UInt8.ofNat (48 + k)]⟩) ∧ Sat W F w' := by
  have HF := Lib.hid h
  have hz : (48 + (k : Int)) = ((UInt8.ofNat (48 + k)).toNat : Int) := by rw [UInt8.toNat_ofNat']; omega
  have hcv := fun w => conv_int w (UInt8.ofNat (48 + k)) (48 + (k : Int)) hz
  have i1 : (k : Int) < 10 := by omega
  generalize UInt8.ofNat (48 + k) = c at *
  clear h hz
  go_enter Tryd.func36, Tryd.ntmps36
  go_wp2
  go_ret
  exact ⟨rfl, HF.out.allocD⟩

end Go.Proofs.YtlfekbmcegbhoaaDoor
