
/-
  Package logs: names, digits. Conditions: those that each theorem names.
-/
import Derived.Test.YtpcdbeicpmjooaaDoorLogB
import Derived.Deep.LoopGhost
namespace Go.Proofs.YtpcdbeicpmjooaaDoor
open Go.RowKit Go.Sp
variable {W w w' : World} {F F' : HProp}

/-- a name's bytes as text -/
def spelledB (l : List UInt8) : List UInt8 := l.flatMap shownB

theorem spelledB_len (l : List UInt8) : (spelledB l).length ≤ 4 * l.length := by
  induction l with
  | nil => simp [spelledB]
  | cons c l ih =>
    have := shownB_le c
    simp only [spelledB, List.flatMap_cons, List.length_append, List.length_cons] at ih ⊢
    omega
theorem spelledB_take (l : List UInt8) (k : Nat) (h : k < l.length) : spelledB (l.take (k + 1)) = spelledB (l.take k) ++ shownB l[k] := by
  unfold spelledB
  rw [List.take_succ_eq_append_getElem h, List.flatMap_append, List.flatMap_singleton]

theorem shown_bd {b : Nat} {l : List UInt8} (c : UInt8) (h : BdAt W F b l w) : Calls Tryd.prog 21 #[.int .u8 c.toNat] w fun e w' => e = .returned ((.string ⟨(shownB c).toArray⟩)) ∧ BdAt W F b l w' := by
  obtain ⟨p, v, h1, h2, h3⟩ := h
  exact (shown_any c h3).mono fun e w' ⟨he, hs⟩ => ⟨he, p, v, h1, h2, hs⟩

set_option maxRecDepth 100000 in
set_option maxHeartbeats 4000000 in
theorem spelled_any (l : List UInt8) (hl : l.length ≤ 100000000) (h : Sat W F w) : Calls Tryd.prog 23 #[(.string ⟨l.toArray⟩)] w fun e w' => e = .returned ((.string ⟨(spelledB l).toArray⟩)) ∧ Sat W F w' := by
  have H0 := Lib.hid (BdAt.new h)
  have hsz : (⟨l.toArray⟩ : ByteArray).size = l.length := by simp [ByteArray.size]
  have HGET := Lib.hid (fun (i : Nat) (h : i < (⟨l.toArray⟩ : ByteArray).size) => Lib.getElem_mk l i h)
  obtain ⟨n, hn⟩ : ∃ n, l.length = n := ⟨_, rfl⟩
  rw [hn] at hsz hl
  have HN := Lib.hid hn
  obtain ⟨b, hb⟩ : ∃ b, w.heap.size = b := ⟨_, rfl⟩
  rw [hb] at H0
  generalize (⟨l.toArray⟩ : ByteArray) = s at *
  clear h hn
  go_enter Tryd.func23, Tryd.ntmps23
  go_wp2_with fail
  clear hb
  go_loopg [7] n (fun g s7 wx => ∃ k : Nat, k ≤ n ∧ g = n - k ∧ s7 = .int .i64 k ∧ BdAt W F b (spelledB (l.take k)) wx)
  case atStart => exact ⟨0, by omega, rfl, rfl, H0.out⟩
  case round =>
    obtain ⟨k, hk, rfl, rfl, hx⟩ := hrel
    have HX := Lib.hid hx
    clear hx
    by_cases hlt : k < n
    · have i1 : (k : Int) < (n : Int) := by omega
      have hkl : k < l.length := by rw [HN.out]; exact hlt
      have hget : s[k]'(by omega) = l[k] := by
        have := HGET.out k (by omega)
        rw [List.getElem?_eq_getElem hkl] at this
        exact (Option.some.inj this).symm
      have HTK := Lib.hid (spelledB_take l k hkl)
      obtain ⟨c, hc⟩ : ∃ c, l[k] = c := ⟨_, rfl⟩
      rw [hc] at hget HTK
      have HSL := Lib.hid (show (spelledB (l.take k)).length + (shownB c).length ≤ 4000000000 by
        have h1 := spelledB_len (l.take k)
        have h2 := shownB_le c
        rw [List.length_take] at h1
        omega)
      clear hc hkl
      go_wp2_with fail
      refine Calls.mono (shown_bd c HX.out) ?_
      rintro e w1 ⟨rfl, h1⟩
      have H1 := Lib.hid h1
      clear h1
      go_wp2_with fail
      refine Calls.mono (write_any (shownB c) H1.out HSL.out) ?_
      rintro e w2 ⟨⟨r, rfl⟩, h2⟩
      have H2 := Lib.hid h2
      clear h2
      go_wp2
      go_roundg (n - (k + 1))
      case measure => omega
      case rel => exact ⟨k + 1, by omega, rfl, by go_num, by rw [HTK.out]; exact H2.out⟩
    · have hkn : n = k := by omega
      subst hkn
      have htk : l.take n = l := List.take_of_length_le (by rw [HN.out]; exact Nat.le_refl _)
      have hx := HX.out
      rw [htk] at hx
      have HST := Lib.hid (string_any hx (by have h1 := spelledB_len l; have h2 := HN.out; omega))
      clear hx htk
      go_wp2_with fail
      refine Calls.mono HST.out ?_
      rintro e w2 ⟨rfl, h2⟩
      go_wp2
      go_ret
      exact ⟨rfl, h2⟩

theorem small_ext : ∀ k : Nat, k < 10 → (⟨#[48, 49, 50, 51, 52, 53, 54, 55, 56, 57, 97, 98, 99, 100, 101, 102, 103, 104, 105, 106, 107, 108, 109, 110, 111, 112, 113, 114, 115, 116, 117, 118, 119, 120, 121, 122]⟩ : ByteArray).extract k (k + 1) = ⟨#[UInt8.ofNat (48 + k)]⟩ := by decide +kernel

set_option maxRecDepth 100000 in
set_option maxHeartbeats 4000000 in
theorem small_any (k : Nat) (hk : k < 10) (w : World) : Calls Tryd.prog 42 #[.int .i64 k] w fun e w' => e = .returned (.string ⟨#[UInt8.ofNat (48 + k)]⟩) ∧ w = w' := by
  have hx := small_ext k hk
  have i1 : (k : Int) < 10 := by omega
  have hsz : (⟨#[48, 49, 50, 51, 52, 53, 54, 55, 56, 57, 97, 98, 99, 100, 101, 102, 103, 104, 105, 106, 107, 108, 109, 110, 111, 112, 113, 114, 115, 116, 117, 118, 119, 120, 121, 122]⟩ : ByteArray).size = 36 := rfl
  have i2 : (k : Int) ≤ (k : Int) + 1 := by omega
  have i3 : (k : Int) + 1 ≤ 36 := by omega
  have i4 : ((k : Int) + 1).toNat = k + 1 := by omega
  have i5 : (0 : Int) ≤ (k : Int) := by omega
  go_enter Tryd.func42, Tryd.ntmps42
  go_wp2
  go_ret
  exact ⟨rfl, rfl⟩

theorem itoa_any (k : Nat) (hk : k < 10) (w : World) : Calls Tryd.prog 22 #[.int .i64 k] w fun e w' => e = .returned (.string ⟨#[UInt8.ofNat (48 + k)]⟩) ∧ w = w' := by
  have HS := Lib.hid (small_any k hk)
  generalize (⟨#[UInt8.ofNat (48 + k)]⟩ : ByteArray) = s at *
  have i1 : (k : Int) < 100 := by omega
  have i2 : (0 : Int) ≤ (k : Int) := by omega
  have h1 : ∀ w, Calls Tryd.prog 36 #[.int .i64 k, .int .i64 10] w fun e w' => e = .returned (.string s) ∧ w = w' := by
    intro w
    go_enter Tryd.func36, Tryd.ntmps36
    go_wp2_with fail
    refine Calls.mono (HS.out _) ?_
    rintro e w' ⟨rfl, rfl⟩
    go_wp2
    go_ret
    exact ⟨rfl, rfl⟩
  have H1 := Lib.hid h1
  clear h1
  have h2 : ∀ w, Calls Tryd.prog 31 #[.int .i64 k] w fun e w' => e = .returned (.string s) ∧ w = w' := by
    intro w
    go_enter Tryd.func31, Tryd.ntmps31
    go_wp2_with fail
    refine Calls.mono (H1.out _) ?_
    rintro e w' ⟨rfl, rfl⟩
    go_wp2
    go_ret
    exact ⟨rfl, rfl⟩
  have H2 := Lib.hid h2
  clear h2
  go_enter Tryd.func22, Tryd.ntmps22
  go_wp2_with fail
  refine Calls.mono (H2.out _) ?_
  rintro e w' ⟨rfl, rfl⟩
  go_wp2
  go_ret
  exact ⟨rfl, rfl⟩

end Go.Proofs.YtpcdbeicpmjooaaDoor
