import Derived.Test.YticljfpippbkkaaDoorMNDW
import Derived.Test.YticljfpippbkkaaDoorMLA
import Derived.Lib.LaidTab
/-
  strconv.Itoa below 100. Conditions: those that each theorem names.
-/
namespace Go.Proofs.YticljfpippbkkaaDoor
open Go.RowKit Go.Sp
variable {W w w' : World} {F F' : HProp}

theorem small1_ext : ∀ k : Nat, k < 10 → (⟨#[48, 49, 50, 51, 52, 53, 54, 55, 56, 57, 97, 98, 99, 100, 101, 102, 103, 104, 105, 106, 107, 108, 109, 110, 111, 112, 113, 114, 115, 116, 117, 118, 119, 120, 121, 122]⟩ : ByteArray).extract k (k + 1) = ⟨(decB k).toArray⟩ := by decide +kernel
set_option maxRecDepth 100000 in
theorem small1_any (k : Nat) (hk : k < 10) (w : World) : Calls Tryd.prog 58 #[.int .i64 k] w fun e w' => e = .returned ((.string ⟨(decB k).toArray⟩)) ∧ w = w' := by
  have hx := small1_ext k hk
  have i1 : (k : Int) < 10 := by omega
  have hsz : (⟨#[48, 49, 50, 51, 52, 53, 54, 55, 56, 57, 97, 98, 99, 100, 101, 102, 103, 104, 105, 106, 107, 108, 109, 110, 111, 112, 113, 114, 115, 116, 117, 118, 119, 120, 121, 122]⟩ : ByteArray).size = 36 := rfl
  have i2 : (k : Int) ≤ (k : Int) + 1 := by omega
  have i3 : (k : Int) + 1 ≤ 36 := by omega
  have i4 : ((k : Int) + 1).toNat = k + 1 := by omega
  have i5 : (0 : Int) ≤ (k : Int) := by omega
  generalize decB k = D at *
  go_enter Tryd.func58, Tryd.ntmps58
  go_wp2
  go_ret
  exact ⟨rfl, rfl⟩
/-- the digits of 00 to 99, as the program's form writes them -/
abbrev smallsB : ByteArray := (⟨((List.append [48, 48, 48, 49, 48, 50, 48, 51, 48, 52, 48, 53, 48, 54, 48, 55, 48, 56, 48, 57, 49, 48, 49, 49, 49, 50, 49, 51, 49, 52, 49, 53, 49, 54, 49, 55, 49, 56, 49, 57, 50, 48, 50, 49, 50, 50, 50, 51, 50, 52] [50, 53, 50, 54, 50, 55, 50, 56, 50, 57, 51, 48, 51, 49, 51, 50, 51, 51, 51, 52, 51, 53, 51, 54, 51, 55, 51, 56, 51, 57, 52, 48, 52, 49, 52, 50, 52, 51, 52, 52, 52, 53, 52, 54, 52, 55, 52, 56, 52, 57]).append (List.append [53, 48, 53, 49, 53, 50, 53, 51, 53, 52, 53, 53, 53, 54, 53, 55, 53, 56, 53, 57, 54, 48, 54, 49, 54, 50, 54, 51, 54, 52, 54, 53, 54, 54, 54, 55, 54, 56, 54, 57, 55, 48, 55, 49, 55, 50, 55, 51, 55, 52] [55, 53, 55, 54, 55, 55, 55, 56, 55, 57, 56, 48, 56, 49, 56, 50, 56, 51, 56, 52, 56, 53, 56, 54, 56, 55, 56, 56, 56, 57, 57, 48, 57, 49, 57, 50, 57, 51, 57, 52, 57, 53, 57, 54, 57, 55, 57, 56, 57, 57])).toArray⟩ : ByteArray)
theorem small2_ext : ∀ k : Nat, k < 100 → 10 ≤ k → smallsB.extract (k * 2) (k * 2 + 2) = ⟨(decB k).toArray⟩ := by decide +kernel
set_option maxRecDepth 100000 in
theorem small2_any (k : Nat) (hk : 10 ≤ k) (hk2 : k < 100) (w : World) : Calls Tryd.prog 58 #[.int .i64 k] w fun e w' => e = .returned ((.string ⟨(decB k).toArray⟩)) ∧ w = w' := by
  have i1 : ¬ (k : Int) < 10 := by omega
  have hx := small2_ext k hk2 hk
  have hsz : smallsB.size = 200 := by decide +kernel
  have i2 : (k : Int) * 2 ≤ (k : Int) * 2 + 2 := by omega
  have i3 : (k : Int) * 2 + 2 ≤ 200 := by omega
  have i4 : ((k : Int) * 2 + 2).toNat = k * 2 + 2 := by omega
  have i5 : ((k : Int) * 2).toNat = k * 2 := by omega
  have i6 : (0 : Int) ≤ (k : Int) * 2 := by omega
  generalize decB k = D at *
  go_enter Tryd.func58, Tryd.ntmps58
  go_upto_region 3 with fail
  unfold smallsB at hx hsz
  generalize (⟨((List.append [48, 48, 48, 49, 48, 50, 48, 51, 48, 52, 48, 53, 48, 54, 48, 55, 48, 56, 48, 57, 49, 48, 49, 49, 49, 50, 49, 51, 49, 52, 49, 53, 49, 54, 49, 55, 49, 56, 49, 57, 50, 48, 50, 49, 50, 50, 50, 51, 50, 52] [50, 53, 50, 54, 50, 55, 50, 56, 50, 57, 51, 48, 51, 49, 51, 50, 51, 51, 51, 52, 51, 53, 51, 54, 51, 55, 51, 56, 51, 57, 52, 48, 52, 49, 52, 50, 52, 51, 52, 52, 52, 53, 52, 54, 52, 55, 52, 56, 52, 57]).append (List.append [53, 48, 53, 49, 53, 50, 53, 51, 53, 52, 53, 53, 53, 54, 53, 55, 53, 56, 53, 57, 54, 48, 54, 49, 54, 50, 54, 51, 54, 52, 54, 53, 54, 54, 54, 55, 54, 56, 54, 57, 55, 48, 55, 49, 55, 50, 55, 51, 55, 52] [55, 53, 55, 54, 55, 55, 55, 56, 55, 57, 56, 48, 56, 49, 56, 50, 56, 51, 56, 52, 56, 53, 56, 54, 56, 55, 56, 56, 56, 57, 57, 48, 57, 49, 57, 50, 57, 51, 57, 52, 57, 53, 57, 54, 57, 55, 57, 56, 57, 57])).toArray⟩ : ByteArray) = hs at *
  go_wp2
  go_ret
  exact ⟨rfl, rfl⟩
end Go.Proofs.YticljfpippbkkaaDoor

/-
  bits.Len64 and the like, for strconv.Itoa. Conditions: those that each theorem names.
-/
namespace Go.Proofs.YticljfpippbkkaaDoor
open Go.RowKit Go.Sp
variable {W w w' : World} {F F' : HProp}

abbrev len8B : ByteArray := (⟨((List.append [0, 1, 2, 2, 3, 3, 3, 3, 4, 4, 4, 4, 4, 4, 4, 4, 5, 5, 5, 5, 5, 5, 5, 5, 5, 5, 5, 5, 5, 5, 5, 5, 6, 6, 6, 6, 6, 6, 6, 6, 6, 6, 6, 6, 6, 6, 6, 6, 6, 6, 6, 6, 6, 6, 6, 6, 6, 6, 6, 6, 6, 6, 6, 6] [7, 7, 7, 7, 7, 7, 7, 7, 7, 7, 7, 7, 7, 7, 7, 7, 7, 7, 7, 7, 7, 7, 7, 7, 7, 7, 7, 7, 7, 7, 7, 7, 7, 7, 7, 7, 7, 7, 7, 7, 7, 7, 7, 7, 7, 7, 7, 7, 7, 7, 7, 7, 7, 7, 7, 7, 7, 7, 7, 7, 7, 7, 7, 7]).append (List.append [8, 8, 8, 8, 8, 8, 8, 8, 8, 8, 8, 8, 8, 8, 8, 8, 8, 8, 8, 8, 8, 8, 8, 8, 8, 8, 8, 8, 8, 8, 8, 8, 8, 8, 8, 8, 8, 8, 8, 8, 8, 8, 8, 8, 8, 8, 8, 8, 8, 8, 8, 8, 8, 8, 8, 8, 8, 8, 8, 8, 8, 8, 8, 8] [8, 8, 8, 8, 8, 8, 8, 8, 8, 8, 8, 8, 8, 8, 8, 8, 8, 8, 8, 8, 8, 8, 8, 8, 8, 8, 8, 8, 8, 8, 8, 8, 8, 8, 8, 8, 8, 8, 8, 8, 8, 8, 8, 8, 8, 8, 8, 8, 8, 8, 8, 8, 8, 8, 8, 8, 8, 8, 8, 8, 8, 8, 8, 8])).toArray⟩ : ByteArray)
theorem len8_sz : len8B.size = 256 := by decide +kernel
def len8 (v : Nat) : Nat := if v = 0 then 0 else Nat.log2 v + 1
theorem len8_get : ∀ v (h : v < 256), (len8B[v]'(by rw [len8_sz]; exact h)).toNat = len8 v := by decide +kernel
def lenU (u : Nat) : Nat := if 256 ≤ u then 8 + len8 (u / 256) else len8 u
theorem len8_le {v : Nat} (h : v < 256) : len8 v ≤ 8 := by
  have : ∀ v : Nat, v < 256 → len8 v ≤ 8 := by decide +kernel
  exact this v h
set_option maxRecDepth 100000 in
theorem len64_any (u : Nat) (h : u < 65536) (w : World) : Calls Tryd.prog 66 #[.int .u64 u] w fun e w' => e = .returned (.int .i64 (lenU u)) ∧ w = w' := by
  have i1 : ¬ (4294967296 : Int) ≤ (u : Int) := by omega
  have i2 : ¬ (65536 : Int) ≤ (u : Int) := by omega
  by_cases h2 : 256 ≤ u
  · have i3 : (256 : Int) ≤ (u : Int) := by omega
    obtain ⟨v, hv⟩ : ∃ v, u / 256 = v := ⟨_, rfl⟩
    have k1 : (u : Int) / 256 = v := by omega
    have k2 : v < 256 := by omega
    have e0 : lenU u = 8 + len8 v := by rw [lenU, if_pos h2, hv]
    rw [e0]
    obtain ⟨c, hc⟩ : ∃ c, len8B[v]'(by rw [len8_sz]; omega) = c := ⟨_, rfl⟩
    have hcn : (c.toNat : Int) = (len8 v : Nat) := by rw [← hc]; exact_mod_cast len8_get v (by omega)
    have hl8 := len8_le (v := v) (by omega)
    have hsz := len8_sz
    have hgv : ∀ h : v < len8B.size, len8B[v]'h = c := fun _ => hc
    clear hc
    unfold len8B at hgv hsz
    clear h2 hv e0
    go_enter Tryd.func66, Tryd.ntmps66
    go_upto_region 10 with fail
    generalize (⟨((List.append [0, 1, 2, 2, 3, 3, 3, 3, 4, 4, 4, 4, 4, 4, 4, 4, 5, 5, 5, 5, 5, 5, 5, 5, 5, 5, 5, 5, 5, 5, 5, 5, 6, 6, 6, 6, 6, 6, 6, 6, 6, 6, 6, 6, 6, 6, 6, 6, 6, 6, 6, 6, 6, 6, 6, 6, 6, 6, 6, 6, 6, 6, 6, 6] [7, 7, 7, 7, 7, 7, 7, 7, 7, 7, 7, 7, 7, 7, 7, 7, 7, 7, 7, 7, 7, 7, 7, 7, 7, 7, 7, 7, 7, 7, 7, 7, 7, 7, 7, 7, 7, 7, 7, 7, 7, 7, 7, 7, 7, 7, 7, 7, 7, 7, 7, 7, 7, 7, 7, 7, 7, 7, 7, 7, 7, 7, 7, 7]).append (List.append [8, 8, 8, 8, 8, 8, 8, 8, 8, 8, 8, 8, 8, 8, 8, 8, 8, 8, 8, 8, 8, 8, 8, 8, 8, 8, 8, 8, 8, 8, 8, 8, 8, 8, 8, 8, 8, 8, 8, 8, 8, 8, 8, 8, 8, 8, 8, 8, 8, 8, 8, 8, 8, 8, 8, 8, 8, 8, 8, 8, 8, 8, 8, 8] [8, 8, 8, 8, 8, 8, 8, 8, 8, 8, 8, 8, 8, 8, 8, 8, 8, 8, 8, 8, 8, 8, 8, 8, 8, 8, 8, 8, 8, 8, 8, 8, 8, 8, 8, 8, 8, 8, 8, 8, 8, 8, 8, 8, 8, 8, 8, 8, 8, 8, 8, 8, 8, 8, 8, 8, 8, 8, 8, 8, 8, 8, 8, 8])).toArray⟩ : ByteArray) = hs at *
    have hgv2 := hgv (by omega)
    go_wp2
    go_ret
    exact ⟨by go_num, rfl⟩
  · have i3 : ¬ (256 : Int) ≤ (u : Int) := by omega
    have k2 : u < 256 := by omega
    have e0 : lenU u = len8 u := by rw [lenU, if_neg h2]
    rw [e0]
    obtain ⟨c, hc⟩ : ∃ c, len8B[u]'(by rw [len8_sz]; omega) = c := ⟨_, rfl⟩
    have hcn : (c.toNat : Int) = (len8 u : Nat) := by rw [← hc]; exact_mod_cast len8_get u (by omega)
    have hl8 := len8_le (v := u) (by omega)
    have hsz := len8_sz
    have hgv : ∀ h : u < len8B.size, len8B[u]'h = c := fun _ => hc
    clear hc
    unfold len8B at hgv hsz
    clear h2 e0
    go_enter Tryd.func66, Tryd.ntmps66
    go_upto_region 10 with fail
    generalize (⟨((List.append [0, 1, 2, 2, 3, 3, 3, 3, 4, 4, 4, 4, 4, 4, 4, 4, 5, 5, 5, 5, 5, 5, 5, 5, 5, 5, 5, 5, 5, 5, 5, 5, 6, 6, 6, 6, 6, 6, 6, 6, 6, 6, 6, 6, 6, 6, 6, 6, 6, 6, 6, 6, 6, 6, 6, 6, 6, 6, 6, 6, 6, 6, 6, 6] [7, 7, 7, 7, 7, 7, 7, 7, 7, 7, 7, 7, 7, 7, 7, 7, 7, 7, 7, 7, 7, 7, 7, 7, 7, 7, 7, 7, 7, 7, 7, 7, 7, 7, 7, 7, 7, 7, 7, 7, 7, 7, 7, 7, 7, 7, 7, 7, 7, 7, 7, 7, 7, 7, 7, 7, 7, 7, 7, 7, 7, 7, 7, 7]).append (List.append [8, 8, 8, 8, 8, 8, 8, 8, 8, 8, 8, 8, 8, 8, 8, 8, 8, 8, 8, 8, 8, 8, 8, 8, 8, 8, 8, 8, 8, 8, 8, 8, 8, 8, 8, 8, 8, 8, 8, 8, 8, 8, 8, 8, 8, 8, 8, 8, 8, 8, 8, 8, 8, 8, 8, 8, 8, 8, 8, 8, 8, 8, 8, 8] [8, 8, 8, 8, 8, 8, 8, 8, 8, 8, 8, 8, 8, 8, 8, 8, 8, 8, 8, 8, 8, 8, 8, 8, 8, 8, 8, 8, 8, 8, 8, 8, 8, 8, 8, 8, 8, 8, 8, 8, 8, 8, 8, 8, 8, 8, 8, 8, 8, 8, 8, 8, 8, 8, 8, 8, 8, 8, 8, 8, 8, 8, 8, 8])).toArray⟩ : ByteArray) = hs at *
    have hgv2 := hgv (by omega)
    go_wp2
    go_ret
    exact ⟨by go_num, rfl⟩
theorem log10_any (l : Nat) (h : l ≤ 64) (w : World) : Calls Tryd.prog 65 #[.int .i64 l] w fun e w' => e = .returned (.int .i64 ((l * 78913 / 262144 : Nat) : Int)) ∧ w = w' := by
  obtain ⟨v, hv⟩ : ∃ v, l * 78913 / 262144 = v := ⟨_, rfl⟩
  have k1 : (l : Int) * 78913 / 262144 = v := by omega
  have k2 : v ≤ 100 := by omega
  rw [hv]
  clear hv
  go_enter Tryd.func65, Tryd.ntmps65
  go_wp2
  go_ret
  exact ⟨by go_num, rfl⟩
theorem bool2_any (b : Bool) (w : World) : Calls Tryd.prog 67 #[.bool b] w fun e w' => e = .returned (.int .i64 (if b = true then 1 else 0)) ∧ w = w' := by
  cases b
  · go_enter Tryd.func67, Tryd.ntmps67
    go_wp2
    go_ret
    exact ⟨rfl, rfl⟩
  · go_enter Tryd.func67, Tryd.ntmps67
    go_wp2
    go_ret
    exact ⟨rfl, rfl⟩
/-- how many digits; plain -/
def pow10 (t : Nat) : Nat := if t = 0 then 1 else 10 ^ t
def ndig (u : Nat) : Nat := lenU u * 78913 / 262144 + (if pow10 (lenU u * 78913 / 262144) ≤ u then 1 else 0)
end Go.Proofs.YticljfpippbkkaaDoor

/-
  strconv's formatBase10 for three to five digits. Conditions: those that each theorem names.
-/
namespace Go.Proofs.YticljfpippbkkaaDoor
open Go.RowKit Go.Sp
variable {W w w' : World} {F F' : HProp}

theorem smalls_sz : smallsB.size = 200 := by decide +kernel
theorem smalls_lo : ∀ r : Nat, r < 100 → smallsB[r * 2]! = UInt8.ofNat (48 + r / 10) ∧ smallsB[r * 2 + 1]! = UInt8.ofNat (48 + r % 10) := by decide +kernel
theorem smalls_at (r : Nat) (h : r < 100) : (∀ h', (smallsB[r * 2]'h') = chD (r / 10)) ∧ (∀ h', (smallsB[r * 2 + 1]'h') = chD (r % 10)) := by
  obtain ⟨h1, h2⟩ := smalls_lo r h
  exact ⟨fun h' => by rw [getElem!_pos smallsB (r * 2) h'] at h1; exact h1, fun h' => by rw [getElem!_pos smallsB (r * 2 + 1) h'] at h2; exact h2⟩

set_option maxRecDepth 100000 in
set_option maxHeartbeats 8000000 in
theorem fb3_any (b : Nat) (ty : TypeId) (cs : Array Value) (hcs : cs.size = 24) (d r : Nat) (hd : d < 10) (hr : r < 100) (h : Sat W (pts b (.cells cs ty (0, 0)) * F) w) :
    Calls Tryd.prog 60 #[.slice (some ⟨b, 1, none⟩) 3 23, .int .u64 ((100 * d + r : Nat) : Int)] w fun e w' => (∃ v, e = .returned v) ∧
      Sat W (pts b (.cells (((cs.setIfInBounds 3 (.int .u8 (chD (r % 10)).toNat)).setIfInBounds 2 (.int .u8 (chD (r / 10)).toNat)).setIfInBounds 1 (.int .u8 (chD d).toNat)) ty (0, 0)) * F) w' := by
  have H := Lib.hid h
  obtain ⟨u, hu⟩ : ∃ u, 100 * d + r = u := ⟨_, rfl⟩
  have k1 : (u : Int) % 100 = r := by omega
  have k2 : (u : Int) / 100 = d := by omega
  have k3 : u < 1000 := by omega
  rw [hu]
  have hsz := smalls_sz
  have v0 : IntKind.i64.wrap 0 = 0 := rfl
  have v1 : IntKind.i64.wrap 1 = 1 := rfl
  have v2 : IntKind.i64.wrap 2 = 2 := rfl
  have v3 : IntKind.i64.wrap 3 = 3 := rfl
  have v4 : IntKind.i64.wrap 4 = 4 := rfl
  obtain ⟨xa, xb⟩ := smalls_at r (by omega)
  have x1 : (0 : Int) ≤ (r : Int) * 2 := by omega
  have x2 : (r : Int) * 2 < 200 := by omega
  have x3 : (0 : Int) ≤ (r : Int) * 2 + 1 := by omega
  have x4 : (r : Int) * 2 + 1 < 200 := by omega
  have x5 : ((r : Int) * 2).toNat = r * 2 := by omega
  have x6 : ((r : Int) * 2 + 1).toNat = r * 2 + 1 := by omega
  have x7 : r * 2 < 200 := by omega
  have x8 : r * 2 + 1 < 200 := by omega
  have x9 : IntKind.u32.wrap ((r : Int) * 2 + 1) = (r : Int) * 2 + 1 := by show ((r : Int) * 2 + 1) % 4294967296 = _; omega
  clear h hu
  unfold smallsB at xa xb hsz
  go_enter Tryd.func60, Tryd.ntmps60
  generalize (⟨((List.append [48, 48, 48, 49, 48, 50, 48, 51, 48, 52, 48, 53, 48, 54, 48, 55, 48, 56, 48, 57, 49, 48, 49, 49, 49, 50, 49, 51, 49, 52, 49, 53, 49, 54, 49, 55, 49, 56, 49, 57, 50, 48, 50, 49, 50, 50, 50, 51, 50, 52] [50, 53, 50, 54, 50, 55, 50, 56, 50, 57, 51, 48, 51, 49, 51, 50, 51, 51, 51, 52, 51, 53, 51, 54, 51, 55, 51, 56, 51, 57, 52, 48, 52, 49, 52, 50, 52, 51, 52, 52, 52, 53, 52, 54, 52, 55, 52, 56, 52, 57]).append (List.append [53, 48, 53, 49, 53, 50, 53, 51, 53, 52, 53, 53, 53, 54, 53, 55, 53, 56, 53, 57, 54, 48, 54, 49, 54, 50, 54, 51, 54, 52, 54, 53, 54, 54, 54, 55, 54, 56, 54, 57, 55, 48, 55, 49, 55, 50, 55, 51, 55, 52] [55, 53, 55, 54, 55, 55, 55, 56, 55, 57, 56, 48, 56, 49, 56, 50, 56, 51, 56, 52, 56, 53, 56, 54, 56, 55, 56, 56, 56, 57, 57, 48, 57, 49, 57, 50, 57, 51, 57, 52, 57, 53, 57, 54, 57, 55, 57, 56, 57, 57])).toArray⟩ : ByteArray) = hs at *
  go_wp2_with fail
  have H0 := Lib.hid H.out
  go_loopg [1, 4] 1 (fun gg s1 s4 wx => s1 = .int .u64 (u : Int) ∧ s4 = .int .i64 3 ∧ wx = w)
  case atStart => exact ⟨rfl, rfl, rfl⟩
  obtain ⟨rfl, rfl, rfl⟩ := hrel
  clear H0
  go_upto_region 23 with fail
  have h1 := H.out.drew
  obtain ⟨pv, hpv⟩ : ∃ W9, wr.drew = W9 := ⟨_, rfl⟩
  rw [hpv] at h1
  have c1 := h1.cell (i := 3) (Array.getElem?_eq_getElem (by (try simp only [Array.size_setIfInBounds]); omega))
  have f1 := h1.free (i := 3)
  have h2 := h1.set (i := 3) (v := .int .u8 (chD (r % 10)).toNat)
  have c2 := h2.cell (i := 2) (Array.getElem?_eq_getElem (by (try simp only [Array.size_setIfInBounds]); omega))
  have f2 := h2.free (i := 2)
  have h3 := h2.set (i := 2) (v := .int .u8 (chD (r / 10)).toNat)
  have H1 := Lib.hid h3
  have lb := h1.lt
  obtain ⟨pw, hpw⟩ : ∃ W9, pv.setCell ⟨b, 3, none⟩ (.int .u8 (chD (r % 10)).toNat) = W9 := ⟨_, rfl⟩
  rw [hpw] at H1 c2 f2
  clear h1 h2 h3
  refine wp_region_C (fun _ => True) (by kernel_rfl) ?_
  refine wpC_take (i := 0) (v := ?_) rfl (by kernel_rfl) (by kernel_rfl) (by kernel_rfl) (fun _ _ _ h => h) (by rfl) ?_ ?_
  rotate_left 1
  · intro w hw; go_simp; try with_reducible rfl
  refine wpC_take (i := 1) (v := ?_) rfl (by kernel_rfl) (by kernel_rfl) (by kernel_rfl) (fun _ _ _ h => h) (by rfl) ?_ ?_
  rotate_left 1
  · intro w hw; go_simp; try with_reducible rfl
  refine wpC_take (i := 2) (v := ?_) rfl (by kernel_rfl) (by kernel_rfl) (by kernel_rfl) (fun _ _ _ h => h) (by rfl) ?_ ?_
  rotate_left 1
  · intro w hw; go_simp; try with_reducible rfl
  refine wpC_take (i := 3) (v := ?_) rfl (by kernel_rfl) (by kernel_rfl) (by kernel_rfl) (fun _ _ _ h => h) (by rfl) ?_ ?_
  rotate_left 1
  · intro w hw; go_simp; try with_reducible rfl
  refine wpC_take (i := 4) (v := ?_) rfl (by kernel_rfl) (by kernel_rfl) (by kernel_rfl) (fun _ _ _ h => h) (by rfl) ?_ ?_
  rotate_left 1
  · intro w hw; go_simp; try with_reducible rfl
  refine wpC_take (i := 5) (v := ?_) rfl (by kernel_rfl) (by kernel_rfl) (by kernel_rfl) (fun _ _ _ h => h) (by rfl) ?_ ?_
  rotate_left 1
  · intro w hw; go_simp; try with_reducible rfl
  refine wpC_take (i := 6) (v := ?_) rfl (by kernel_rfl) (by kernel_rfl) (by kernel_rfl) (fun _ _ _ h => h) (by rfl) ?_ ?_
  rotate_left 1
  · intro w hw; go_simp; try with_reducible rfl
  refine wpC_take (i := 7) (v := ?_) rfl (by kernel_rfl) (by kernel_rfl) (by kernel_rfl) (fun _ _ _ h => h) (by rfl) ?_ ?_
  rotate_left 1
  · intro w hw; go_simp; try with_reducible rfl
  refine wpC_take (i := 8) (v := ?_) rfl (by kernel_rfl) (by kernel_rfl) (by kernel_rfl) (fun _ _ _ h => h) (by rfl) ?_ ?_
  rotate_left 1
  · intro w hw; go_simp; try with_reducible rfl
  refine wpC_take (i := 9) (v := ?_) rfl (by kernel_rfl) (by kernel_rfl) (by kernel_rfl) (fun _ _ _ h => h) (by rfl) ?_ ?_
  rotate_left 1
  · intro w hw; go_simp; try with_reducible rfl
  refine wpC_take (i := 10) (v := ?_) rfl (by kernel_rfl) (by kernel_rfl) (by kernel_rfl) (fun _ _ _ h => h) (by rfl) ?_ ?_
  rotate_left 1
  · intro w hw; go_simp; try with_reducible rfl
  refine wpC_take (i := 11) (v := ?_) rfl (by kernel_rfl) (by kernel_rfl) (by kernel_rfl) (fun _ _ _ h => h) (by rfl) ?_ ?_
  rotate_left 1
  · intro w hw; go_simp; try with_reducible rfl
  rw [hpv]
  refine wpC_one (i := 12) rfl (by kernel_rfl) (trivial) (fun K hK => ?_)
  go_simp
  (try rw [hpw])
  refine hK _ _ ?_
  clear hK K
  refine wpC_take (i := 13) (v := ?_) rfl (by kernel_rfl) (by kernel_rfl) (by kernel_rfl) (fun _ _ _ h => h) (by rfl) ?_ ?_
  rotate_left 1
  · intro w hw; go_simp; try with_reducible rfl
  refine wpC_one (i := 14) rfl (by kernel_rfl) (trivial) (fun K hK => ?_)
  go_simp
  obtain ⟨pz, hpz⟩ : ∃ W9, pw.setCell ⟨b, 2, none⟩ (.int .u8 (chD (r / 10)).toNat) = W9 := ⟨_, rfl⟩
  rw [hpz] at H1
  (try rw [hpz])
  refine hK _ _ ?_
  clear hK K c1 f1 c2 f2 lb hpv hpw hpz
  refine wpC_done (by kernel_rfl) trivial ?_
  have c1 := H1.out.cell (i := 1) (Array.getElem?_eq_getElem (by simp only [Array.size_setIfInBounds]; omega))
  have f1 := H1.out.free (i := 1)
  have lb := H1.out.lt
  have H2 := Lib.hid (H1.out.set (i := 1) (v := .int .u8 (chD d).toNat))
  have hcd := chD_toNat (d := d) (by omega)
  have q1 : ((chD d).toNat : Int) = 48 + d := by omega
  rw [q1] at H2
  have q2 : (48 + (d : Int)) % 256 = 48 + d := by omega
  have q3 : (48 + (d : Int)) % 4294967296 = 48 + d := by omega
  clear hcd H1
  go_wp2
  go_end0
  exact ⟨⟨_, rfl⟩, by rw [q1]; exact H2.out⟩
set_option maxRecDepth 100000 in
set_option maxHeartbeats 8000000 in
theorem fb4_any (b : Nat) (ty : TypeId) (cs : Array Value) (hcs : cs.size = 24) (q r : Nat) (hq : q < 100) (hr : r < 100) (h : Sat W (pts b (.cells cs ty (0, 0)) * F) w) :
    Calls Tryd.prog 60 #[.slice (some ⟨b, 1, none⟩) 4 23, .int .u64 ((100 * q + r : Nat) : Int)] w fun e w' => (∃ v, e = .returned v) ∧
      Sat W (pts b (.cells ((((cs.setIfInBounds 4 (.int .u8 (chD (r % 10)).toNat)).setIfInBounds 3 (.int .u8 (chD (r / 10)).toNat)).setIfInBounds 2 (.int .u8 (chD (q % 10)).toNat)).setIfInBounds 1 (.int .u8 (chD (q / 10)).toNat)) ty (0, 0)) * F) w' := by
  have H := Lib.hid h
  obtain ⟨u, hu⟩ : ∃ u, 100 * q + r = u := ⟨_, rfl⟩
  have k1 : (u : Int) % 10000 = u := by omega
  have k2 : (u : Int) / 10000 = 0 := by omega
  have k3 : u < 10000 := by omega
  have k4 : (u : Int) % 100 = r := by omega
  have k5 : (u : Int) / 100 = q := by omega
  have k6 : (q : Int) % 100 = q := by omega
  rw [hu]
  have hsz := smalls_sz
  have v0 : IntKind.i64.wrap 0 = 0 := rfl
  have v1 : IntKind.i64.wrap 1 = 1 := rfl
  have v2 : IntKind.i64.wrap 2 = 2 := rfl
  have v3 : IntKind.i64.wrap 3 = 3 := rfl
  have v4 : IntKind.i64.wrap 4 = 4 := rfl
  clear h hu
  obtain ⟨xa, xb⟩ := smalls_at r (by omega)
  have x1 : (0 : Int) ≤ (r : Int) * 2 := by omega
  have x2 : (r : Int) * 2 < 200 := by omega
  have x3 : (0 : Int) ≤ (r : Int) * 2 + 1 := by omega
  have x4 : (r : Int) * 2 + 1 < 200 := by omega
  have x5 : ((r : Int) * 2).toNat = r * 2 := by omega
  have x6 : ((r : Int) * 2 + 1).toNat = r * 2 + 1 := by omega
  have x7 : r * 2 < 200 := by omega
  have x8 : r * 2 + 1 < 200 := by omega
  have x9 : IntKind.u32.wrap ((r : Int) * 2 + 1) = (r : Int) * 2 + 1 := by show ((r : Int) * 2 + 1) % 4294967296 = _; omega
  obtain ⟨ya, yb⟩ := smalls_at q (by omega)
  have y1 : (0 : Int) ≤ (q : Int) * 2 := by omega
  have y2 : (q : Int) * 2 < 200 := by omega
  have y3 : (0 : Int) ≤ (q : Int) * 2 + 1 := by omega
  have y4 : (q : Int) * 2 + 1 < 200 := by omega
  have y5 : ((q : Int) * 2).toNat = q * 2 := by omega
  have y6 : ((q : Int) * 2 + 1).toNat = q * 2 + 1 := by omega
  have y7 : q * 2 < 200 := by omega
  have y8 : q * 2 + 1 < 200 := by omega
  have y9 : IntKind.u32.wrap ((q : Int) * 2 + 1) = (q : Int) * 2 + 1 := by show ((q : Int) * 2 + 1) % 4294967296 = _; omega
  unfold smallsB at xa xb ya yb hsz
  go_enter Tryd.func60, Tryd.ntmps60
  generalize (⟨((List.append [48, 48, 48, 49, 48, 50, 48, 51, 48, 52, 48, 53, 48, 54, 48, 55, 48, 56, 48, 57, 49, 48, 49, 49, 49, 50, 49, 51, 49, 52, 49, 53, 49, 54, 49, 55, 49, 56, 49, 57, 50, 48, 50, 49, 50, 50, 50, 51, 50, 52] [50, 53, 50, 54, 50, 55, 50, 56, 50, 57, 51, 48, 51, 49, 51, 50, 51, 51, 51, 52, 51, 53, 51, 54, 51, 55, 51, 56, 51, 57, 52, 48, 52, 49, 52, 50, 52, 51, 52, 52, 52, 53, 52, 54, 52, 55, 52, 56, 52, 57]).append (List.append [53, 48, 53, 49, 53, 50, 53, 51, 53, 52, 53, 53, 53, 54, 53, 55, 53, 56, 53, 57, 54, 48, 54, 49, 54, 50, 54, 51, 54, 52, 54, 53, 54, 54, 54, 55, 54, 56, 54, 57, 55, 48, 55, 49, 55, 50, 55, 51, 55, 52] [55, 53, 55, 54, 55, 55, 55, 56, 55, 57, 56, 48, 56, 49, 56, 50, 56, 51, 56, 52, 56, 53, 56, 54, 56, 55, 56, 56, 56, 57, 57, 48, 57, 49, 57, 50, 57, 51, 57, 52, 57, 53, 57, 54, 57, 55, 57, 56, 57, 57])).toArray⟩ : ByteArray) = hs at *
  go_wp2_with fail
  have H0 := Lib.hid H.out
  go_loopg [1, 4] 1 (fun gg s1 s4 wx => s1 = .int .u64 (u : Int) ∧ s4 = .int .i64 4 ∧ wx = w)
  case atStart => exact ⟨rfl, rfl, rfl⟩
  obtain ⟨rfl, rfl, rfl⟩ := hrel
  clear H0
  go_upto_region 17 with fail
  have h1 := H.out.drew
  obtain ⟨pv, hpv⟩ : ∃ W9, wr.drew = W9 := ⟨_, rfl⟩
  rw [hpv] at h1
  have c1 := h1.cell (i := 4) (Array.getElem?_eq_getElem (by (try simp only [Array.size_setIfInBounds]); omega))
  have f1 := h1.free (i := 4)
  have h2 := h1.set (i := 4) (v := .int .u8 (chD (r % 10)).toNat)
  have c2 := h2.cell (i := 3) (Array.getElem?_eq_getElem (by (try simp only [Array.size_setIfInBounds]); omega))
  have f2 := h2.free (i := 3)
  have h3 := h2.set (i := 3) (v := .int .u8 (chD (r / 10)).toNat)
  have H1 := Lib.hid h3
  have lb := h1.lt
  obtain ⟨pw, hpw⟩ : ∃ W9, pv.setCell ⟨b, 4, none⟩ (.int .u8 (chD (r % 10)).toNat) = W9 := ⟨_, rfl⟩
  rw [hpw] at H1 c2 f2
  clear h1 h2 h3
  refine wp_region_C (fun _ => True) (by kernel_rfl) ?_
  refine wpC_take (i := 0) (v := ?_) rfl (by kernel_rfl) (by kernel_rfl) (by kernel_rfl) (fun _ _ _ h => h) (by rfl) ?_ ?_
  rotate_left 1
  · intro w hw; go_simp; try with_reducible rfl
  refine wpC_take (i := 1) (v := ?_) rfl (by kernel_rfl) (by kernel_rfl) (by kernel_rfl) (fun _ _ _ h => h) (by rfl) ?_ ?_
  rotate_left 1
  · intro w hw; go_simp; try with_reducible rfl
  refine wpC_take (i := 2) (v := ?_) rfl (by kernel_rfl) (by kernel_rfl) (by kernel_rfl) (fun _ _ _ h => h) (by rfl) ?_ ?_
  rotate_left 1
  · intro w hw; go_simp; try with_reducible rfl
  refine wpC_take (i := 3) (v := ?_) rfl (by kernel_rfl) (by kernel_rfl) (by kernel_rfl) (fun _ _ _ h => h) (by rfl) ?_ ?_
  rotate_left 1
  · intro w hw; go_simp; try with_reducible rfl
  refine wpC_take (i := 4) (v := ?_) rfl (by kernel_rfl) (by kernel_rfl) (by kernel_rfl) (fun _ _ _ h => h) (by rfl) ?_ ?_
  rotate_left 1
  · intro w hw; go_simp; try with_reducible rfl
  refine wpC_take (i := 5) (v := ?_) rfl (by kernel_rfl) (by kernel_rfl) (by kernel_rfl) (fun _ _ _ h => h) (by rfl) ?_ ?_
  rotate_left 1
  · intro w hw; go_simp; try with_reducible rfl
  refine wpC_take (i := 6) (v := ?_) rfl (by kernel_rfl) (by kernel_rfl) (by kernel_rfl) (fun _ _ _ h => h) (by rfl) ?_ ?_
  rotate_left 1
  · intro w hw; go_simp; try with_reducible rfl
  refine wpC_take (i := 7) (v := ?_) rfl (by kernel_rfl) (by kernel_rfl) (by kernel_rfl) (fun _ _ _ h => h) (by rfl) ?_ ?_
  rotate_left 1
  · intro w hw; go_simp; try with_reducible rfl
  refine wpC_take (i := 8) (v := ?_) rfl (by kernel_rfl) (by kernel_rfl) (by kernel_rfl) (fun _ _ _ h => h) (by rfl) ?_ ?_
  rotate_left 1
  · intro w hw; go_simp; try with_reducible rfl
  refine wpC_take (i := 9) (v := ?_) rfl (by kernel_rfl) (by kernel_rfl) (by kernel_rfl) (fun _ _ _ h => h) (by rfl) ?_ ?_
  rotate_left 1
  · intro w hw; go_simp; try with_reducible rfl
  refine wpC_take (i := 10) (v := ?_) rfl (by kernel_rfl) (by kernel_rfl) (by kernel_rfl) (fun _ _ _ h => h) (by rfl) ?_ ?_
  rotate_left 1
  · intro w hw; go_simp; try with_reducible rfl
  refine wpC_take (i := 11) (v := ?_) rfl (by kernel_rfl) (by kernel_rfl) (by kernel_rfl) (fun _ _ _ h => h) (by rfl) ?_ ?_
  rotate_left 1
  · intro w hw; go_simp; try with_reducible rfl
  rw [hpv]
  refine wpC_one (i := 12) rfl (by kernel_rfl) (trivial) (fun K hK => ?_)
  go_simp
  (try rw [hpw])
  refine hK _ _ ?_
  clear hK K
  refine wpC_take (i := 13) (v := ?_) rfl (by kernel_rfl) (by kernel_rfl) (by kernel_rfl) (fun _ _ _ h => h) (by rfl) ?_ ?_
  rotate_left 1
  · intro w hw; go_simp; try with_reducible rfl
  refine wpC_one (i := 14) rfl (by kernel_rfl) (trivial) (fun K hK => ?_)
  go_simp
  obtain ⟨pz, hpz⟩ : ∃ W9, pw.setCell ⟨b, 3, none⟩ (.int .u8 (chD (r / 10)).toNat) = W9 := ⟨_, rfl⟩
  rw [hpz] at H1
  (try rw [hpz])
  refine hK _ _ ?_
  clear hK K c1 f1 c2 f2 lb hpv hpw hpz
  refine wpC_done (by kernel_rfl) trivial ?_
  go_upto_region 18 with fail
  have h1 := H1.out.drew
  obtain ⟨zv, hzv⟩ : ∃ W9, pz.drew = W9 := ⟨_, rfl⟩
  rw [hzv] at h1
  have c1 := h1.cell (i := 2) (Array.getElem?_eq_getElem (by (try simp only [Array.size_setIfInBounds]); omega))
  have f1 := h1.free (i := 2)
  have h2 := h1.set (i := 2) (v := .int .u8 (chD (q % 10)).toNat)
  have c2 := h2.cell (i := 1) (Array.getElem?_eq_getElem (by (try simp only [Array.size_setIfInBounds]); omega))
  have f2 := h2.free (i := 1)
  have h3 := h2.set (i := 1) (v := .int .u8 (chD (q / 10)).toNat)
  have H2 := Lib.hid h3
  have lb := h1.lt
  obtain ⟨zw, hzw⟩ : ∃ W9, zv.setCell ⟨b, 2, none⟩ (.int .u8 (chD (q % 10)).toNat) = W9 := ⟨_, rfl⟩
  rw [hzw] at H2 c2 f2
  clear h1 h2 h3
  refine wp_region_C (fun _ => True) (by kernel_rfl) ?_
  refine wpC_take (i := 0) (v := ?_) rfl (by kernel_rfl) (by kernel_rfl) (by kernel_rfl) (fun _ _ _ h => h) (by rfl) ?_ ?_
  rotate_left 1
  · intro w hw; go_simp; try with_reducible rfl
  refine wpC_take (i := 1) (v := ?_) rfl (by kernel_rfl) (by kernel_rfl) (by kernel_rfl) (fun _ _ _ h => h) (by rfl) ?_ ?_
  rotate_left 1
  · intro w hw; go_simp; try with_reducible rfl
  refine wpC_take (i := 2) (v := ?_) rfl (by kernel_rfl) (by kernel_rfl) (by kernel_rfl) (fun _ _ _ h => h) (by rfl) ?_ ?_
  rotate_left 1
  · intro w hw; go_simp; try with_reducible rfl
  refine wpC_take (i := 3) (v := ?_) rfl (by kernel_rfl) (by kernel_rfl) (by kernel_rfl) (fun _ _ _ h => h) (by rfl) ?_ ?_
  rotate_left 1
  · intro w hw; go_simp; try with_reducible rfl
  refine wpC_take (i := 4) (v := ?_) rfl (by kernel_rfl) (by kernel_rfl) (by kernel_rfl) (fun _ _ _ h => h) (by rfl) ?_ ?_
  rotate_left 1
  · intro w hw; go_simp; try with_reducible rfl
  refine wpC_take (i := 5) (v := ?_) rfl (by kernel_rfl) (by kernel_rfl) (by kernel_rfl) (fun _ _ _ h => h) (by rfl) ?_ ?_
  rotate_left 1
  · intro w hw; go_simp; try with_reducible rfl
  refine wpC_take (i := 6) (v := ?_) rfl (by kernel_rfl) (by kernel_rfl) (by kernel_rfl) (fun _ _ _ h => h) (by rfl) ?_ ?_
  rotate_left 1
  · intro w hw; go_simp; try with_reducible rfl
  refine wpC_take (i := 7) (v := ?_) rfl (by kernel_rfl) (by kernel_rfl) (by kernel_rfl) (fun _ _ _ h => h) (by rfl) ?_ ?_
  rotate_left 1
  · intro w hw; go_simp; try with_reducible rfl
  refine wpC_take (i := 8) (v := ?_) rfl (by kernel_rfl) (by kernel_rfl) (by kernel_rfl) (fun _ _ _ h => h) (by rfl) ?_ ?_
  rotate_left 1
  · intro w hw; go_simp; try with_reducible rfl
  refine wpC_take (i := 9) (v := ?_) rfl (by kernel_rfl) (by kernel_rfl) (by kernel_rfl) (fun _ _ _ h => h) (by rfl) ?_ ?_
  rotate_left 1
  · intro w hw; go_simp; try with_reducible rfl
  refine wpC_take (i := 10) (v := ?_) rfl (by kernel_rfl) (by kernel_rfl) (by kernel_rfl) (fun _ _ _ h => h) (by rfl) ?_ ?_
  rotate_left 1
  · intro w hw; go_simp; try with_reducible rfl
  refine wpC_take (i := 11) (v := ?_) rfl (by kernel_rfl) (by kernel_rfl) (by kernel_rfl) (fun _ _ _ h => h) (by rfl) ?_ ?_
  rotate_left 1
  · intro w hw; go_simp; try with_reducible rfl
  rw [hzv]
  refine wpC_one (i := 12) rfl (by kernel_rfl) (trivial) (fun K hK => ?_)
  go_simp
  (try rw [hzw])
  refine hK _ _ ?_
  clear hK K
  refine wpC_take (i := 13) (v := ?_) rfl (by kernel_rfl) (by kernel_rfl) (by kernel_rfl) (fun _ _ _ h => h) (by rfl) ?_ ?_
  rotate_left 1
  · intro w hw; go_simp; try with_reducible rfl
  refine wpC_one (i := 14) rfl (by kernel_rfl) (trivial) (fun K hK => ?_)
  go_simp
  obtain ⟨zz, hzz⟩ : ∃ W9, zw.setCell ⟨b, 1, none⟩ (.int .u8 (chD (q / 10)).toNat) = W9 := ⟨_, rfl⟩
  rw [hzz] at H2
  (try rw [hzz])
  refine hK _ _ ?_
  clear hK K c1 f1 c2 f2 lb hzv hzw hzz
  refine wpC_done (by kernel_rfl) trivial ?_
  go_wp2
  go_end0
  exact ⟨⟨_, rfl⟩, H2.out⟩

set_option maxRecDepth 100000 in
set_option maxHeartbeats 8000000 in
theorem fb5_any (b : Nat) (ty : TypeId) (cs : Array Value) (hcs : cs.size = 24) (d q r : Nat) (hd : d < 10) (hq : q < 100) (hr : r < 100) (h : Sat W (pts b (.cells cs ty (0, 0)) * F) w) :
    Calls Tryd.prog 60 #[.slice (some ⟨b, 1, none⟩) 5 23, .int .u64 ((10000 * d + 100 * q + r : Nat) : Int)] w fun e w' => (∃ v, e = .returned v) ∧
      Sat W (pts b (.cells (((((cs.setIfInBounds 5 (.int .u8 (chD (r % 10)).toNat)).setIfInBounds 4 (.int .u8 (chD (r / 10)).toNat)).setIfInBounds 3 (.int .u8 (chD (q % 10)).toNat)).setIfInBounds 2 (.int .u8 (chD (q / 10)).toNat)).setIfInBounds 1 (.int .u8 (chD d).toNat)) ty (0, 0)) * F) w' := by
  have H := Lib.hid h
  obtain ⟨u, hu⟩ : ∃ u, 10000 * d + 100 * q + r = u := ⟨_, rfl⟩
  obtain ⟨m, hm⟩ : ∃ m, 100 * q + r = m := ⟨_, rfl⟩
  have k1 : (u : Int) % 10000 = m := by omega
  have k2 : (u : Int) / 10000 = d := by omega
  have k3 : u < 100000 := by omega
  have k4 : (m : Int) % 100 = r := by omega
  have k5 : (m : Int) / 100 = q := by omega
  have k6 : (q : Int) % 100 = q := by omega
  rw [hu]
  have hsz := smalls_sz
  have v0 : IntKind.i64.wrap 0 = 0 := rfl
  have v1 : IntKind.i64.wrap 1 = 1 := rfl
  have v2 : IntKind.i64.wrap 2 = 2 := rfl
  have v3 : IntKind.i64.wrap 3 = 3 := rfl
  have v4 : IntKind.i64.wrap 4 = 4 := rfl
  clear h hu
  clear hm
  obtain ⟨xa, xb⟩ := smalls_at r (by omega)
  have x1 : (0 : Int) ≤ (r : Int) * 2 := by omega
  have x2 : (r : Int) * 2 < 200 := by omega
  have x3 : (0 : Int) ≤ (r : Int) * 2 + 1 := by omega
  have x4 : (r : Int) * 2 + 1 < 200 := by omega
  have x5 : ((r : Int) * 2).toNat = r * 2 := by omega
  have x6 : ((r : Int) * 2 + 1).toNat = r * 2 + 1 := by omega
  have x7 : r * 2 < 200 := by omega
  have x8 : r * 2 + 1 < 200 := by omega
  have x9 : IntKind.u32.wrap ((r : Int) * 2 + 1) = (r : Int) * 2 + 1 := by show ((r : Int) * 2 + 1) % 4294967296 = _; omega
  obtain ⟨ya, yb⟩ := smalls_at q (by omega)
  have y1 : (0 : Int) ≤ (q : Int) * 2 := by omega
  have y2 : (q : Int) * 2 < 200 := by omega
  have y3 : (0 : Int) ≤ (q : Int) * 2 + 1 := by omega
  have y4 : (q : Int) * 2 + 1 < 200 := by omega
  have y5 : ((q : Int) * 2).toNat = q * 2 := by omega
  have y6 : ((q : Int) * 2 + 1).toNat = q * 2 + 1 := by omega
  have y7 : q * 2 < 200 := by omega
  have y8 : q * 2 + 1 < 200 := by omega
  have y9 : IntKind.u32.wrap ((q : Int) * 2 + 1) = (q : Int) * 2 + 1 := by show ((q : Int) * 2 + 1) % 4294967296 = _; omega
  unfold smallsB at xa xb ya yb hsz
  go_enter Tryd.func60, Tryd.ntmps60
  generalize (⟨((List.append [48, 48, 48, 49, 48, 50, 48, 51, 48, 52, 48, 53, 48, 54, 48, 55, 48, 56, 48, 57, 49, 48, 49, 49, 49, 50, 49, 51, 49, 52, 49, 53, 49, 54, 49, 55, 49, 56, 49, 57, 50, 48, 50, 49, 50, 50, 50, 51, 50, 52] [50, 53, 50, 54, 50, 55, 50, 56, 50, 57, 51, 48, 51, 49, 51, 50, 51, 51, 51, 52, 51, 53, 51, 54, 51, 55, 51, 56, 51, 57, 52, 48, 52, 49, 52, 50, 52, 51, 52, 52, 52, 53, 52, 54, 52, 55, 52, 56, 52, 57]).append (List.append [53, 48, 53, 49, 53, 50, 53, 51, 53, 52, 53, 53, 53, 54, 53, 55, 53, 56, 53, 57, 54, 48, 54, 49, 54, 50, 54, 51, 54, 52, 54, 53, 54, 54, 54, 55, 54, 56, 54, 57, 55, 48, 55, 49, 55, 50, 55, 51, 55, 52] [55, 53, 55, 54, 55, 55, 55, 56, 55, 57, 56, 48, 56, 49, 56, 50, 56, 51, 56, 52, 56, 53, 56, 54, 56, 55, 56, 56, 56, 57, 57, 48, 57, 49, 57, 50, 57, 51, 57, 52, 57, 53, 57, 54, 57, 55, 57, 56, 57, 57])).toArray⟩ : ByteArray) = hs at *
  go_wp2_with fail
  have H0 := Lib.hid H.out
  go_loopg [1, 4] 1 (fun gg s1 s4 wx => s1 = .int .u64 (u : Int) ∧ s4 = .int .i64 5 ∧ wx = w)
  case atStart => exact ⟨rfl, rfl, rfl⟩
  obtain ⟨rfl, rfl, rfl⟩ := hrel
  clear H0
  go_upto_region 17 with fail
  have h1 := H.out.drew
  obtain ⟨pv, hpv⟩ : ∃ W9, wr.drew = W9 := ⟨_, rfl⟩
  rw [hpv] at h1
  have c1 := h1.cell (i := 5) (Array.getElem?_eq_getElem (by (try simp only [Array.size_setIfInBounds]); omega))
  have f1 := h1.free (i := 5)
  have h2 := h1.set (i := 5) (v := .int .u8 (chD (r % 10)).toNat)
  have c2 := h2.cell (i := 4) (Array.getElem?_eq_getElem (by (try simp only [Array.size_setIfInBounds]); omega))
  have f2 := h2.free (i := 4)
  have h3 := h2.set (i := 4) (v := .int .u8 (chD (r / 10)).toNat)
  have H1 := Lib.hid h3
  have lb := h1.lt
  obtain ⟨pw, hpw⟩ : ∃ W9, pv.setCell ⟨b, 5, none⟩ (.int .u8 (chD (r % 10)).toNat) = W9 := ⟨_, rfl⟩
  rw [hpw] at H1 c2 f2
  clear h1 h2 h3
  refine wp_region_C (fun _ => True) (by kernel_rfl) ?_
  refine wpC_take (i := 0) (v := ?_) rfl (by kernel_rfl) (by kernel_rfl) (by kernel_rfl) (fun _ _ _ h => h) (by rfl) ?_ ?_
  rotate_left 1
  · intro w hw; go_simp; try with_reducible rfl
  refine wpC_take (i := 1) (v := ?_) rfl (by kernel_rfl) (by kernel_rfl) (by kernel_rfl) (fun _ _ _ h => h) (by rfl) ?_ ?_
  rotate_left 1
  · intro w hw; go_simp; try with_reducible rfl
  refine wpC_take (i := 2) (v := ?_) rfl (by kernel_rfl) (by kernel_rfl) (by kernel_rfl) (fun _ _ _ h => h) (by rfl) ?_ ?_
  rotate_left 1
  · intro w hw; go_simp; try with_reducible rfl
  refine wpC_take (i := 3) (v := ?_) rfl (by kernel_rfl) (by kernel_rfl) (by kernel_rfl) (fun _ _ _ h => h) (by rfl) ?_ ?_
  rotate_left 1
  · intro w hw; go_simp; try with_reducible rfl
  refine wpC_take (i := 4) (v := ?_) rfl (by kernel_rfl) (by kernel_rfl) (by kernel_rfl) (fun _ _ _ h => h) (by rfl) ?_ ?_
  rotate_left 1
  · intro w hw; go_simp; try with_reducible rfl
  refine wpC_take (i := 5) (v := ?_) rfl (by kernel_rfl) (by kernel_rfl) (by kernel_rfl) (fun _ _ _ h => h) (by rfl) ?_ ?_
  rotate_left 1
  · intro w hw; go_simp; try with_reducible rfl
  refine wpC_take (i := 6) (v := ?_) rfl (by kernel_rfl) (by kernel_rfl) (by kernel_rfl) (fun _ _ _ h => h) (by rfl) ?_ ?_
  rotate_left 1
  · intro w hw; go_simp; try with_reducible rfl
  refine wpC_take (i := 7) (v := ?_) rfl (by kernel_rfl) (by kernel_rfl) (by kernel_rfl) (fun _ _ _ h => h) (by rfl) ?_ ?_
  rotate_left 1
  · intro w hw; go_simp; try with_reducible rfl
  refine wpC_take (i := 8) (v := ?_) rfl (by kernel_rfl) (by kernel_rfl) (by kernel_rfl) (fun _ _ _ h => h) (by rfl) ?_ ?_
  rotate_left 1
  · intro w hw; go_simp; try with_reducible rfl
  refine wpC_take (i := 9) (v := ?_) rfl (by kernel_rfl) (by kernel_rfl) (by kernel_rfl) (fun _ _ _ h => h) (by rfl) ?_ ?_
  rotate_left 1
  · intro w hw; go_simp; try with_reducible rfl
  refine wpC_take (i := 10) (v := ?_) rfl (by kernel_rfl) (by kernel_rfl) (by kernel_rfl) (fun _ _ _ h => h) (by rfl) ?_ ?_
  rotate_left 1
  · intro w hw; go_simp; try with_reducible rfl
  refine wpC_take (i := 11) (v := ?_) rfl (by kernel_rfl) (by kernel_rfl) (by kernel_rfl) (fun _ _ _ h => h) (by rfl) ?_ ?_
  rotate_left 1
  · intro w hw; go_simp; try with_reducible rfl
  rw [hpv]
  refine wpC_one (i := 12) rfl (by kernel_rfl) (trivial) (fun K hK => ?_)
  go_simp
  (try rw [hpw])
  refine hK _ _ ?_
  clear hK K
  refine wpC_take (i := 13) (v := ?_) rfl (by kernel_rfl) (by kernel_rfl) (by kernel_rfl) (fun _ _ _ h => h) (by rfl) ?_ ?_
  rotate_left 1
  · intro w hw; go_simp; try with_reducible rfl
  refine wpC_one (i := 14) rfl (by kernel_rfl) (trivial) (fun K hK => ?_)
  go_simp
  obtain ⟨pz, hpz⟩ : ∃ W9, pw.setCell ⟨b, 4, none⟩ (.int .u8 (chD (r / 10)).toNat) = W9 := ⟨_, rfl⟩
  rw [hpz] at H1
  (try rw [hpz])
  refine hK _ _ ?_
  clear hK K c1 f1 c2 f2 lb hpv hpw hpz
  refine wpC_done (by kernel_rfl) trivial ?_
  go_upto_region 18 with fail
  have h1 := H1.out.drew
  obtain ⟨zv, hzv⟩ : ∃ W9, pz.drew = W9 := ⟨_, rfl⟩
  rw [hzv] at h1
  have c1 := h1.cell (i := 3) (Array.getElem?_eq_getElem (by (try simp only [Array.size_setIfInBounds]); omega))
  have f1 := h1.free (i := 3)
  have h2 := h1.set (i := 3) (v := .int .u8 (chD (q % 10)).toNat)
  have c2 := h2.cell (i := 2) (Array.getElem?_eq_getElem (by (try simp only [Array.size_setIfInBounds]); omega))
  have f2 := h2.free (i := 2)
  have h3 := h2.set (i := 2) (v := .int .u8 (chD (q / 10)).toNat)
  have HX := Lib.hid h3
  have lb := h1.lt
  obtain ⟨zw, hzw⟩ : ∃ W9, zv.setCell ⟨b, 3, none⟩ (.int .u8 (chD (q % 10)).toNat) = W9 := ⟨_, rfl⟩
  rw [hzw] at HX c2 f2
  clear h1 h2 h3
  refine wp_region_C (fun _ => True) (by kernel_rfl) ?_
  refine wpC_take (i := 0) (v := ?_) rfl (by kernel_rfl) (by kernel_rfl) (by kernel_rfl) (fun _ _ _ h => h) (by rfl) ?_ ?_
  rotate_left 1
  · intro w hw; go_simp; try with_reducible rfl
  refine wpC_take (i := 1) (v := ?_) rfl (by kernel_rfl) (by kernel_rfl) (by kernel_rfl) (fun _ _ _ h => h) (by rfl) ?_ ?_
  rotate_left 1
  · intro w hw; go_simp; try with_reducible rfl
  refine wpC_take (i := 2) (v := ?_) rfl (by kernel_rfl) (by kernel_rfl) (by kernel_rfl) (fun _ _ _ h => h) (by rfl) ?_ ?_
  rotate_left 1
  · intro w hw; go_simp; try with_reducible rfl
  refine wpC_take (i := 3) (v := ?_) rfl (by kernel_rfl) (by kernel_rfl) (by kernel_rfl) (fun _ _ _ h => h) (by rfl) ?_ ?_
  rotate_left 1
  · intro w hw; go_simp; try with_reducible rfl
  refine wpC_take (i := 4) (v := ?_) rfl (by kernel_rfl) (by kernel_rfl) (by kernel_rfl) (fun _ _ _ h => h) (by rfl) ?_ ?_
  rotate_left 1
  · intro w hw; go_simp; try with_reducible rfl
  refine wpC_take (i := 5) (v := ?_) rfl (by kernel_rfl) (by kernel_rfl) (by kernel_rfl) (fun _ _ _ h => h) (by rfl) ?_ ?_
  rotate_left 1
  · intro w hw; go_simp; try with_reducible rfl
  refine wpC_take (i := 6) (v := ?_) rfl (by kernel_rfl) (by kernel_rfl) (by kernel_rfl) (fun _ _ _ h => h) (by rfl) ?_ ?_
  rotate_left 1
  · intro w hw; go_simp; try with_reducible rfl
  refine wpC_take (i := 7) (v := ?_) rfl (by kernel_rfl) (by kernel_rfl) (by kernel_rfl) (fun _ _ _ h => h) (by rfl) ?_ ?_
  rotate_left 1
  · intro w hw; go_simp; try with_reducible rfl
  refine wpC_take (i := 8) (v := ?_) rfl (by kernel_rfl) (by kernel_rfl) (by kernel_rfl) (fun _ _ _ h => h) (by rfl) ?_ ?_
  rotate_left 1
  · intro w hw; go_simp; try with_reducible rfl
  refine wpC_take (i := 9) (v := ?_) rfl (by kernel_rfl) (by kernel_rfl) (by kernel_rfl) (fun _ _ _ h => h) (by rfl) ?_ ?_
  rotate_left 1
  · intro w hw; go_simp; try with_reducible rfl
  refine wpC_take (i := 10) (v := ?_) rfl (by kernel_rfl) (by kernel_rfl) (by kernel_rfl) (fun _ _ _ h => h) (by rfl) ?_ ?_
  rotate_left 1
  · intro w hw; go_simp; try with_reducible rfl
  refine wpC_take (i := 11) (v := ?_) rfl (by kernel_rfl) (by kernel_rfl) (by kernel_rfl) (fun _ _ _ h => h) (by rfl) ?_ ?_
  rotate_left 1
  · intro w hw; go_simp; try with_reducible rfl
  rw [hzv]
  refine wpC_one (i := 12) rfl (by kernel_rfl) (trivial) (fun K hK => ?_)
  go_simp
  (try rw [hzw])
  refine hK _ _ ?_
  clear hK K
  refine wpC_take (i := 13) (v := ?_) rfl (by kernel_rfl) (by kernel_rfl) (by kernel_rfl) (fun _ _ _ h => h) (by rfl) ?_ ?_
  rotate_left 1
  · intro w hw; go_simp; try with_reducible rfl
  refine wpC_one (i := 14) rfl (by kernel_rfl) (trivial) (fun K hK => ?_)
  go_simp
  obtain ⟨zz, hzz⟩ : ∃ W9, zw.setCell ⟨b, 2, none⟩ (.int .u8 (chD (q / 10)).toNat) = W9 := ⟨_, rfl⟩
  rw [hzz] at HX
  (try rw [hzz])
  refine hK _ _ ?_
  clear hK K c1 f1 c2 f2 lb hzv hzw hzz
  refine wpC_done (by kernel_rfl) trivial ?_
  have c1 := HX.out.cell (i := 1) (Array.getElem?_eq_getElem (by simp only [Array.size_setIfInBounds]; omega))
  have f1 := HX.out.free (i := 1)
  have lb := HX.out.lt
  have H2 := Lib.hid (HX.out.set (i := 1) (v := .int .u8 (chD d).toNat))
  have hcd := chD_toNat (d := d) (by omega)
  have q1 : ((chD d).toNat : Int) = 48 + d := by omega
  rw [q1] at H2
  have q2 : (48 + (d : Int)) % 256 = 48 + d := by omega
  have q3 : (48 + (d : Int)) % 4294967296 = 48 + d := by omega
  clear hcd HX
  go_wp2
  go_end0
  exact ⟨⟨_, rfl⟩, by rw [q1]; exact H2.out⟩

end Go.Proofs.YticljfpippbkkaaDoor

/-
  strconv.Itoa below 16384. Conditions: the table of powers of ten lies as the program lays it.
-/
namespace Go.Proofs.YticljfpippbkkaaDoor
open Go.RowKit Go.Sp
variable {W w w' : World} {F F' : HProp}

theorem lenU_le {u : Nat} (h : u < 65536) : lenU u ≤ 16 := by
  have h1 := len8_le (v := u / 256) (by omega)
  unfold lenU
  split
  · omega
  · have h2 := len8_le (v := u) (by omega)
    omega
set_option maxRecDepth 100000 in
theorem nd_any (t p u : Nat) (hu : u < 65536) (ht : lenU u * 78913 / 262144 = t) (ht4 : t ≤ 4) (hc : w.cell? ⟨0, t, none⟩ = some (.int .u64 p)) :
    Calls Tryd.prog 59 #[.int .u64 u] w fun e w' => e = .returned (.int .i64 ((t + (if p ≤ u then 1 else 0) : Nat) : Int)) ∧ w = w' := by
  have H1 := Lib.hid (len64_any u hu w)
  have H2 := Lib.hid (log10_any (lenU u) (by have := lenU_le hu; omega) w)
  rw [ht] at H2
  have i1 : (t : Int) < 20 := by omega
  have i2 : (0 : Int) ≤ (t : Int) := by omega
  clear ht
  generalize lenU u = l at *
  by_cases hp : p ≤ u
  · have i3 : (p : Int) ≤ (u : Int) := by omega
    have H3 := Lib.hid (bool2_any true w)
    rw [if_pos hp]
    rw [if_pos rfl] at H3
    clear hp
    go_enter Tryd.func59, Tryd.ntmps59
    go_wp2_with fail
    with_reducible refine Calls.mono H1.out ?_
    rintro e w' ⟨rfl, rfl⟩
    go_wp2_with fail
    with_reducible refine Calls.mono H2.out ?_
    rintro e w' ⟨rfl, rfl⟩
    go_wp2_with fail
    with_reducible refine Calls.mono H3.out ?_
    rintro e w' ⟨rfl, rfl⟩
    go_wp2
    go_ret
    exact ⟨by go_num, rfl⟩
  · have i3 : ¬ (p : Int) ≤ (u : Int) := by omega
    have H3 := Lib.hid (bool2_any false w)
    rw [if_neg hp]
    rw [if_neg (by decide)] at H3
    have hdn : decide (p ≤ u) = false := by simp; omega
    clear hp
    go_enter Tryd.func59, Tryd.ntmps59
    go_wp2_with fail
    with_reducible refine Calls.mono H1.out ?_
    rintro e w' ⟨rfl, rfl⟩
    go_wp2_with fail
    with_reducible refine Calls.mono H2.out ?_
    rintro e w' ⟨rfl, rfl⟩
    go_wp2_with fail
    with_reducible refine Calls.mono H3.out ?_
    rintro e w' ⟨rfl, rfl⟩
    go_wp2
    go_ret
    exact ⟨by go_num, rfl⟩
def ndL (u : Nat) : Nat := if u < 1000 then 3 else if u < 10000 then 4 else 5
def powT (t : Nat) : Nat := if t = 2 then 100 else if t = 3 then 1000 else 10000
def okN (u : Nat) : Bool := let t := lenU u * 78913 / 262144; Nat.ble 2 t && Nat.ble t 4 && Nat.beq (t + (if powT t ≤ u then 1 else 0)) (ndL u)
def okR : Nat → Nat → Bool
  | 0, _ => true
  | n + 1, b => okN (b + n) && okR n b
theorem okR_spec : ∀ (n b u : Nat), okR n b = true → b ≤ u → u < b + n → okN u = true
  | 0, _, _, _, h1, h2 => by omega
  | n + 1, b, u, h, h1, h2 => by
    rw [okR, Bool.and_eq_true] at h
    by_cases hu : u = b + n
    · rw [hu]; exact h.1
    · exact okR_spec n b u h.2 h1 (by omega)
theorem okR_all : okR 4000 100 = true ∧ okR 4000 4100 = true ∧ okR 4000 8100 = true ∧ okR 4300 12100 = true := by decide +kernel
theorem okN_all {u : Nat} (h1 : 100 ≤ u) (h2 : u < 16384) : okN u = true := by
  obtain ⟨a, b, c, d⟩ := okR_all
  by_cases h : u < 4100
  · exact okR_spec _ _ _ a (by omega) (by omega)
  by_cases h : u < 8100
  · exact okR_spec _ _ _ b (by omega) (by omega)
  by_cases h : u < 12100
  · exact okR_spec _ _ _ c (by omega) (by omega)
  exact okR_spec _ _ _ d (by omega) (by omega)
/-- the table of powers of ten, as far as it is wanted -/
def PowIs (w : World) : Prop := ∀ t, 2 ≤ t → t ≤ 4 → w.cell? ⟨0, t, none⟩ = some (.int .u64 (powT t))
def powL : List Int := [1, 10, 100, 1000, 10000, 100000, 1000000, 10000000, 100000000, 1000000000, 10000000000, 100000000000, 1000000000000, 10000000000000, 100000000000000, 1000000000000000, 10000000000000000, 100000000000000000, 1000000000000000000, 10000000000000000000]
theorem pow_is {W : World} (h : Lib.TabIs Tryd.prog W "internal/strconv.uint64pow10" .u64 powL) : PowIs W := by
  intro t h2 h4
  have hc := h.cell (g := 0) (by kernel_rfl) t (by show t < 20; omega)
  rw [hc]
  rcases (by omega : t = 2 ∨ t = 3 ∨ t = 4) with rfl | rfl | rfl <;> rfl
theorem digs_any (u : Nat) (h1 : 100 ≤ u) (h2 : u < 16384) (hp : PowIs w) : Calls Tryd.prog 59 #[.int .u64 u] w fun e w' => e = .returned (.int .i64 (ndL u)) ∧ w = w' := by
  have h := okN_all h1 h2
  simp only [okN, Bool.and_eq_true, Nat.ble_eq] at h
  obtain ⟨⟨a, b⟩, c⟩ := h
  have c := Nat.eq_of_beq_eq_true c
  have := nd_any (w := w) _ (powT (lenU u * 78913 / 262144)) u (by omega) rfl b (hp _ a b)
  rw [c] at this
  exact this
theorem dec3 {d r : Nat} (h0 : 1 ≤ d) (hd : d < 10) (hr : r < 100) : decB (100 * d + r) = [chD d, chD (r / 10), chD (r % 10)] := by
  rw [decB_ge (by omega), decB_ge (by omega), decB_lt (by omega)]
  rw [show (100 * d + r) / 10 / 10 = d by omega, show (100 * d + r) / 10 % 10 = r / 10 by omega, show (100 * d + r) % 10 = r % 10 by omega]
  rfl
theorem dec4 {q r : Nat} (h0 : 10 ≤ q) (hq : q < 100) (hr : r < 100) : decB (100 * q + r) = [chD (q / 10), chD (q % 10), chD (r / 10), chD (r % 10)] := by
  rw [decB_ge (by omega), decB_ge (by omega), decB_ge (by omega), decB_lt (by omega)]
  rw [show (100 * q + r) / 10 / 10 / 10 = q / 10 by omega, show (100 * q + r) / 10 / 10 % 10 = q % 10 by omega, show (100 * q + r) / 10 % 10 = r / 10 by omega, show (100 * q + r) % 10 = r % 10 by omega]
  rfl
theorem dec5 {d q r : Nat} (h0 : 1 ≤ d) (hd : d < 10) (hq : q < 100) (hr : r < 100) : decB (10000 * d + 100 * q + r) = [chD d, chD (q / 10), chD (q % 10), chD (r / 10), chD (r % 10)] := by
  rw [decB_ge (by omega), decB_ge (by omega), decB_ge (by omega), decB_ge (by omega), decB_lt (by omega)]
  rw [show (10000 * d + 100 * q + r) / 10 / 10 / 10 / 10 = d by omega, show (10000 * d + 100 * q + r) / 10 / 10 / 10 % 10 = q / 10 by omega, show (10000 * d + 100 * q + r) / 10 / 10 % 10 = q % 10 by omega,
    show (10000 * d + 100 * q + r) / 10 % 10 = r / 10 by omega, show (10000 * d + 100 * q + r) % 10 = r % 10 by omega]
  rfl
/-- what formatBase10 does -/
def FbC (W : World) (nd u : Nat) : Prop := ∀ (F : HProp) (w : World) (b : Nat) (ty : TypeId) (cs : Array Value), cs.size = 24 → Sat W (pts b (.cells cs ty (0, 0)) * F) w →
  Calls Tryd.prog 60 #[.slice (some ⟨b, 1, none⟩) nd 23, .int .u64 u] w fun e w' => (∃ v, e = .returned v) ∧
    ∃ cs', (decB u).length = nd ∧ (∀ j (h : j < (decB u).length), cs'[1 + j]? = some (.int .u8 ((decB u)[j]).toNat)) ∧ Sat W (pts b (.cells cs' ty (0, 0)) * F) w'
theorem fb_all (W : World) (u : Nat) (h1 : 100 ≤ u) (h2 : u < 16384) : FbC W (ndL u) u := by
  intro F w b ty cs hcs h
  unfold ndL
  obtain ⟨r, hr⟩ : ∃ r, u % 100 = r := ⟨_, rfl⟩
  by_cases h3 : u < 1000
  · rw [if_pos h3]
    obtain ⟨d, hd⟩ : ∃ d, u / 100 = d := ⟨_, rfl⟩
    obtain rfl : 100 * d + r = u := by omega
    refine (fb3_any b ty cs hcs d r (by omega) (by omega) h).mono ?_
    rintro e w' ⟨hv, hs⟩
    refine ⟨hv, _, by rw [dec3 (by omega) (by omega) (by omega)]; rfl, ?_, hs⟩
    rw [dec3 (by omega) (by omega) (by omega)]
    intro j hj
    match j, hj with
    | 0, _ => simp [hcs]
    | 1, _ => simp [hcs]
    | 2, _ => simp [hcs]
    | j + 3, hj => exact absurd hj (by simp only [List.length_cons, List.length_nil]; omega)
  rw [if_neg h3]
  by_cases h4 : u < 10000
  · rw [if_pos h4]
    obtain ⟨q, hq⟩ : ∃ q, u / 100 = q := ⟨_, rfl⟩
    obtain rfl : 100 * q + r = u := by omega
    refine (fb4_any b ty cs hcs q r (by omega) (by omega) h).mono ?_
    rintro e w' ⟨hv, hs⟩
    refine ⟨hv, _, by rw [dec4 (by omega) (by omega) (by omega)]; rfl, ?_, hs⟩
    rw [dec4 (by omega) (by omega) (by omega)]
    intro j hj
    match j, hj with
    | 0, _ => simp [hcs]
    | 1, _ => simp [hcs]
    | 2, _ => simp [hcs]
    | 3, _ => simp [hcs]
    | j + 4, hj => exact absurd hj (by simp only [List.length_cons, List.length_nil]; omega)
  rw [if_neg h4]
  obtain ⟨q, hq⟩ : ∃ q, u / 100 % 100 = q := ⟨_, rfl⟩
  obtain ⟨d, hd⟩ : ∃ d, u / 10000 = d := ⟨_, rfl⟩
  obtain rfl : 10000 * d + 100 * q + r = u := by omega
  refine (fb5_any b ty cs hcs d q r (by omega) (by omega) (by omega) h).mono ?_
  rintro e w' ⟨hv, hs⟩
  refine ⟨hv, _, by rw [dec5 (by omega) (by omega) (by omega) (by omega)]; rfl, ?_, hs⟩
  rw [dec5 (by omega) (by omega) (by omega) (by omega)]
  intro j hj
  match j, hj with
  | 0, _ => simp [hcs]
  | 1, _ => simp [hcs]
  | 2, _ => simp [hcs]
  | 3, _ => simp [hcs]
  | 4, _ => simp [hcs]
  | j + 5, hj => exact absurd hj (by simp only [List.length_cons, List.length_nil]; omega)

def zero24 : Array Value := #[.int .u8 0, .int .u8 0, .int .u8 0, .int .u8 0, .int .u8 0, .int .u8 0, .int .u8 0, .int .u8 0, .int .u8 0, .int .u8 0, .int .u8 0, .int .u8 0, .int .u8 0, .int .u8 0, .int .u8 0, .int .u8 0, .int .u8 0, .int .u8 0, .int .u8 0, .int .u8 0, .int .u8 0, .int .u8 0, .int .u8 0, .int .u8 0]
set_option maxRecDepth 100000 in
set_option maxHeartbeats 4000000 in
theorem formatInt_any (u : Nat) (h1 : 100 ≤ u) (h2 : u < 16384) (hpF : ∀ w', Sat W F w' → PowIs w') (h : Sat W F w) :
    Calls Tryd.prog 49 #[.int .i64 u, .int .i64 10] w fun e w' => e = .returned ((.string ⟨(decB u).toArray⟩)) ∧ Sat W F w' := by
  have H0 := h.alloc (.cells zero24 122 (0, 0))
  obtain ⟨b, hb⟩ : ∃ b, w.heap.size = b := ⟨_, rfl⟩
  obtain ⟨w1, hw1⟩ : ∃ w1, w.alloc (.cells zero24 122 (0, 0)) = w1 := ⟨_, rfl⟩
  rw [hb, hw1] at H0
  have HND := Lib.hid (digs_any (w := w1) u h1 h2 (hpF _ H0.r))
  have HFB := Lib.hid (fb_all W u h1 h2 F w1 b 122 zero24 rfl H0)
  obtain ⟨n, hn⟩ : ∃ n, ndL u = n := ⟨_, rfl⟩
  have hn5 : 3 ≤ n ∧ n ≤ 5 := by rw [← hn]; unfold ndL; split <;> (try split) <;> omega
  rw [hn] at HND HFB
  have i1 : ¬ (u : Int) < 100 := by omega
  have i2 : (0 : Int) ≤ (u : Int) := by omega
  have i3 : (u : Int) % 18446744073709551616 = u := by omega
  have i4 : ¬ (u : Int) < 0 := by omega
  have n1 : wrap64 (1 + (n : Int)) = 1 + n := wrap64_id _ (by omega) (by omega)
  have n2 : (1 : Int) ≤ 1 + (n : Int) := by omega
  have n3 : 1 + (n : Int) ≤ 24 := by omega
  have n4 : (0 : Int) ≤ 1 + (n : Int) := by omega
  have n5 : (1 + (n : Int)).toNat = 1 + n := by omega
  have n6 : 1 + (n : Int) - 1 = n := by omega
  have n7 : 1 + n - 1 = n := by omega
  have n8 : (n : Int).toNat = n := by omega
  unfold zero24 at hw1
  clear h hn H0
  generalize decB u = D at *
  go_enter Tryd.func49, Tryd.ntmps49
  go_wp2_with fail
  with_reducible refine Calls.mono HND.out ?_
  rintro e w' ⟨rfl, rfl⟩
  clear hw1 HND
  go_wp2_with fail
  with_reducible refine Calls.mono HFB.out ?_
  rintro e w2 ⟨⟨v2, rfl⟩, cs', hl, hcell, hs⟩
  have lb := hs.lt
  have hcv := run_convert_bytes_back (P := Tryd.prog) w2 41 9 5 ⟨b, 1, none⟩ 23 D Tryd.underlying41 Tryd.underlying5 Tryd.underlying9 (fun j hj => by
    rw [Addr.add_lit]; exact hs.cell (hcell j hj))
  rw [hl] at hcv
  have HS := Lib.hid hs.r
  clear hs HFB hcell hl
  go_wp2
  go_ret
  exact ⟨rfl, HS.out⟩
set_option maxRecDepth 100000 in
theorem formatInt_small (u : Nat) (h1 : u < 100) (h : Sat W F w) :
    Calls Tryd.prog 49 #[.int .i64 u, .int .i64 10] w fun e w' => e = .returned ((.string ⟨(decB u).toArray⟩)) ∧ Sat W F w' := by
  have HC := Lib.hid (show Calls Tryd.prog 58 #[.int .i64 u] w fun e w' => e = .returned ((.string ⟨(decB u).toArray⟩)) ∧ w = w' by
    by_cases h : u < 10
    · exact small1_any u h w
    · exact small2_any u (by omega) h1 w)
  have HS := Lib.hid h
  have i1 : (u : Int) < 100 := by omega
  have i2 : (0 : Int) ≤ (u : Int) := by omega
  clear h
  generalize decB u = D at *
  go_enter Tryd.func49, Tryd.ntmps49
  go_wp2_with fail
  with_reducible refine Calls.mono HC.out ?_
  rintro e w' ⟨rfl, rfl⟩
  go_wp2
  go_ret
  exact ⟨rfl, HS.out⟩
theorem itoa_c (u : Nat) (h2 : u < 16384) (hpF : ∀ w', Sat W F w' → PowIs w') : ItoaC W F u := by
  intro G w h
  have HC := Lib.hid (show Calls Tryd.prog 49 #[.int .i64 u, .int .i64 10] w fun e w' => e = .returned ((.string ⟨(decB u).toArray⟩)) ∧ Sat W (G * F) w' by
    by_cases h1 : u < 100
    · exact formatInt_small u h1 h
    · exact formatInt_any u (by omega) h2 (fun w' h' => hpF w' h'.r) h)
  clear h
  have HI := Lib.hid (show Calls Tryd.prog 36 #[.int .i64 u] w fun e w' => e = .returned ((.string ⟨(decB u).toArray⟩)) ∧ Sat W (G * F) w' by
    generalize decB u = D at *
    go_enter Tryd.func36, Tryd.ntmps36
    go_wp2_with fail
    with_reducible refine Calls.mono HC.out ?_
    rintro e w' ⟨rfl, h⟩
    go_wp2
    go_ret
    exact ⟨rfl, h⟩)
  clear HC
  generalize decB u = D at *
  go_enter Tryd.func24, Tryd.ntmps24
  go_wp2_with fail
  with_reducible refine Calls.mono HI.out ?_
  rintro e w' ⟨rfl, h⟩
  go_wp2
  go_ret
  exact ⟨rfl, h⟩
end Go.Proofs.YticljfpippbkkaaDoor
