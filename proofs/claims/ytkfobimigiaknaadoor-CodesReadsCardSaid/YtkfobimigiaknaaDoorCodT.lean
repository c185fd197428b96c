/-
  Is a token one of those that a reader tells? Conditions: those that each theorem names.
-/
import Derived.Test.YtkfobimigiaknaaDoorCodS
namespace Go.Proofs.YtkfobimigiaknaaDoor
open Go.RowKit Go.Sp
variable {W w w' : World} {F F' : HProp}

set_option maxRecDepth 1000000 in
set_option maxHeartbeats 4000000 in
theorem kind_name (C : List Int) (hC : C.length = 256) (l : List UInt8) (hk : l = [112, 97, 114] ∨ l.length ≤ 1 ∨ ∀ c ∈ l, codeAt C c = 11) (hb : l.length ≤ 1000000) (h : Sat W F w) :
    Calls Tryd.prog 22 #[.agg #[.int .i64 16, .int .u8 0, (.string ⟨l.toArray⟩)], codesV C] w fun e w' => e = .returned (.bool true) ∧ Sat W F w' := by
  have h0 := ((h.alloc (.cells #[.int .i64 16, .int .u8 0, (.string ⟨l.toArray⟩)] 31)).alloc (codesO C 22)).of_eq (show _ = pts (w.heap.size + 1) (codesO C 22) * (pts w.heap.size (.cells #[.int .i64 16, .int .u8 0, (.string ⟨l.toArray⟩)] 31) * F) by simp)
  have HC := Lib.hid hC
  have HX := Lib.hid h0
  have x0 := h0.r.cell (i := 0) rfl
  have x1 := h0.r.cell (i := 1) rfl
  have x2 := h0.r.cell (i := 2) rfl
  have HK := Lib.hid hk
  have htl := toList_mk l
  by_cases hp : l = [112, 97, 114]
  · subst hp
    clear h h0 hC hk
    go_enter Tryd.func22, Tryd.ntmps22
    go_wp2
    go_ret
    exact ⟨rfl, HX.out.r.r⟩
  · have hbb : (l == [112, 97, 114]) = false := by simpa using hp
    have HP := Lib.hid hp
    have hsz : (⟨l.toArray⟩ : ByteArray).size = l.length := str_size l
    have HGET := Lib.hid (fun (i : Nat) (h : i < (⟨l.toArray⟩ : ByteArray).size) => Lib.getElem_mk l i h)
    obtain ⟨n, hn⟩ : ∃ n, l.length = n := ⟨_, rfl⟩
    rw [hn] at hsz hb
    have HN := Lib.hid hn
    clear h h0 hC hk hp hn
    generalize (⟨l.toArray⟩ : ByteArray) = s at *
    go_enter Tryd.func22, Tryd.ntmps22
    go_wp2_with fail
    go_loopg [5] n (fun g s5 wx => ∃ k : Nat, k ≤ n ∧ g = n - k ∧ s5 = .int .i64 k ∧ Sat W (pts (w.heap.size + 1) (codesO C 22) * (pts w.heap.size (.cells #[.int .i64 16, .int .u8 0, .string s] 31) * F)) wx)
    case atStart => exact ⟨0, by omega, rfl, rfl, HX.out⟩
    case round =>
      obtain ⟨k, hkn, rfl, rfl, hx⟩ := hrel
      have HX2 := Lib.hid hx
      clear x0 x1 x2
      have x1 := hx.r.cell (i := 1) rfl
      have x2 := hx.r.cell (i := 2) rfl
      have lx := hx.r.lt
      have lc := hx.lt
      clear hx
      by_cases hlt : k < n
      · have j1 : (k : Int) < (n : Int) := by omega
        by_cases hn1 : 1 < n
        · have j2 : (1 : Int) < (n : Int) := by omega
          have hkl : k < l.length := by rw [HN.out]; exact hlt
          have hget : s[k]'(by omega) = l[k] := by
            have := HGET.out k (by omega)
            rw [List.getElem?_eq_getElem hkl] at this
            exact (Option.some.inj this).symm
          have h11 : codeAt C l[k] = 11 := by
            rcases HK.out with h | h | h
            · exact absurd h HP.out
            · have := HN.out; omega
            · exact h _ (List.getElem_mem hkl)
          obtain ⟨c, hc⟩ : ∃ c, l[k] = c := ⟨_, rfl⟩
          rw [hc] at hget h11
          have k0 := codes_cell HX2.out HC.out c
          rw [h11] at k0
          have hc8 : (c.toNat : Int) < 256 := by have := c.toNat_lt; omega
          clear hc h11
          go_wp2
          go_roundg (n - (k + 1))
          case measure => omega
          case rel => exact ⟨k + 1, by omega, rfl, by go_num, HX2.out⟩
        · have j2 : ¬ (1 : Int) < (n : Int) := by omega
          go_wp2
          go_ret
          exact ⟨rfl, HX2.out.r.r⟩
      · have j1 : ¬ (k : Int) < (n : Int) := by omega
        go_wp2
        go_ret
        exact ⟨rfl, HX2.out.r.r⟩

set_option maxRecDepth 1000000 in
set_option maxHeartbeats 4000000 in
theorem kind_blank (C : List Int) (h : Sat W F w) :
    Calls Tryd.prog 22 #[.agg #[.int .i64 10, .int .u8 32, .string ⟨#[]⟩], codesV C] w fun e w' => e = .returned (.bool true) ∧ Sat W F w' := by
  have HX := Lib.hid ((h.allocD (o := .cells #[.int .i64 10, .int .u8 32, .string ⟨#[]⟩] 31)).allocD (o := codesO C 22))
  clear h
  go_enter Tryd.func22, Tryd.ntmps22
  go_wp2
  go_ret
  exact ⟨rfl, HX.out⟩

set_option maxRecDepth 1000000 in
set_option maxHeartbeats 4000000 in
theorem kind_char (C : List Int) (hC : C.length = 256) (c : UInt8) (k : Int) (hk : codeAt C c = k) (hin : k ∈ [1, 2, 3, 4, 6, 7, 8, 11, 12, 13]) (h : Sat W F w) :
    Calls Tryd.prog 22 #[.agg #[.int .i64 k, .int .u8 c.toNat, .string ⟨#[]⟩], codesV C] w fun e w' => e = .returned (.bool true) ∧ Sat W F w' := by
  have h0 := ((h.alloc (.cells #[.int .i64 k, .int .u8 c.toNat, .string ⟨#[]⟩] 31)).alloc (codesO C 22)).of_eq (show _ = pts (w.heap.size + 1) (codesO C 22) * (pts w.heap.size (.cells #[.int .i64 k, .int .u8 c.toNat, .string ⟨#[]⟩] 31) * F) by simp)
  have HX := Lib.hid h0
  have k0 := codes_cell h0 hC c
  rw [hk] at k0
  have hc8 : (c.toNat : Int) < 256 := by have := c.toNat_lt; omega
  simp only [List.mem_cons, List.not_mem_nil, or_false] at hin
  clear h h0 hC hk
  rcases hin with rfl | rfl | rfl | rfl | rfl | rfl | rfl | rfl | rfl | rfl
  all_goals
    go_enter Tryd.func22, Tryd.ntmps22
    go_wp2
    go_quiet (fail)
    go_wp2
    go_ret
    exact ⟨rfl, HX.out.r.r.drewN⟩

theorem kind_any (C : List Int) (hC : C.length = 256) (t : Tok) (hk : KindOK C t) (hb : t.name.size ≤ 1000000) (h : Sat W F w) :
    Calls Tryd.prog 22 #[Tok.val t, codesV C] w fun e w' => e = .returned (.bool true) ∧ Sat W F w' := by
  rcases hk with ⟨l, rfl, hl⟩ | rfl | ⟨c, rfl, hc⟩
  · exact kind_name C hC l hl (by have : (⟨l.toArray⟩ : ByteArray).size ≤ 1000000 := hb; rwa [str_size] at this) h
  · exact kind_blank C h
  · exact kind_char C hC c _ rfl hc h

end Go.Proofs.YtkfobimigiaknaaDoor
