
/-
  The next character. Conditions: those that each theorem names.
-/
import Derived.Test.YtpcdbeicpmjooaaDoorCodD
import Derived.ScopeJumps
import Derived.WalkMore
namespace Go.Sp
open Go
/-- a scope that begins with its label, to which the run jumps back -/
theorem wp_scope_loop {P : Program} {r : Code} {Q : Exit → Act → World → Prop} {a : Act} {w : World} (l : Nat) (J : Act → World → Prop) (μ : Act → World → Nat) (first : J a w)
    (pass : ∀ a w, J a w → r.wp P (Exit.jump l (fun a' w' => J a' w' ∧ μ a' w' < μ a w) Q) a w) : (Code.scope ((Code.label l).seq r)).wp P Q a w := by
  refine wp_scope_jumps l J μ (rest := Code.skip.seq r) (by simp [findLabel]) ?_ ?_
  · refine wp_seq (wp_label ?_)
    refine wp_mono (pass a w first) ?_
    intro e a w h
    cases e with
    | goto l => exact ⟨h.1, h.2.1⟩
    | _ => exact h
  · intro a w h
    refine wp_seq (wp_skip ?_)
    exact pass a w h
end Go.Sp

namespace Go.Proofs.YtpcdbeicpmjooaaDoor
open Go.RowKit Go.Sp
variable {W w w' : World} {F : HProp}

/-- the codes in memory -/
def CharPost (W : World) (F : HProp) (b : Nat) (R : Rs) (l : List UInt8) (e : Ending) (w' : World) : Prop :=
  match l with
  | [] => e = .returned (.tuple #[.int .u8 0, .bool false]) ∧ RdAt W F b { R with left := [] } w'
  | c :: r => e = .returned (.tuple #[.int .u8 c.toNat, .bool true]) ∧ RdAt W F b { R with left := c :: r } w'

/-- how much of the line is left -/
def leftN (b : Nat) (w : World) : Nat := match w.cell? ⟨b, 4, none⟩, w.cell? ⟨b, 5, none⟩ with
  | some (.slice _ n _), some (.int _ i) => n - i.toNat
  | _, _ => 0

def CharJ (W : World) (F : HProp) (b : Nat) (C : List Int) (R : Rs) (w : World) : Prop := ∃ l, made C l = made C R.left ∧ RdAt W F b { R with left := l } w

theorem hexN_le (c : UInt8) : hexN c ≤ 15 := by
  unfold hexN hexD
  split
  · rename_i h; simp only [Option.getD_some]; omega
  · split
    · rename_i h; simp only [Option.getD_some]; omega
    · simp

theorem hexS_no {e : UInt8} {r : List UInt8} (h : hexB e = false) : hexS e r = (e ^^^ 64) :: r := by
  cases r <;> simp [hexS, h]
theorem hexS_no2 {e f : UInt8} {r : List UInt8} (h : hexB f = false) : hexS e (f :: r) = (e ^^^ 64) :: f :: r := by simp [hexS, h]
theorem hexS_yes {e f : UInt8} {r : List UInt8} (h : hexB e = true) (h2 : hexB f = true) : hexS e (f :: r) = UInt8.ofNat (16 * hexN e + hexN f) :: r := by simp [hexS, h, h2]

theorem set_drop {xs : List UInt8} {k : Nat} {x : UInt8} (h : k < xs.length) : (xs.set k x).drop k = x :: xs.drop (k + 1) := by
  rw [List.drop_eq_getElem_cons (by simpa using h), List.getElem_set_self, List.drop_set_of_lt (by omega)]

theorem char_frame (b bc : Nat) (A : Act) (h : A = { tmps := #[.pointer (some ⟨b, 0, none⟩), .pointer (some ⟨bc, 0, none⟩), undef, undef, .int .u8 0, .bool false, A.tmps.getD 6 undef, A.tmps.getD 7 undef, A.tmps.getD 8 undef, A.tmps.getD 9 undef, A.tmps.getD 10 undef, A.tmps.getD 11 undef, A.tmps.getD 12 undef, A.tmps.getD 13 undef, A.tmps.getD 14 undef, A.tmps.getD 15 undef, A.tmps.getD 16 undef, A.tmps.getD 17 undef, A.tmps.getD 18 undef, A.tmps.getD 19 undef, A.tmps.getD 20 undef, A.tmps.getD 21 undef, A.tmps.getD 22 undef, A.tmps.getD 23 undef, A.tmps.getD 24 undef, A.tmps.getD 25 undef, A.tmps.getD 26 undef, A.tmps.getD 27 undef, A.tmps.getD 28 undef, A.tmps.getD 29 undef, A.tmps.getD 30 undef, A.tmps.getD 31 undef, A.tmps.getD 32 undef, A.tmps.getD 33 undef, A.tmps.getD 34 undef, A.tmps.getD 35 undef, A.tmps.getD 36 undef, A.tmps.getD 37 undef, A.tmps.getD 38 undef, A.tmps.getD 39 undef, A.tmps.getD 40 undef, A.tmps.getD 41 undef, A.tmps.getD 42 undef, A.tmps.getD 43 undef, A.tmps.getD 44 undef, A.tmps.getD 45 undef, A.tmps.getD 46 undef, A.tmps.getD 47 undef, A.tmps.getD 48 undef, A.tmps.getD 49 undef, A.tmps.getD 50 undef, A.tmps.getD 51 undef, A.tmps.getD 52 undef, A.tmps.getD 53 undef, A.tmps.getD 54 undef, A.tmps.getD 55 undef, A.tmps.getD 56 undef, A.tmps.getD 57 undef, A.tmps.getD 58 undef, A.tmps.getD 59 undef, A.tmps.getD 60 undef, A.tmps.getD 61 undef, A.tmps.getD 62 undef, A.tmps.getD 63 undef, A.tmps.getD 64 undef, A.tmps.getD 65 undef, A.tmps.getD 66 undef, A.tmps.getD 67 undef, A.tmps.getD 68 undef, A.tmps.getD 69 undef, A.tmps.getD 70 undef, A.tmps.getD 71 undef, A.tmps.getD 72 undef, A.tmps.getD 73 undef, A.tmps.getD 74 undef, A.tmps.getD 75 undef, A.tmps.getD 76 undef, A.tmps.getD 77 undef, A.tmps.getD 78 undef, A.tmps.getD 79 undef, A.tmps.getD 80 undef, A.tmps.getD 81 undef, A.tmps.getD 82 undef, A.tmps.getD 83 undef, A.tmps.getD 84 undef, A.tmps.getD 85 undef, A.tmps.getD 86 undef, A.tmps.getD 87 undef, A.tmps.getD 88 undef, A.tmps.getD 89 undef, A.tmps.getD 90 undef, A.tmps.getD 91 undef, A.tmps.getD 92 undef, A.tmps.getD 93 undef, A.tmps.getD 94 undef, A.tmps.getD 95 undef, A.tmps.getD 96 undef, A.tmps.getD 97 undef, A.tmps.getD 98 undef, A.tmps.getD 99 undef, A.tmps.getD 100 undef, A.tmps.getD 101 undef, A.tmps.getD 102 undef, A.tmps.getD 103 undef, A.tmps.getD 104 undef, A.tmps.getD 105 undef, A.tmps.getD 106 undef, A.tmps.getD 107 undef, A.tmps.getD 108 undef, A.tmps.getD 109 undef, A.tmps.getD 110 undef, A.tmps.getD 111 undef, A.tmps.getD 112 undef, A.tmps.getD 113 undef, A.tmps.getD 114 undef, A.tmps.getD 115 undef, A.tmps.getD 116 undef], defers := [] }) :
    ∃ f : Nat → Value, A = { tmps := #[.pointer (some ⟨b, 0, none⟩), .pointer (some ⟨bc, 0, none⟩), undef, undef, .int .u8 0, .bool false, f 6, f 7, f 8, f 9, f 10, f 11, f 12, f 13, f 14, f 15, f 16, f 17, f 18, f 19, f 20, f 21, f 22, f 23, f 24, f 25, f 26, f 27, f 28, f 29, f 30, f 31, f 32, f 33, f 34, f 35, f 36, f 37, f 38, f 39, f 40, f 41, f 42, f 43, f 44, f 45, f 46, f 47, f 48, f 49, f 50, f 51, f 52, f 53, f 54, f 55, f 56, f 57, f 58, f 59, f 60, f 61, f 62, f 63, f 64, f 65, f 66, f 67, f 68, f 69, f 70, f 71, f 72, f 73, f 74, f 75, f 76, f 77, f 78, f 79, f 80, f 81, f 82, f 83, f 84, f 85, f 86, f 87, f 88, f 89, f 90, f 91, f 92, f 93, f 94, f 95, f 96, f 97, f 98, f 99, f 100, f 101, f 102, f 103, f 104, f 105, f 106, f 107, f 108, f 109, f 110, f 111, f 112, f 113, f 114, f 115, f 116], defers := [] } := ⟨fun n => A.tmps.getD n undef, h⟩

theorem rowM_ne {b g n c : Nat} {o : Obj} {xs : List UInt8} {A : HProp} (h : Sat W (pts b o * (rowM (.slice (some ⟨g, 0, none⟩) n c) xs * A)) w) : b ≠ g := by
  rcases h.rot.rowM_cases with ⟨h0, _⟩ | ⟨g', cap, cur, f, e, -, -, -, -, -, hs⟩
  · simp at h0
  · simp only [Value.slice.injEq, Option.some.injEq, Addr.mk.injEq, and_true] at e
    obtain ⟨rfl, _⟩ := e
    exact (hs.rot).ne

theorem leftN_is {b n c : Nat} {a : Option Addr} {k : IntKind} {i : Int} (h4 : w.cell? ⟨b, 4, none⟩ = some (.slice a n c)) (h5 : w.cell? ⟨b, 5, none⟩ = some (.int k i)) : leftN b w = n - i.toNat := by
  simp [leftN, h4, h5]

theorem char_fin {b bc g n cv at_ : Nat} {C : List Int} {e : TypeId} {R : Rs} {l' xs' : List UInt8} {wr w2 : World} {A : Act} (hm : made C l' = made C R.left) (h1 : xs'.drop at_ = l') (h2 : at_ ≤ xs'.length) (h3 : xs'.length ≤ 100000)
    (hs : Sat W (pts b (rdO { R with left := l' } (.slice (some ⟨g, 0, none⟩) n cv) at_) * (rowM (.slice (some ⟨g, 0, none⟩) n cv) xs' * (pts bc (codesO C e) * F))) w2)
    (hA : A = { tmps := #[.pointer (some ⟨b, 0, none⟩), .pointer (some ⟨bc, 0, none⟩), undef, undef, .int .u8 0, .bool false, A.tmps.getD 6 undef, A.tmps.getD 7 undef, A.tmps.getD 8 undef, A.tmps.getD 9 undef, A.tmps.getD 10 undef, A.tmps.getD 11 undef, A.tmps.getD 12 undef, A.tmps.getD 13 undef, A.tmps.getD 14 undef, A.tmps.getD 15 undef, A.tmps.getD 16 undef, A.tmps.getD 17 undef, A.tmps.getD 18 undef, A.tmps.getD 19 undef, A.tmps.getD 20 undef, A.tmps.getD 21 undef, A.tmps.getD 22 undef, A.tmps.getD 23 undef, A.tmps.getD 24 undef, A.tmps.getD 25 undef, A.tmps.getD 26 undef, A.tmps.getD 27 undef, A.tmps.getD 28 undef, A.tmps.getD 29 undef, A.tmps.getD 30 undef, A.tmps.getD 31 undef, A.tmps.getD 32 undef, A.tmps.getD 33 undef, A.tmps.getD 34 undef, A.tmps.getD 35 undef, A.tmps.getD 36 undef, A.tmps.getD 37 undef, A.tmps.getD 38 undef, A.tmps.getD 39 undef, A.tmps.getD 40 undef, A.tmps.getD 41 undef, A.tmps.getD 42 undef, A.tmps.getD 43 undef, A.tmps.getD 44 undef, A.tmps.getD 45 undef, A.tmps.getD 46 undef, A.tmps.getD 47 undef, A.tmps.getD 48 undef, A.tmps.getD 49 undef, A.tmps.getD 50 undef, A.tmps.getD 51 undef, A.tmps.getD 52 undef, A.tmps.getD 53 undef, A.tmps.getD 54 undef, A.tmps.getD 55 undef, A.tmps.getD 56 undef, A.tmps.getD 57 undef, A.tmps.getD 58 undef, A.tmps.getD 59 undef, A.tmps.getD 60 undef, A.tmps.getD 61 undef, A.tmps.getD 62 undef, A.tmps.getD 63 undef, A.tmps.getD 64 undef, A.tmps.getD 65 undef, A.tmps.getD 66 undef, A.tmps.getD 67 undef, A.tmps.getD 68 undef, A.tmps.getD 69 undef, A.tmps.getD 70 undef, A.tmps.getD 71 undef, A.tmps.getD 72 undef, A.tmps.getD 73 undef, A.tmps.getD 74 undef, A.tmps.getD 75 undef, A.tmps.getD 76 undef, A.tmps.getD 77 undef, A.tmps.getD 78 undef, A.tmps.getD 79 undef, A.tmps.getD 80 undef, A.tmps.getD 81 undef, A.tmps.getD 82 undef, A.tmps.getD 83 undef, A.tmps.getD 84 undef, A.tmps.getD 85 undef, A.tmps.getD 86 undef, A.tmps.getD 87 undef, A.tmps.getD 88 undef, A.tmps.getD 89 undef, A.tmps.getD 90 undef, A.tmps.getD 91 undef, A.tmps.getD 92 undef, A.tmps.getD 93 undef, A.tmps.getD 94 undef, A.tmps.getD 95 undef, A.tmps.getD 96 undef, A.tmps.getD 97 undef, A.tmps.getD 98 undef, A.tmps.getD 99 undef, A.tmps.getD 100 undef, A.tmps.getD 101 undef, A.tmps.getD 102 undef, A.tmps.getD 103 undef, A.tmps.getD 104 undef, A.tmps.getD 105 undef, A.tmps.getD 106 undef, A.tmps.getD 107 undef, A.tmps.getD 108 undef, A.tmps.getD 109 undef, A.tmps.getD 110 undef, A.tmps.getD 111 undef, A.tmps.getD 112 undef, A.tmps.getD 113 undef, A.tmps.getD 114 undef, A.tmps.getD 115 undef, A.tmps.getD 116 undef], defers := [] }) (hlt : n - at_ < leftN b wr) :
    (CharJ W (pts bc (codesO C e) * F) b C R w2 ∧ ∃ f : Nat → Value, A = { tmps := #[.pointer (some ⟨b, 0, none⟩), .pointer (some ⟨bc, 0, none⟩), undef, undef, .int .u8 0, .bool false, f 6, f 7, f 8, f 9, f 10, f 11, f 12, f 13, f 14, f 15, f 16, f 17, f 18, f 19, f 20, f 21, f 22, f 23, f 24, f 25, f 26, f 27, f 28, f 29, f 30, f 31, f 32, f 33, f 34, f 35, f 36, f 37, f 38, f 39, f 40, f 41, f 42, f 43, f 44, f 45, f 46, f 47, f 48, f 49, f 50, f 51, f 52, f 53, f 54, f 55, f 56, f 57, f 58, f 59, f 60, f 61, f 62, f 63, f 64, f 65, f 66, f 67, f 68, f 69, f 70, f 71, f 72, f 73, f 74, f 75, f 76, f 77, f 78, f 79, f 80, f 81, f 82, f 83, f 84, f 85, f 86, f 87, f 88, f 89, f 90, f 91, f 92, f 93, f 94, f 95, f 96, f 97, f 98, f 99, f 100, f 101, f 102, f 103, f 104, f 105, f 106, f 107, f 108, f 109, f 110, f 111, f 112, f 113, f 114, f 115, f 116], defers := [] }) ∧ leftN b w2 < leftN b wr := by
  refine ⟨⟨⟨l', hm, _, xs', at_, h1, h2, h3, hs⟩, char_frame b bc A hA⟩, ?_⟩
  rw [leftN_is (w := w2) (hs.cell (i := 4) rfl) (hs.cell (i := 5) rfl)]
  exact hlt



set_option maxRecDepth 1000000 in
set_option maxHeartbeats 4000000 in
theorem char_any (C : List Int) (hC : C.length = 256) (e : TypeId) (R : Rs) (b bc : Nat) (h : RdAt W (pts bc (codesO C e) * F) b R w) :
    Calls Tryd.prog 26 #[.pointer (some ⟨b, 0, none⟩), .pointer (some ⟨bc, 0, none⟩)] w (CharPost W (pts bc (codesO C e) * F) b R (made C R.left)) := by
  have HJ := Lib.hid (show CharJ W (pts bc (codesO C e) * F) b C R w from ⟨R.left, rfl, h⟩)
  have HC := Lib.hid hC
  clear h hC
  go_enter Tryd.func26, Tryd.ntmps26
  go_wp2
  refine wp_scope_loop 0 (fun a' w' => CharJ W (pts bc (codesO C e) * F) b C R w' ∧ ∃ f : Nat → Value, a' = { tmps := #[.pointer (some ⟨b, 0, none⟩), .pointer (some ⟨bc, 0, none⟩), undef, undef, .int .u8 0, .bool false, f 6, f 7, f 8, f 9, f 10, f 11, f 12, f 13, f 14, f 15, f 16, f 17, f 18, f 19, f 20, f 21, f 22, f 23, f 24, f 25, f 26, f 27, f 28, f 29, f 30, f 31, f 32, f 33, f 34, f 35, f 36, f 37, f 38, f 39, f 40, f 41, f 42, f 43, f 44, f 45, f 46, f 47, f 48, f 49, f 50, f 51, f 52, f 53, f 54, f 55, f 56, f 57, f 58, f 59, f 60, f 61, f 62, f 63, f 64, f 65, f 66, f 67, f 68, f 69, f 70, f 71, f 72, f 73, f 74, f 75, f 76, f 77, f 78, f 79, f 80, f 81, f 82, f 83, f 84, f 85, f 86, f 87, f 88, f 89, f 90, f 91, f 92, f 93, f 94, f 95, f 96, f 97, f 98, f 99, f 100, f 101, f 102, f 103, f 104, f 105, f 106, f 107, f 108, f 109, f 110, f 111, f 112, f 113, f 114, f 115, f 116], defers := [] }) (fun _ w' => leftN b w') ⟨HJ.out, fun _ => undef, rfl⟩ ?pass
  case pass =>
    rintro a' wr ⟨⟨l, hl, v, xs, at_, h1, h2, h3, hs⟩, f, rfl⟩
    simp only at h1
    have HS := Lib.hid hs
    have c0 := hs.cell (i := 0) rfl
    have c1 := hs.cell (i := 1) rfl
    have c2 := hs.cell (i := 2) rfl
    have c3 := hs.cell (i := 3) rfl
    have c4 := hs.cell (i := 4) rfl
    have c5 := hs.cell (i := 5) rfl
    have c6 := hs.cell (i := 6) rfl
    have c7 := hs.cell (i := 7) rfl
    have f2 := hs.free (i := 2)
    have f3 := hs.free (i := 3)
    have f4 := hs.free (i := 4)
    have f5 := hs.free (i := 5)
    have f6 := hs.free (i := 6)
    have f7 := hs.free (i := 7)
    have lb := hs.lt
    obtain ⟨n, hn⟩ : ∃ n, xs.length = n := ⟨_, rfl⟩
    obtain ⟨av, cv, rfl, hcv, -, hcell⟩ := hs.r.rowM_val
    have HCL := Lib.hid hcell
    have HL := Lib.hid hl
    have H1 := Lib.hid h1
    have HN := Lib.hid hn
    have H3 := Lib.hid h3
    rw [hn] at hcv h2 c4 HS
    clear hs hcell hl h1 hn
    have h3' : n ≤ 100000 := by have := H3.out; have := HN.out; omega
    clear h3
    by_cases hlt : at_ < n
    · have hlt' : at_ < xs.length := by rw [HN.out]; exact hlt
      obtain ⟨c, hc⟩ : ∃ c, xs[at_] = c := ⟨_, rfl⟩
      obtain ⟨g, rfl, k0, kf0, kg⟩ := HCL.out at_ hlt'
      rw [hc] at k0
      have HD := Lib.hid (show l = c :: xs.drop (at_ + 1) by rw [← H1.out, List.drop_eq_getElem_cons hlt', hc])
      have hcc := codes_cell HS.out.r.r HC.out c
      have lbc := HS.out.r.r.lt
      have i1 : ¬ (n : Int) ≤ (at_ : Int) := by omega
      have i2 : (at_ : Int) < (n : Int) := by omega
      have i2' : (at_ : Int) ≤ (n : Int) := by omega
      have i3 : cv ≠ at_ := by omega
      have i4 : (c.toNat : Int) < 256 := by have := c.toNat_lt; omega
      have HX := Lib.hid hc
      clear hc
      by_cases h7 : codeAt C c = 7
      · have q1 : (codeAt C c != 7) = false := by simp [h7]
        have H7 := Lib.hid h7
        clear h7
        by_cases hs3 : n - at_ < 3
        · have q2 : decide (n - at_ < 3) = true := by simpa using hs3
          have q2' : ((n - at_ : Nat) : Int) < 3 := by omega
          have HE := Lib.hid (show made C R.left = c :: xs.drop (at_ + 1) by
            rw [← HL.out, HD.out]
            exact made_none C (step1_short C (by rw [List.length_cons, List.length_drop, HN.out]; omega)))
          clear hs3
          go_wp2
          go_quiet (fail)
          go_wp2
          go_quiet (fail)
          go_wp2
          go_quiet (fail)
          go_wp2
          simp only [Exit.jump]
          go_ret2
          rw [HE.out]
          exact ⟨rfl, _, xs, at_, H1.out.trans HD.out, by rw [HN.out]; exact h2, H3.out, by first | exact HS.out.drewN | exact HS.out.drewN.drewN | exact HS.out.drewN.drewN.drewN⟩
        · have q2 : decide (n - at_ < 3) = false := by simpa using hs3
          have q2' : ¬ ((n - at_ : Nat) : Int) < 3 := by omega
          obtain ⟨d, hd⟩ : ∃ d, xs[at_ + 1]'(by rw [HN.out]; omega) = d := ⟨_, rfl⟩
          obtain ⟨e', he'⟩ : ∃ e', xs[at_ + 2]'(by rw [HN.out]; omega) = e' := ⟨_, rfl⟩
          obtain ⟨g1, hg1, k1, kf1, -⟩ := HCL.out (at_ + 1) (by rw [HN.out]; omega)
          obtain ⟨g2, hg2, k2, kf2, -⟩ := HCL.out (at_ + 2) (by rw [HN.out]; omega)
          cases hg1
          cases hg2
          rw [hd] at k1
          rw [he'] at k2
          have HD2 := Lib.hid (show xs.drop (at_ + 1) = d :: e' :: xs.drop (at_ + 3) by
            rw [List.drop_eq_getElem_cons (by rw [HN.out]; omega), hd, List.drop_eq_getElem_cons (i := at_ + 1 + 1) (by rw [HN.out]; omega)]
            rw [show at_ + 1 + 1 + 1 = at_ + 3 by omega]
            congr 2)
          have j1 : (1 : Int) < ((n - at_ : Nat) : Int) := by omega
          have j2 : (2 : Int) < ((n - at_ : Nat) : Int) := by omega
          have j1' : 1 < n - at_ := by omega
          have j2' : 2 < n - at_ := by omega
          clear hd he' hs3
          by_cases hdc : d = c
          · have q3 : ((d.toNat : Int) != (c.toNat : Int)) = false := by simp [hdc]
            have HDC := Lib.hid hdc
            clear hdc
            by_cases he8 : 128 ≤ e'.toNat
            · have q4 : (128 : Int) ≤ (e'.toNat : Int) := by omega
              have HE := Lib.hid (show made C R.left = c :: xs.drop (at_ + 1) by
                rw [← HL.out, HD.out, HD2.out]
                exact made_none C (step1_other C (.inr he8)))
              clear he8
              go_wp2
              go_quiet (fail)
              go_wp2
              go_quiet (fail)
              go_wp2
              go_quiet (fail)
              go_wp2
              simp only [Exit.jump]
              go_ret2
              rw [HE.out]
              exact ⟨rfl, _, xs, at_, H1.out.trans HD.out, by rw [HN.out]; exact h2, H3.out, by first | exact HS.out.drewN | exact HS.out.drewN.drewN | exact HS.out.drewN.drewN.drewN⟩
            · have q4 : ¬ (128 : Int) ≤ (e'.toNat : Int) := by omega
              have HY := Lib.hid (show made C R.left = made C (hexS e' (xs.drop (at_ + 3))) by
                rw [← HL.out, HD.out, HD2.out, HDC.out]
                exact made_some C (step1_yes C H7.out (by omega)))
              have HDG := Lib.hid (digit_any e')
              obtain ⟨he, hhe⟩ : ∃ he, hexN e' = he := ⟨_, rfl⟩
              obtain ⟨hb, hhb⟩ : ∃ hb, hexB e' = hb := ⟨_, rfl⟩
              rw [hhe, hhb] at HDG
              have HHE := Lib.hid hhe
              have HHB := Lib.hid hhb
              have hle : (0 : Int) ≤ (at_ : Int) := by omega
              have hne1 := rowM_ne HS.out
              have hne2 := hne1.symm
              have hxor := xor_u8 e'
              obtain ⟨x, hx⟩ : ∃ x, e' ^^^ 64 = x := ⟨_, rfl⟩
              rw [hx] at hxor
              have HXX := Lib.hid hx
              clear hx
              have j3 : (0 : Int) ≤ (at_ : Int) + 2 := by omega
              have j4 : (at_ : Int) + 2 < (n : Int) := by omega
              have j5 : ((at_ : Int) + 2).toNat = at_ + 2 := by omega
              clear he8 hhe hhb
              cases hb
              · go_wp2
                go_quiet (fail)
                go_wp2
                go_quiet (fail)
                go_wp2
                go_quiet (fail)
                go_wp2_with (go_at_call 33; refine Calls.mono (HDG.out _) ?_; rintro e w' ⟨rfl, rfl⟩)
                have HHX := Lib.hid (show hexS e' (xs.drop (at_ + 3)) = x :: xs.drop (at_ + 3) by rw [hexS_no HHB.out, HXX.out])
                go_region
                go_wp2
                go_step3
                refine ⟨rfl, char_fin (xs' := xs.set (at_ + 2) (x)) (at_ := at_ + 2) (l' := x :: xs.drop (at_ + 3)) (g := g) (n := n) (cv := cv) (by rw [HY.out, HHX.out]) (set_drop (by rw [HN.out]; omega)) (by simp [HN.out]; omega) (by simpa using H3.out) ?_ rfl ?_⟩
                · exact (((HS.out.drewN.set (i := 5) (v := .int .i64 ((at_ : Int) + 2))).rot).rowM_set (j := at_ + 2) (c := x)).rot.drew
                · rw [leftN_is c4 c5]
                  simp
                  omega
              · by_cases hs4 : 3 < n - at_
                · have q5 : decide (3 < n - at_) = true := by simpa using hs4
                  have q5' : (3 : Int) < ((n - at_ : Nat) : Int) := by omega
                  obtain ⟨f', hf'⟩ : ∃ f', xs[at_ + 3]'(by rw [HN.out]; omega) = f' := ⟨_, rfl⟩
                  obtain ⟨g3, hg3, k3, kf3, -⟩ := HCL.out (at_ + 3) (by rw [HN.out]; omega)
                  cases hg3
                  rw [hf'] at k3
                  have HD3 := Lib.hid (show xs.drop (at_ + 3) = f' :: xs.drop (at_ + 4) by rw [List.drop_eq_getElem_cons (by rw [HN.out]; omega), hf'])
                  have HDG2 := Lib.hid (digit_any f')
                  obtain ⟨hf, hhf⟩ : ∃ hf, hexN f' = hf := ⟨_, rfl⟩
                  obtain ⟨hb, hhb⟩ : ∃ hb, hexB f' = hb := ⟨_, rfl⟩
                  have hf15 : hf ≤ 15 := by rw [← hhf]; exact hexN_le f'
                  have he15 : he ≤ 15 := by rw [← HHE.out]; exact hexN_le e'
                  rw [hhf, hhb] at HDG2
                  have HHF := Lib.hid hhf
                  have HHB2 := Lib.hid hhb
                  clear hhf hhb hf' hs4
                  cases hb
                  · have HHX := Lib.hid (show hexS e' (xs.drop (at_ + 3)) = x :: xs.drop (at_ + 3) by rw [HD3.out, hexS_no2 HHB2.out, HXX.out])
                    go_wp2
                    go_quiet (fail)
                    go_wp2
                    go_quiet (fail)
                    go_wp2
                    go_quiet (fail)
                    go_wp2_with fail
                    refine Calls.mono (HDG.out _) ?_
                    rintro e w' ⟨rfl, rfl⟩
                    go_wp2_with fail
                    refine Calls.mono (HDG2.out _) ?_
                    rintro e w' ⟨rfl, rfl⟩
                    go_wp2
                    go_region
                    go_wp2
                    go_step3
                    refine ⟨rfl, char_fin (xs' := xs.set (at_ + 2) (x)) (at_ := at_ + 2) (l' := x :: xs.drop (at_ + 3)) (g := g) (n := n) (cv := cv) (by rw [HY.out, HHX.out]) (set_drop (by rw [HN.out]; omega)) (by simp [HN.out]; omega) (by simpa using H3.out) ?_ rfl ?_⟩
                    · exact (((HS.out.drewN.set (i := 5) (v := .int .i64 ((at_ : Int) + 2))).rot).rowM_set (j := at_ + 2) (c := x)).rot.drew
                    · rw [leftN_is c4 c5]
                      simp
                      omega
                  · obtain ⟨y, hy⟩ : ∃ y, UInt8.ofNat (16 * he + hf) = y := ⟨_, rfl⟩
                    have hyn : ((y.toNat : Nat) : Int) = 16 * (he : Int) + (hf : Int) := by rw [← hy]; simp [UInt8.toNat_ofNat']; omega
                    have HHX := Lib.hid (show hexS e' (xs.drop (at_ + 3)) = y :: xs.drop (at_ + 4) by rw [HD3.out, hexS_yes HHB.out HHB2.out, HHE.out, HHF.out, hy])
                    have hw : IntKind.u8.wrap (16 * (he : Int) + (hf : Int)) = ((y.toNat : Nat) : Int) := by rw [hyn]; exact IntWalk.u8_in _ (by omega)
                    have j6 : (0 : Int) ≤ (at_ : Int) + 3 := by omega
                    have j7 : (at_ : Int) + 3 < (n : Int) := by omega
                    have j8 : ((at_ : Int) + 3).toNat = at_ + 3 := by omega
                    clear hy hyn
                    go_wp2
                    go_quiet (fail)
                    go_wp2
                    go_quiet (fail)
                    go_wp2
                    go_quiet (fail)
                    go_wp2_with fail
                    refine Calls.mono (HDG.out _) ?_
                    rintro e w' ⟨rfl, rfl⟩
                    go_wp2_with fail
                    refine Calls.mono (HDG2.out _) ?_
                    rintro e w' ⟨rfl, rfl⟩
                    go_wp2
                    go_region
                    go_wp2
                    go_step3
                    refine ⟨rfl, char_fin (xs' := xs.set (at_ + 3) (y)) (at_ := at_ + 3) (l' := y :: xs.drop (at_ + 4)) (g := g) (n := n) (cv := cv) (by rw [HY.out, HHX.out]) (set_drop (by rw [HN.out]; omega)) (by simp [HN.out]; omega) (by simpa using H3.out) ?_ rfl ?_⟩
                    · exact (((HS.out.drewN.set (i := 5) (v := .int .i64 ((at_ : Int) + 3))).rot).rowM_set (j := at_ + 3) (c := y)).rot.drew
                    · rw [leftN_is c4 c5]
                      simp
                      omega
                · have q5 : decide (3 < n - at_) = false := by simpa using hs4
                  have q5' : ¬ (3 : Int) < ((n - at_ : Nat) : Int) := by omega
                  have HHX := Lib.hid (show hexS e' (xs.drop (at_ + 3)) = x :: xs.drop (at_ + 3) by
                    rw [List.drop_of_length_le (by rw [HN.out]; omega)]
                    simp only [hexS, HXX.out])
                  clear hs4
                  go_wp2
                  go_quiet (fail)
                  go_wp2
                  go_quiet (fail)
                  go_wp2
                  go_quiet (fail)
                  go_wp2_with fail
                  refine Calls.mono (HDG.out _) ?_
                  rintro e w' ⟨rfl, rfl⟩
                  go_wp2
                  go_region
                  go_wp2
                  go_step3
                  refine ⟨rfl, char_fin (xs' := xs.set (at_ + 2) (x)) (at_ := at_ + 2) (l' := x :: xs.drop (at_ + 3)) (g := g) (n := n) (cv := cv) (by rw [HY.out, HHX.out]) (set_drop (by rw [HN.out]; omega)) (by simp [HN.out]; omega) (by simpa using H3.out) ?_ rfl ?_⟩
                  · exact (((HS.out.drewN.set (i := 5) (v := .int .i64 ((at_ : Int) + 2))).rot).rowM_set (j := at_ + 2) (c := x)).rot.drew
                  · rw [leftN_is c4 c5]
                    simp
                    omega
          · have q3 : ((d.toNat : Int) != (c.toNat : Int)) = true := by
              rw [bne_iff_ne]
              intro h
              exact hdc (UInt8.toNat_inj.1 (by exact_mod_cast h))
            have HE := Lib.hid (show made C R.left = c :: xs.drop (at_ + 1) by
              rw [← HL.out, HD.out, HD2.out]
              exact made_none C (step1_other C (.inl hdc)))
            clear hdc
            go_wp2
            go_quiet (fail)
            go_wp2
            go_quiet (fail)
            go_wp2
            go_quiet (fail)
            go_wp2
            simp only [Exit.jump]
            go_ret2
            rw [HE.out]
            exact ⟨rfl, _, xs, at_, H1.out.trans HD.out, by rw [HN.out]; exact h2, H3.out, by first | exact HS.out.drewN | exact HS.out.drewN.drewN | exact HS.out.drewN.drewN.drewN⟩
      · have q1 : (codeAt C c != 7) = true := by simpa using h7
        have HE := Lib.hid (show made C R.left = c :: xs.drop (at_ + 1) by rw [← HL.out, HD.out]; exact made_none C (step1_code C h7))
        clear h7
        go_wp2
        go_quiet (fail)
        go_wp2
        go_quiet (fail)
        go_wp2
        go_quiet (fail)
        go_wp2
        simp only [Exit.jump]
        go_ret2
        rw [HE.out]
        exact ⟨rfl, _, xs, at_, H1.out.trans HD.out, by rw [HN.out]; exact h2, H3.out, by first | exact HS.out.drewN | exact HS.out.drewN.drewN | exact HS.out.drewN.drewN.drewN⟩
    · have hd : l = [] := by
        have h := H1.out
        rw [List.drop_of_length_le (by rw [HN.out]; omega)] at h
        exact h.symm
      have i1 : (n : Int) ≤ (at_ : Int) := by omega
      have HE := Lib.hid (show made C R.left = [] by rw [← HL.out, hd]; rfl)
      have HD := Lib.hid hd
      clear hd
      go_wp2
      go_quiet (fail)
      go_wp2
      simp only [Exit.jump]
      go_ret2
      rw [HE.out]
      exact ⟨rfl, _, xs, at_, H1.out.trans HD.out, by rw [HN.out]; exact h2, H3.out, HS.out.drewN⟩

end Go.Proofs.YtpcdbeicpmjooaaDoor
