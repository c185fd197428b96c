
/-
  Lists of numbers that a font's writer makes: words, the place of a number, sorting and compacting at most one number. Conditions: those that each theorem names.
-/
import Derived.Test.YtembknlhocijkaaFtJ
namespace Go.Proofs.Ytembknlhocijkaa
open Go.RowKit Go.Sp
variable {w W : World} {A : HProp} {x : FV} {F : Fnt}

def rowJ (v : Value) (L : List Int) : HProp := row v L.length 3 1 (L.flatMap intC)
theorem info_in : (Try.prog.info? 3).map (fun i => (i.zero, i.size, i.bytes)) = some (some (.int .i64 0), 1, 8) := by kernel_rfl
theorem int_one (L : List Int) : ∀ u ∈ L.flatMap intC, u.oneCell' = true :=
  flatMap_one (fun x u hu => by simp only [intC, List.mem_singleton] at hu; rw [hu]; rfl) L
theorem rowJ_rd {v : Value} {L : List Int} (h : Sat W (rowJ v L * A) w) : RdL intC 1 w v L := by
  unfold rowJ at h
  refine ⟨h.rd, ?_⟩
  obtain ⟨-, h2⟩ := h.row_cases
  rcases h2 with ⟨rfl, h0, -⟩ | ⟨g, cap, cur, rfl, h3, -⟩
  · exact ⟨none, 0, by rw [h0], by rw [h0]; exact Nat.le_refl _⟩
  · exact ⟨_, cap, rfl, h3⟩
theorem rowJ_snoc {u : Value} {L : List Int} {y : Int} {n : Nat} (h : Sat W (row u n 3 1 (L.flatMap intC ++ [.int .i64 y]) * A) w) (hn : n = L.length + 1) : Sat W (rowJ u (L ++ [y]) * A) w := by
  unfold rowJ
  rw [List.flatMap_append, List.length_append, List.length_singleton, ← hn, show List.flatMap intC [y] = [.int .i64 y] from rfl]
  exact h
theorem take_words {X : List Int} {k : Nat} (hk : k < X.length) : (X.take (k + 1)).flatMap wordB = (X.take k).flatMap wordB ++ wordB X[k] := by
  rw [List.take_succ_eq_append_getElem hk, List.flatMap_append]
  simp
theorem words_len (X : List Int) : (X.flatMap wordB).length = X.length * 4 := by
  induction X with
  | nil => rfl
  | cons y X ih => rw [List.flatMap_cons, List.length_append, ih, List.length_cons, show (wordB y).length = 4 from rfl]; omega

set_option maxRecDepth 100000 in
set_option maxHeartbeats 4000000 in
theorem words_any {v u : Value} {L : List UInt8} {X : List Int} {bw : Nat} (hu : RdL intC 1 W u X) (hX : X.length ≤ 1000) (hL : L.length ≤ 10000) (h : Sat W (pts bw (wrB v) * (rowY v L * own W)) w) :
    Calls Try.prog 25 #[.pointer (some ⟨bw, 0, none⟩), u] w fun e w' => e = .returned (.tuple #[]) ∧ ∃ v', Sat W (pts bw (wrB v') * (rowY v' (L ++ X.flatMap wordB) * own W)) w' := by
  obtain ⟨ua, uc, rfl, -⟩ := hu.val
  obtain ⟨n, hn⟩ : ∃ n, X.length = n := ⟨_, rfl⟩
  have HN := Lib.hid hn
  have HU := Lib.hid hu
  have HS := Lib.hid h
  have HL := Lib.hid hL
  rw [hn] at hX ⊢
  clear hu h hn hL
  go_enter Try.func25, Try.ntmps25
  go_wp2_with fail
  go_loopg [8] n (fun gg s8 wx => ∃ k : Nat, k ≤ n ∧ gg = n - k ∧ s8 = .int .i64 k ∧ ∃ v', Sat W (pts bw (wrB v') * (rowY v' (L ++ (X.take k).flatMap wordB) * own W)) wx)
  case atStart => exact ⟨0, Nat.zero_le _, rfl, rfl, v, by rw [List.take_zero, List.flatMap_nil, List.append_nil]; exact HS.out⟩
  case round =>
    obtain ⟨k, hk, hg, rfl, v', hs⟩ := hrel
    have HG := Lib.hid hg
    have HS2 := Lib.hid hs
    clear hg HS
    by_cases hkl : k < n
    · have hki : (k : Int) < n := by omega
      have hkx : k < X.length := by rw [HN.out]; exact hkl
      obtain ⟨b, off, rfl, c0, lb⟩ := (HU.out.ext hs.r.r.toExt).int rfl hkx
      have HT := Lib.hid (take_words hkx)
      obtain ⟨y, hy⟩ : ∃ y, X[k] = y := ⟨_, rfl⟩
      rw [hy] at c0 HT
      have HW := Lib.hid (word_any y (by have h1 := words_len (X.take k); have h2 := HL.out; have h3 := HN.out; rw [List.length_append, h1, List.length_take]; omega) HS2.out)
      clear hs hy
      go_wp2_with fail
      with_reducible refine Calls.mono HW.out ?_
      rintro e w9 ⟨rfl, v2, h9⟩
      have H9 := Lib.hid h9
      clear h9 c0 lb
      go_wp2
      go_roundg (n - (k + 1))
      case measure => have := HG.out; omega
      case rel => exact ⟨k + 1, by omega, rfl, by go_num, v2, by rw [HT.out, ← List.append_assoc]; exact H9.out⟩
    · obtain rfl : k = n := by omega
      have hs2 := hs
      rw [List.take_of_length_le (by rw [HN.out]; exact Nat.le_refl _)] at hs2
      have HS3 := Lib.hid hs2
      clear hs hs2 HS2
      go_wp2
      go_end0
      exact ⟨rfl, v', HS3.out⟩

set_option maxRecDepth 100000 in
set_option maxHeartbeats 4000000 in
/-- the place of the first one -/
theorem index_at {u : Value} {X : List Int} {y : Int} {j : Nat} (hu : RdL intC 1 w u X) (hj : j < X.length) (hy : X[j] = y) (hb : ∀ i (h : i < X.length), i < j → X[i] ≠ y) :
    Calls Try.prog 24 #[u, .int .i64 y] w fun e w' => e = .returned (.int .i64 j) ∧ w' = w := by
  obtain ⟨ua, uc, rfl, -⟩ := hu.val
  obtain ⟨n, hn⟩ : ∃ n, X.length = n := ⟨_, rfl⟩
  have HN := Lib.hid hn
  have HU := Lib.hid hu
  have HY := Lib.hid hy
  have HB := Lib.hid hb
  have hle := hu.le
  rw [hn] at hle hj ⊢
  clear hu hn hy hb
  go_enter Try.func24, Try.ntmps24
  go_wp2_with fail
  go_loopg [8] n (fun gg s8 wx => ∃ k : Nat, k ≤ j ∧ gg = n - k ∧ s8 = .int .i64 k ∧ wx = w)
  case atStart => exact ⟨0, Nat.zero_le _, rfl, rfl, rfl⟩
  case round =>
    obtain ⟨k, hk, hg, rfl, rfl⟩ := hrel
    have HG := Lib.hid hg
    clear hg
    have hki : (k : Int) < n := by omega
    have hkx : k < X.length := by rw [HN.out]; omega
    obtain ⟨b, off, rfl, c0, lb⟩ := HU.out.int rfl hkx
    by_cases hkj : k = j
    · subst hkj
      rw [HY.out] at c0
      go_wp2
      go_ret
      exact ⟨rfl, rfl⟩
    · have hne := HB.out k hkx (by omega)
      obtain ⟨z, hz⟩ : ∃ z, X[k] = z := ⟨_, rfl⟩
      rw [hz] at c0 hne
      have hne2 : (y == z) = false := by rw [beq_eq_false_iff_ne]; exact fun h => hne h.symm
      have hne3 : ¬ y = z := fun h => hne h.symm
      clear hz hne
      go_wp2
      go_roundg (n - (k + 1))
      case measure => have := HG.out; omega
      case rel => exact ⟨k + 1, by omega, rfl, by go_num, rfl⟩

set_option maxRecDepth 100000 in
set_option maxHeartbeats 4000000 in
theorem compact_one {a : Option Addr} {n c : Nat} (hn : n ≤ 1) : Calls Try.prog 35 #[.slice a n c] w fun e w' => e = .returned (.slice a n c) ∧ w' = w := by
  have h2 : (n : Int) < 2 := by omega
  go_enter Try.func35, Try.ntmps35
  go_wp2
  go_ret
  exact ⟨rfl, rfl⟩
end Go.Proofs.Ytembknlhocijkaa
