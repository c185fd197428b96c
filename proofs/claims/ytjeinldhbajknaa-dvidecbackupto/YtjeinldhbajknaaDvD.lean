
/-
  A text out of a feed. Conditions: those that each theorem names.
-/
import Derived.Test.YtjeinldhbajknaaDvC
import Derived.Test.YtjeinldhbajknaaRowM
import Derived.Laws.MakeOwn
import Derived.Laws.OwnMore
namespace Go.Proofs.Ytjeinldhbajknaa
open Go.RowKit Go.Sp Go.Conc
variable {W w w' : World} {A : HProp}

theorem FeedAt.focus {b c cap : Nat} {l : List UInt8} {n : Nat} {lost : Bool} (h : FeedAt W A b c cap l n lost w) : ∃ Y : HProp, Sat W (A * Y) w ∧ ∀ (A' : HProp) (w' : World), Sat W (A' * Y) w' → FeedAt W A' b c cap l n lost w' := by
  obtain ⟨s, r, h⟩ := h
  exact ⟨pts b (.cells #[.chan (some c), .int .i64 n, .bool lost] 110) * pts c (chanO cap l true s r), h.of_eq (by ac_rfl), fun A' w' h => ⟨s, r, h.of_eq (by ac_rfl)⟩⟩
theorem FeedAt.less {B : HProp} {b c cap : Nat} {l : List UInt8} {n : Nat} {lost : Bool} (h : FeedAt W (B * A) b c cap l n lost w) : FeedAt W A b c cap l n lost w := by
  obtain ⟨s, r, h⟩ := h
  exact ⟨s, r, (h.of_eq (show _ = B * (pts b (.cells #[.chan (some c), .int .i64 n, .bool lost] 110) * (pts c (chanO cap l true s r) * A)) by ac_rfl)).r⟩
theorem FeedAt.sat {b c cap : Nat} {l : List UInt8} {n : Nat} {lost : Bool} (h : FeedAt W A b c cap l n lost w) : Sat W A w := by
  obtain ⟨s, r, h⟩ := h
  exact h.r.r

/-- a text of so many bytes -/
def Fd.txt (n : Int) (f : Fd) : List UInt8 × Fd := if n < 0 ∨ (f.l.length : Int) < n then ([], ⟨f.l, f.at_, true⟩) else (f.l.take n.toNat, ⟨f.l.drop n.toNat, f.at_ + n.toNat, f.lost⟩)

set_option maxRecDepth 100000 in
theorem text_bad {b c cap : Nat} {l : List UInt8} {k : Nat} {lost : Bool} (n : Int) (hn : n < 0 ∨ (l.length : Int) < n) (h : FeedAt W A b c cap l k lost w) :
    Calls Try.prog 49 #[.pointer (some ⟨b, 0, none⟩), .int .i64 n] w fun e w' => e = .returned (.string ⟨#[]⟩) ∧ FeedAt W A b c cap l k true w' := by
  obtain ⟨s, r, h⟩ := h
  have H := Lib.hid h
  have c0 := h.cell (i := 0) rfl
  have c2 := h.cell (i := 2) rfl
  have lb := h.lt
  have f2 := h.free (i := 2)
  have hln : ∀ ty, (Builtin.len_ #[108] ty #[.chan (some c)]).run Try.prog w = .ok (.int .i64 (l.length : Int)) w := fun ty => by
    have := run_len_chan (P := Try.prog) 108 ty Try.underlying108 h.r.blk
    rw [this]
    simp [goInt]
  clear h
  have H2 := Lib.hid (H.out.set (i := 2) (v := .bool true))
  by_cases h0 : n < 0
  · go_enter Try.func49, Try.ntmps49
    go_wp2
    go_ret
    exact ⟨rfl, s, r, H2.out⟩
  · have h1 : (l.length : Int) < n := by omega
    go_enter Try.func49, Try.ntmps49
    go_wp2
    go_ret
    exact ⟨rfl, s, r, H2.out⟩

theorem FeedAt.made {b c cap : Nat} {l : List UInt8} {q : Nat} {lost : Bool} (h : FeedAt W A b c cap l q lost w) (n : Nat) (hn : n ≤ 1048576) :
    FeedAt W (rowM (.slice (some ⟨w.heap.size, 0, none⟩) n n) (List.replicate n 0) * A) b c cap l q lost (w.alloc (.cells (madeCells #[.int .u8 0] n) 5)) := by
  obtain ⟨Y, h1, back⟩ := h.focus
  have h2 := (h1.alloc (.cells (madeCells #[.int .u8 0] n) 5)).rowM_mk (xs := List.replicate n 0) (cap := n) (by simp) (by simp [maxLen]; omega) (size_madeCells _ _) (by
    rw [toList_madeCells_one, List.length_replicate, List.take_of_length_le (by simp)]
    simp [bytesV]) (.inl rfl)
  rw [List.length_replicate] at h2
  exact back _ _ h2.asc'
theorem FeedAt.setB {b c cap g k n : Nat} {l xs : List UInt8} {q : Nat} {lost : Bool} (h : FeedAt W (rowM (.slice (some ⟨g, 0, none⟩) n n) xs * A) b c cap l q lost w) (x : UInt8) :
    FeedAt W (rowM (.slice (some ⟨g, 0, none⟩) n n) (xs.set k x) * A) b c cap l q lost (w.setCell ⟨g, k, none⟩ (.int .u8 x.toNat)) := by
  obtain ⟨Y, h1, back⟩ := h.focus
  exact back _ _ (h1.asc.rowM_set).asc'
theorem conv_rowM {v : Value} {l : List UInt8} (h : Sat W (rowM v l * A) w) : (convert 22 9 v).run Try.prog w = .ok (.string ⟨l.toArray⟩) w := by
  rcases h.rowM_cases with ⟨rfl, rfl, _⟩ | ⟨g, cap, cur, f, rfl, _⟩
  · exact run_convert_bytes_nil (P := Try.prog) (w := w) 22 5 Try.underlying22 Try.underlying5 0 0 9 Try.underlying9
  · obtain ⟨a, cap', e1, _, _, e2⟩ := h.rowM_val
    cases e1
    refine run_convert_bytes_back (P := Try.prog) w 22 9 5 ⟨g, 0, none⟩ cap l Try.underlying22 Try.underlying5 Try.underlying9 fun j hj => ?_
    obtain ⟨g', e3, e4, _⟩ := e2 j hj
    cases e3
    rw [Addr.add_lit, Nat.zero_add]
    exact e4
theorem set_next (l : List UInt8) (n k : Nat) (hk : k < n) (hn : n ≤ l.length) : (l.take k ++ List.replicate (n - k) 0).set k (l[k]'(by omega)) = l.take (k + 1) ++ List.replicate (n - (k + 1)) 0 := by
  have h1 : (l.take k).length = k := by simp; omega
  rw [List.set_append_right _ _ (by omega), h1, Nat.sub_self, show n - k = (n - (k + 1)) + 1 by omega, List.replicate_succ, List.set_cons_zero, List.take_succ_eq_append_getElem (by omega), List.append_assoc]
  rfl

set_option maxRecDepth 100000 in
set_option maxHeartbeats 4000000 in
theorem text_good {b c cap : Nat} {l : List UInt8} {q : Nat} {lost : Bool} (n : Nat) (hn : n ≤ l.length) (hq : q + l.length ≤ 1048576) (h : FeedAt W A b c cap l q lost w) :
    Calls Try.prog 49 #[.pointer (some ⟨b, 0, none⟩), .int .i64 n] w fun e w' => e = .returned (.string ⟨(l.take n).toArray⟩) ∧ FeedAt W A b c cap (l.drop n) (q + n) lost w' := by
  have H := Lib.hid h
  obtain ⟨s, r, h⟩ := h
  have c0 := h.cell (i := 0) rfl
  have lb := h.lt
  have hln : ∀ ty, (Builtin.len_ #[108] ty #[.chan (some c)]).run Try.prog w = .ok (.int .i64 (l.length : Int)) w := fun ty => by
    have := run_len_chan (P := Try.prog) 108 ty Try.underlying108 h.r.blk
    rw [this]
    simp [goInt]
  obtain ⟨i0, hi, hz, hsz, hby⟩ := info_parts3 info_u8
  have hmk : (Instr.makeSlice 22 (.int .i64 n) (.int .i64 n)).run Try.prog w = .ok (.slice (some ⟨w.heap.size, 0, none⟩) n n) (w.alloc (.cells (madeCells #[.int .u8 0] n) 5)) := by
    have := run_make (P := Try.prog) w 22 5 i0 _ Try.underlying22 hi hz .i64 .i64 (n : Int) (n : Int) (by omega) (by omega) (by rw [hby]; omega) (by omega)
    rw [hsz, Int.toNat_natCast, Nat.mul_one] at this
    exact this
  have h5 := H.out.made n (by omega)
  obtain ⟨g, hg⟩ : ∃ g, w.heap.size = g := ⟨_, rfl⟩
  obtain ⟨W5, hW5⟩ : ∃ W5, w.alloc (.cells (madeCells #[.int .u8 0] n) 5) = W5 := ⟨_, rfl⟩
  rw [hg] at h5 hmk
  rw [hW5] at h5 hmk
  have H5 := Lib.hid h5
  have i1 : ¬ (n : Int) < 0 := by omega
  have i2 : ¬ (l.length : Int) < (n : Int) := by omega
  clear h hi hz hby hsz hg hW5 h5
  go_enter Try.func49, Try.ntmps49
  go_wp2_with fail
  go_loopg [6, 25] n (fun gg _ s25 wx => ∃ (k : Nat), k ≤ n ∧ gg = n - k ∧ s25 = .int .i64 k ∧ FeedAt W (rowM (.slice (some ⟨g, 0, none⟩) n n) (l.take k ++ List.replicate (n - k) 0) * A) b c cap (l.drop k) (q + k) lost wx)
  case atStart => exact ⟨0, by omega, rfl, by go_num, H5.out⟩
  case round =>
    obtain ⟨k, hk, rfl, rfl, hx⟩ := hrel
    have HX := Lib.hid hx
    clear hx H H5
    by_cases hlt : k < n
    · have i1 : (k : Int) < (n : Int) := by omega
      obtain ⟨x, hx⟩ : ∃ x, l[k]'(by omega) = x := ⟨_, rfl⟩
      have hd : l.drop k = x :: l.drop (k + 1) := by rw [← hx]; exact List.drop_eq_getElem_cons (by omega)
      have hx1 := HX.out
      rw [hd] at hx1
      have HN := Lib.hid (next_some (by omega) hx1)
      have hs9 := set_next l n k hlt hn
      rw [hx] at hs9
      have HS := Lib.hid hs9
      clear hx1 hd hs9 hx
      go_wp2_with fail
      refine Calls.mono HN.out ?_
      rintro e w2 ⟨rfl, h2⟩
      obtain ⟨Y, h3, _⟩ := h2.focus
      obtain ⟨a, cp, hv, _, _, hcell⟩ := h3.asc.rowM_val
      obtain ⟨g', e1, e2, e3, e4⟩ := hcell k (by simp; omega)
      simp only [Value.slice.injEq] at hv
      obtain ⟨ha, -, -⟩ := hv
      rw [← ha] at e1
      simp only [Option.some.injEq, Addr.mk.injEq, and_true] at e1
      subst e1
      have h6 := h2.setB (k := k) x
      rw [HS.out] at h6
      have H6 := Lib.hid h6
      have hx9 := x.toNat_lt
      have q8 : IntKind.u8.wrap (x.toNat : Int) = (x.toNat : Int) := by
        show (x.toNat : Int) % 256 = _
        omega
      clear h2 h3 h6 hcell ha HX
      go_wp2
      go_roundg (n - (k + 1))
      case measure => omega
      case rel => exact ⟨k + 1, by omega, rfl, by go_num, H6.out⟩
    · obtain rfl : n = k := by omega
      have hx1 := HX.out
      rw [Nat.sub_self, List.replicate_zero, List.append_nil] at hx1
      have HL := Lib.hid hx1.less
      obtain ⟨Y, h3, _⟩ := hx1.focus
      have HC := Lib.hid (conv_rowM h3.asc)
      clear hx1 h3 HX
      have hcv := HC.out
      go_wp2
      go_ret
      exact ⟨rfl, HL.out⟩

theorem text_any {b c cap : Nat} {f : Fd} (n : Int) (h : FdAt W A b c cap f w) :
    Calls Try.prog 49 #[.pointer (some ⟨b, 0, none⟩), .int .i64 n] w fun e w' => e = .returned (.string ⟨(f.txt n).1.toArray⟩) ∧ FdAt W A b c cap (f.txt n).2 w' := by
  obtain ⟨l, q, lost⟩ := f
  obtain ⟨h1, h2⟩ := h
  simp only at h1 h2
  by_cases hn : n < 0 ∨ (l.length : Int) < n
  · rw [Fd.txt, if_pos hn]
    exact (text_bad n hn h2).mono fun _ _ ⟨he, hs⟩ => ⟨he, h1, hs⟩
  · rw [Fd.txt, if_neg hn]
    obtain ⟨m, rfl⟩ : ∃ m : Nat, n = m := ⟨n.toNat, by omega⟩
    simp only [Int.toNat_natCast]
    exact (text_good m (by omega) h1 h2).mono fun _ _ ⟨he, hs⟩ => ⟨he, by simp only [List.length_drop]; omega, hs⟩

end Go.Proofs.Ytjeinldhbajknaa
