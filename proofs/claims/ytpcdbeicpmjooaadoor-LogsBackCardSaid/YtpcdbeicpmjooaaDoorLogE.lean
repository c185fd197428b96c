
/-
  Package logs: the log. Conditions: those that each theorem names.
-/
import Derived.Test.YtpcdbeicpmjooaaDoorLogD
import Derived.Test.YtpcdbeicpmjooaaDoorTokRow
import Derived.Laws.BytesArg
import Derived.Laws.IdiomStrings
import Derived.Deep.DeepCutAuto
import Derived.Deep.CutBlock
namespace Go.Proofs.YtpcdbeicpmjooaaDoor
open Go.RowKit Go.Sp
variable {W w w' : World} {F F' : HProp}

theorem conv_row {v : Value} {l : List UInt8} {A : HProp} (h : Sat W (rowB v l * A) w) : (convert 38 9 v).run Tryd.prog w = .ok ((.string ⟨l.toArray⟩)) w := by
  obtain ⟨hl, hc⟩ := h.row_cases
  rcases hc with ⟨rfl, h0, _⟩ | ⟨g, cap, cur, rfl, _⟩
  · have : l = [] := List.eq_nil_of_length_eq_zero h0
    subst this
    exact run_convert_bytes_nil (P := Tryd.prog) (w := w) 38 5 Tryd.underlying38 Tryd.underlying5 0 0 9 Tryd.underlying9
  · obtain ⟨a, cap', e1, _, e2⟩ := rowB_val h
    cases e1
    refine run_convert_bytes_back (P := Tryd.prog) w 38 9 5 ⟨g, 0, none⟩ cap l Tryd.underlying38 Tryd.underlying5 Tryd.underlying9 fun j hj => ?_
    obtain ⟨g', e3, e4⟩ := e2 j hj
    cases e3
    rw [Addr.add_lit, Nat.zero_add]
    exact e4

theorem new_cellB (w : World) (c : UInt8) (e : TypeId) : ∀ (j : Nat) (u : Value), ([.int .u8 c.toNat] : List Value)[j]? = some u → (w.alloc (.cells #[.int .u8 c.toNat] e)).cell? ((⟨w.heap.size, 0, none⟩ : Addr).add j) = some u := by
  intro j u hu
  exact new_cells w #[.int .u8 c.toNat] e j u hu

abbrev lgO (v : Value) (width col : Int) : Obj := .cells #[v, .int .i64 width, .int .i64 col] 71
/-- the log b -/
def LgAt (W : World) (F : HProp) (b : Nat) (width : Nat) (txt : List UInt8) (col : Nat) (w : World) : Prop :=
  ∃ v, 1 ≤ width ∧ width ≤ 1000 ∧ col ≤ 2000 ∧ txt.length ≤ 1048576 ∧ Sat W (pts b (lgO v width col) * (rowB v txt * F)) w

theorem LgAt.sat {b width col : Nat} {txt : List UInt8} (h : LgAt W F b width txt col w) : Sat W F w := by
  obtain ⟨v, _, _, _, _, hs⟩ := h
  exact hs.r.r

theorem good_nil (w : World) : Calls Tryd.prog 29 #[.pointer none] w fun e w' => e = .returned (.bool false) ∧ w = w' := by
  go_enter Tryd.func29, Tryd.ntmps29
  go_wp2
  go_ret
  exact ⟨rfl, rfl⟩
theorem good_zero {b : Nat} (h : w.cell? ⟨b, 1, none⟩ = some (.int .i64 0)) : Calls Tryd.prog 29 #[.pointer (some ⟨b, 0, none⟩)] w fun e w' => e = .returned (.bool false) ∧ w = w' := by
  go_enter Tryd.func29, Tryd.ntmps29
  go_wp2
  go_ret
  exact ⟨rfl, rfl⟩
theorem good_yes {b : Nat} {k : Nat} (hk : 1 ≤ k) (h : w.cell? ⟨b, 1, none⟩ = some (.int .i64 k)) : Calls Tryd.prog 29 #[.pointer (some ⟨b, 0, none⟩)] w fun e w' => e = .returned (.bool true) ∧ w = w' := by
  have i1 : 0 < k := by omega
  go_enter Tryd.func29, Tryd.ntmps29
  go_wp2
  go_ret
  exact ⟨rfl, rfl⟩

theorem newLg_any (k : Nat) (h1 : 1 ≤ k) (h2 : k ≤ 1000) (h : Sat W F w) : Calls Tryd.prog 18 #[.int .i64 k] w fun e w' => ∃ b, e = .returned (.tuple #[.pointer (some ⟨b, 0, none⟩), .int .i64 0]) ∧ LgAt W F b k [] 0 w' := by
  have HF := Lib.hid (show LgAt W F w.heap.size k [] 0 (w.alloc (lgO (.slice none 0 0) k 0)) from
    ⟨.slice none 0 0, h1, h2, by omega, by simp, (Sat.row_nil (e := 5) (size := 1) h).alloc _⟩)
  have i1 : ¬ (k : Int) < 1 := by omega
  have i2 : ¬ (1000 : Int) < (k : Int) := by omega
  clear h
  go_enter Tryd.func18, Tryd.ntmps18
  go_wp2
  go_ret2
  exact ⟨_, rfl, HF.out⟩

theorem text_none {v : Value} (h : ∀ w, Calls Tryd.prog 29 #[v] w fun e w' => e = .returned (.bool false) ∧ w = w') (w : World) : Calls Tryd.prog 20 #[v] w fun e w' => e = .returned (.string ⟨#[]⟩) ∧ w = w' := by
  have HG := Lib.hid h
  clear h
  go_enter Tryd.func20, Tryd.ntmps20
  go_wp2_with fail
  refine Calls.mono (HG.out _) ?_
  rintro e w' ⟨rfl, rfl⟩
  go_wp2
  go_ret
  exact ⟨rfl, rfl⟩

theorem text_any {b width col : Nat} {txt : List UInt8} (h : LgAt W F b width txt col w) : Calls Tryd.prog 20 #[.pointer (some ⟨b, 0, none⟩)] w fun e w' => e = .returned ((.string ⟨txt.toArray⟩)) ∧ w = w' := by
  obtain ⟨v, h1, h2, h3, h4, hs⟩ := h
  have HG := Lib.hid (good_yes h1 (hs.cell (i := 1) rfl))
  have c0 := hs.cell (i := 0) rfl
  have hcv := conv_row hs.r
  obtain ⟨a, cap, rfl, -, -⟩ := rowB_val hs.r
  generalize (⟨txt.toArray⟩ : ByteArray) = s at *
  clear hs
  go_enter Tryd.func20, Tryd.ntmps20
  go_wp2_with fail
  refine Calls.mono HG.out ?_
  rintro e w' ⟨rfl, rfl⟩
  go_wp2
  go_ret
  exact ⟨rfl, rfl⟩

theorem add_none {v : Value} (h : ∀ w, Calls Tryd.prog 29 #[v] w fun e w' => e = .returned (.bool false) ∧ w = w') (s : ByteArray) (w : World) : Calls Tryd.prog 19 #[v, .string s] w fun e w' => e = .returned (.int .i64 1) ∧ w = w' := by
  have HG := Lib.hid h
  clear h
  go_enter Tryd.func19, Tryd.ntmps19
  go_wp2_with fail
  refine Calls.mono (HG.out _) ?_
  rintro e w' ⟨rfl, rfl⟩
  go_wp2
  go_ret
  exact ⟨rfl, rfl⟩

theorem room_any {b : Nat} {a : Option Addr} {n c : Nat} (m : Nat) (hn : n ≤ 1048576) (hm : m ≤ 1000000000) (h : w.cell? ⟨b, 0, none⟩ = some (.slice a n c)) :
    Calls Tryd.prog 30 #[.pointer (some ⟨b, 0, none⟩), .int .i64 m] w fun e w' => e = .returned (.bool (decide (n + m ≤ 1048576))) ∧ w = w' := by
  by_cases hle : n + m ≤ 1048576
  · have i1 : (n : Int) + (m : Int) ≤ 1048576 := by omega
    rw [decide_eq_true hle]
    clear hle
    go_enter Tryd.func30, Tryd.ntmps30
    go_wp2
    go_ret
    exact ⟨rfl, rfl⟩
  · have i1 : ¬ (n : Int) + (m : Int) ≤ 1048576 := by omega
    rw [decide_eq_false hle]
    clear hle
    go_enter Tryd.func30, Tryd.ntmps30
    go_wp2
    go_ret
    exact ⟨rfl, rfl⟩

end Go.Proofs.YtpcdbeicpmjooaaDoor
