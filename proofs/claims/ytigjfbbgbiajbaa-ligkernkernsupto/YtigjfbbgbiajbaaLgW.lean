/-
  The law's live: the small font, run. Conditions: none.
-/
import Derived.Test.YtigjfbbgbiajbaaLgV
import Derived.Lib.SlBytesConst
namespace Go.Proofs.Ytigjfbbgbiajbaa
open Go.RowKit Go.Sp
variable {w W : World} {x : FV} {F : Fnt} {A : HProp}

def liveP : List Pc := [⟨2, 12, 2, 0⟩, ⟨1, 97, 1, 0⟩, ⟨8, 0, 0, -20000⟩, ⟨1, 118, 1, 0⟩]
theorem live_pieces : (runM smallF [102, 105, 97, 118]).map pieceM = liveP := by rw [small_run]; rfl
abbrev wordO : Obj := .cells #[.int .u8 102, .int .u8 105, .int .u8 97, .int .u8 118] 5 (4, 5)
theorem word_rd (w : World) : RdL byteC 1 (w.alloc wordO) (.slice (some ⟨w.heap.size, 0, none⟩) 4 4) [102, 105, 97, 118] :=
  ⟨⟨rfl, by simp only [maxLen, List.length_cons, List.length_nil]; omega, _, _, rfl, fun j u hu => ⟨_, 0, rfl, by rw [Nat.zero_add]; exact ((Sat.start w).alloc wordO).cell (by rw [← hu, ← Array.getElem?_toList]; rfl)⟩⟩, _, _, rfl, Nat.le_refl _⟩
abbrev liveO : Obj := .cells #[.int .i64 2, .int .u8 12, .int .i64 2, .int .i64 0, .int .i64 1, .int .u8 97, .int .i64 1, .int .i64 0, .int .i64 8, .int .u8 0, .int .i64 0, .int .i64 (-20000), .int .i64 1, .int .u8 118, .int .i64 1, .int .i64 0] 43
theorem live_rd (w : World) : RdL Pc.cells 4 (w.alloc liveO) (.slice (some ⟨w.heap.size, 0, none⟩) 4 4) liveP :=
  ⟨(Sat.row_whole (size := 4) 4 ((Sat.start w).alloc liveO) (by simp only [maxLen]; omega) rfl).rd, _, _, rfl, Nat.le_refl _⟩
theorem live_run (h : RdF w x smallF) : Calls Try.prog 10 #[smallF.val x, .slice (some ⟨w.heap.size, 0, none⟩) 4 4, .bool false, .bool false] (w.alloc wordO) fun e w' => ∃ u, e = .returned (.tuple #[u, .int .i64 0]) ∧ Sat (w.alloc wordO) (rowP u liveP * own (w.alloc wordO)) w' := by
  have hl := lrun_any (h.ext ((Ext.refl w).alloc (o := wordO))) (word_rd w) small_check small_there (by decide) small_ok (by rw [small_run]; decide) (by rw [small_run]; decide)
  rwa [live_pieces] at hl
set_option maxRecDepth 100000 in
set_option maxHeartbeats 2000000 in
theorem live_any (w : World) : Calls Try.prog 7 #[] w fun e w' => e = .returned (.bool true) ∧ Ext w w' := by
  have kc := fun (w : World) (C : Array Value) (n c : Nat) => Lib.run_convert_bytes_const (P := Try.prog) w 29 5 C n c Try.underlying29 Try.underlying5
  go_enter Try.func7, Try.ntmps7
  go_wp2_with fail
  with_reducible refine Calls.mono (small_any _) ?_
  rintro e w1 ⟨x, rfl, hx, hw⟩
  have HL := Lib.hid (live_run hx)
  have HW := Lib.hid (hw.alloc (o := wordO))
  clear hx hw
  go_wp2_with fail
  with_reducible refine Calls.mono HL.out ?_
  rintro e w2 ⟨u, rfl, hs⟩
  have HX := Lib.hid ((HW.out.trans hs.r.toExt).alloc (o := liveO))
  have HP := Lib.hid (lpieces_any ((rowP_rd hs).ext ((Ext.refl w2).alloc (o := liveO))) (live_rd w2))
  clear hs HL
  go_wp2_with fail
  with_reducible refine Calls.mono (num_any _ _) ?_
  rintro e w3 ⟨rfl, rfl⟩
  go_wp2_with fail
  with_reducible refine Calls.mono HP.out ?_
  rintro e w4 ⟨rfl, hx⟩
  have HY := Lib.hid (HX.out.trans hx)
  clear HX hx HP

  go_wp2
  go_ret
  exact ⟨rfl, HY.out⟩
end Go.Proofs.Ytigjfbbgbiajbaa
