
/-
  A font is chosen. Conditions: those that each theorem names.
-/
import Derived.Test.YtjeinldhbajknaaDvH
namespace Go.Proofs.Ytjeinldhbajknaa
open Go.RowKit Go.Sp Go.Conc
variable {W w w' : World} {A : HProp}

theorem FileAt.allocD {b : Nat} {F : FileM} (h : FileAt W A b F w) {o : Obj} : FileAt W A b F (w.alloc o) := by
  obtain ⟨Y, h1, back⟩ := h.focus
  exact back _ _ h1.allocD
theorem FileAt.drewD {b : Nat} {F : FileM} (h : FileAt W A b F w) : FileAt W A b F w.drew := by
  obtain ⟨Y, h1, back⟩ := h.focus
  exact back _ _ h1.drew
theorem FileAt.ext {b : Nat} {F : FileM} (h : FileAt W A b F w) (k : Ext w w') : FileAt W A b F w' := by
  obtain ⟨Y, h1, back⟩ := h.focus
  exact back _ _ (h1.ext k)
theorem FileAt.allocX {b : Nat} {F : FileM} (h : FileAt W A b F w) (o : Obj) : FileAt W (pts w.heap.size o * A) b F (w.alloc o) := by
  obtain ⟨Y, h1, back⟩ := h.focus
  exact back _ _ ((h1.alloc o).asc')
theorem FileAt.less {B : HProp} {b : Nat} {F : FileM} (h : FileAt W (B * A) b F w) : FileAt W A b F w := by
  obtain ⟨Y, h1, back⟩ := h.focus
  exact back _ _ (h1.asc.r)

def zeroD : DefM := ⟨0, 0, 0, 0, ⟨#[]⟩⟩
theorem zero_def (w : World) : (zeroValue 56).run Try.prog w = .ok zeroD.val w := by kernel_rfl
theorem keyI : KeyT Try.prog 3 (Value.int .i64) := keyT_int Try.underlying3
/-- what the fonts tell of a number -/
theorem font_look {b : Nat} {F : FileM} {m : Nat → Option Obj} {fb tb nt : Nat} {ov av pv : Value} {V : List (Cmd × Value)}
    (h : Sat W (pts b (fileO ov fb av tb F pv) * (roH m * (row ov V.length 33 4 (flatO V) * (mapE (Value.int .i64) DefM.val fb F.nf F.fonts * (row av F.again.length 56 5 (flatD F.again) * (mapE (Value.int .i64) (Value.int .i64) tb nt F.told * A)))))) w) (n : Int) :
    (Instr.lookup 75 (.map (some fb)) (.int .i64 n) true).run Try.prog w = .ok (.tuple #[((F.fonts n).getD zeroD).val, .bool (F.fonts n).isSome]) w := by
  have := (h.r.r.r.mapE_weak).map_look (mt := 75) keyI Try.underlying75 zero_def n true
  rw [this]
  cases F.fonts n <;> rfl

def FileM.choose (F : FileM) (n : Int) : FileM := { F.fail (!(F.fonts n).isSome) with chosen := n, some_ := true }

set_option maxRecDepth 100000 in
set_option maxHeartbeats 4000000 in
theorem choose_any {b : Nat} {F : FileM} (n : Int) (h : FileAt W A b F w) : Calls Try.prog 50 #[.pointer (some ⟨b, 0, none⟩), .int .i64 n] w fun e w' => e = .returned (.tuple #[]) ∧ FileAt W A b (F.choose n) w' := by
  have H := Lib.hid h
  obtain ⟨m, fb, tb, nt, ov, av, pv, V, h1, h2⟩ := h
  have hlk := font_look h2 n
  have c1 := h2.cell (i := 1) rfl
  have lb := h2.lt
  have e0 : F.choose n = { F.fail (!(F.fonts n).isSome) with chosen := n, some_ := true } := rfl
  rw [e0]
  obtain ⟨x, hx⟩ : ∃ x, (F.fonts n).isSome = x := ⟨_, rfl⟩
  obtain ⟨d, hd⟩ : ∃ d, (F.fonts n).getD zeroD = d := ⟨_, rfl⟩
  rw [hx, hd] at hlk
  rw [hx]
  obtain ⟨d1, d2, d3, d4, d5⟩ := d
  unfold DefM.val at hlk
  simp only at hlk
  have HF := Lib.hid (fail_any (!x) (H.out.allocD (o := .cells #[.int .i64 d1, .int .i64 d2, .int .i64 d3, .int .i64 d4, .string d5] 56)))
  obtain ⟨F2, hF2⟩ : ∃ F2, F.fail (!x) = F2 := ⟨_, rfl⟩
  rw [hF2] at HF
  rw [hF2]
  clear h1 h2 hx hd e0 hF2 H
  go_enter Try.func50, Try.ntmps50
  go_wp2_with fail
  refine Calls.mono HF.out ?_
  rintro e w3 ⟨rfl, h3⟩
  obtain ⟨m', fb', tb', nt', ov', av', pv', V', h4, h5⟩ := h3
  have c9 := h5.cell (i := 9) rfl
  have c10 := h5.cell (i := 10) rfl
  have f9 := h5.free (i := 9)
  have f10 := h5.free (i := 10)
  have l5 := h5.lt
  have h6 := (h5.set (i := 9) (v := .int .i64 n)).set (i := 10) (v := .bool true)
  have H6 := Lib.hid h6
  have H4 := Lib.hid h4
  clear h4 h5 h6 HF hlk c1 lb
  go_wp2
  exact ⟨rfl, .tuple #[], by unfold results; go_simp, rfl, m', fb', tb', nt', ov', av', pv', V', H4.out, H6.out⟩

end Go.Proofs.Ytjeinldhbajknaa
