/-
  The matcher's small methods. Conditions: those that each theorem names.
-/
import Derived.Test.YtlbebcioabfbgaaMacL
import Derived.Deep.RegionHeld3
namespace Go.Proofs.Ytlbebcioabfbgaa
open Go.RowKit Go.Sp
variable {W w w' : World} {F : HProp}

theorem par_any (t : Tok) (w : World) : Calls Try.prog 59 #[t.val] w fun e w' => e = .returned (.bool (isPar t)) ∧ w.alloc t.box = w' := by
  by_cases h : t.cat = 16
  · have hc : (t.cat == 16) = true := by simp [h]
    have HS := Lib.hid (show isPar t = (t.name.toList == [112, 97, 114]) by simp [isPar, h])
    clear h
    go_enter Try.func59, Try.ntmps59
    go_wp2
    go_ret
    exact ⟨by rw [HS.out]; rfl, rfl⟩
  · have hc : (t.cat == 16) = false := by simp [h]
    have HS := Lib.hid (show isPar t = false by simp [isPar, h])
    clear h
    go_enter Try.func59, Try.ntmps59
    go_wp2
    go_ret
    exact ⟨by rw [HS.out]; rfl, rfl⟩

/-- a panic with an error -/
abbrev died (k : Int) : Ending := .panicked [{ v := .iface 26 (.int .i64 k), recovered := false }]

theorem fail_any (v : Value) (k : Int) (w : World) : Calls Try.prog 58 #[v, .int .i64 k] w fun e w' => e = died k ∧ w = w' := by
  go_enter Try.func58, Try.ntmps58
  go_wp2
  exact ⟨rfl, rfl, rfl⟩

/-- the matcher in memory -/
abbrev useO (vp vb : Value) (long : Bool) (vl : Value) (at_ : Nat) : Obj := .cells #[vp, vb, .bool long, vl, .int .i64 at_] 69

/-- two things said of a world, closed to the walk -/
def Both (p q : World → Prop) (w : World) : Prop := p w ∧ q w

/-- the frame holds the list -/
def Holds (W : World) (F : HProp) (vl : Value) (L : List Tok) : Prop := ∀ w, Sat W F w → RdT w vl L

theorem peek_no (vp vb vl : Value) (long : Bool) (L : List Tok) (b i : Nat) (h : Sat W (pts b (useO vp vb long vl i) * F) w) (hL : Holds W F vl L) (hi : ¬ i < L.length) :
    Calls Try.prog 57 #[.pointer (some ⟨b, 0, none⟩)] w fun e w' => e = died 172 ∧ Sat W (pts b (useO vp vb long vl i) * F) w' := by
  have hr := hL w h.r
  obtain ⟨a, c, hv, hc⟩ := hr.capd
  have hle := hr.le
  generalize hn : L.length = n at *
  clear hn
  subst hv
  have H := Lib.hid h
  have m4 := h.cell (i := 4) rfl
  have m3 := h.cell (i := 3) rfl
  have hb := h.lt
  have hi' : (n : Int) ≤ (i : Int) := by omega
  clear hr h
  go_enter Try.func57, Try.ntmps57
  go_wp2
  go_quiet (fail)
  go_wp2_with (go_at_call 58; with_reducible refine Calls.mono (fail_any _ _ _) ?_; rintro e w' ⟨rfl, rfl⟩)
  exact ⟨rfl, rfl, H.out.allocD.drewN⟩

theorem peek_yes (vp vb vl : Value) (long : Bool) (L : List Tok) (b i : Nat) (h : Sat W (pts b (useO vp vb long vl i) * F) w) (hL : Holds W F vl L) (hi : i < L.length) :
    Calls Try.prog 57 #[.pointer (some ⟨b, 0, none⟩)] w fun e w' => e = .returned (Tok.val L[i]) ∧ Sat W (pts b (useO vp vb long vl i) * F) w' := by
  have hr := hL w h.r
  obtain ⟨a, c, hv, hc⟩ := hr.capd
  have hle := hr.le
  rw [hv] at hr
  obtain ⟨b', off, rfl, ⟨c0, c1, c2⟩, hb'⟩ := hr.at hi
  clear hr
  generalize L[i] = t at *
  generalize hn : L.length = n at *
  clear hn
  subst hv
  have m4 := h.cell (i := 4) rfl
  have m3 := h.cell (i := 3) rfl
  have hb := h.lt
  have hi1 : ¬ (n : Int) ≤ (i : Int) := by omega
  have hi2 : (i : Int) < (n : Int) := by omega
  have h1 := h.alloc (.cells #[.int .i64 0, .int .u8 0, .string ByteArray.empty] 46)
  have H1 := Lib.hid (show ∀ q, Sat W (pts w.heap.size (.cells #[.int .i64 0, .int .u8 0, .string ByteArray.empty] 46 (0, 0)) * (pts b (useO vp vb long (.slice (some ⟨b', off, none⟩) n c) i) * F)) (((w.alloc (.cells #[.int .i64 0, .int .u8 0, .string ByteArray.empty] 46)).drewN q).drew) ∧ At (((w.alloc (.cells #[.int .i64 0, .int .u8 0, .string ByteArray.empty] 46)).drewN q).drew) b' (off + i * 3) t from
    fun q => ⟨h1.drewN.drew, (At.mk c0 c1 c2 : At w b' (off + i * 3) t).ext (((Ext.refl w).alloc).drewN.drew)⟩)
  clear h hi h1
  go_enter Try.func57, Try.ntmps57
  go_wp2
  go_quiet (fail)
  go_wp2
  generalize w.heap.size = r at *
  clear c0 c1 c2 m4 m3
  refine wp_region_tail (Both (Sat W (pts r (.cells #[.int .i64 0, .int .u8 0, .string ByteArray.empty] 46 (0, 0)) * (pts b (useO vp vb long (.slice (some ⟨b', off, none⟩) n c) i) * F))) (At · b' (off + i * 3) t)) 10 (by kernel_rfl) (by kernel_rfl) (H1.out _) ?_
  simp only [List.take_succ_cons, List.take_zero, List.drop_succ_cons, List.drop_zero]
  repeat (refine wpQuiet_step (fun K hK => ?_); go_simp; first | (refine hK _ ?_; clear hK K) | (apply Exists.intro; refine ⟨fun w' hw' => ?_, hK _ ?_⟩; (first | rfl | (obtain ⟨hS, c0, c1, c2⟩ := hw'; have m4 := hS.r.cell (i := 4) rfl; have m3 := hS.r.cell (i := 3) rfl; go_simp; first | done | rfl)); clear hK K))
  refine wpQuiet_nil ?_
  rintro w1 ⟨hS, -⟩
  have r0 := hS.cell (i := 0) rfl
  have r1 := hS.cell (i := 1) rfl
  have r2 := hS.cell (i := 2) rfl
  have f0 := hS.free (i := 0)
  have f1 := hS.free (i := 1)
  have f2 := hS.free (i := 2)
  have lr := hS.lt
  have HS := Lib.hid (((hS.set (i := 0) (v := .int .i64 t.cat)).set (i := 1) (v := .int .u8 t.chr.toNat)).set (i := 2) (v := .string t.name)).r
  clear hS
  go_wp2
  exact bodyPost_ret (v := Tok.val t) (by unfold results; go_simp) rfl ⟨rfl, HS.out⟩

end Go.Proofs.Ytlbebcioabfbgaa
