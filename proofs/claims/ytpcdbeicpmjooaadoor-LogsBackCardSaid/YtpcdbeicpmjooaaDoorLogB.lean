
/-
  strings.Builder. Conditions: those that each theorem names.
-/
import Derived.Test.YtpcdbeicpmjooaaDoorLogA
import Derived.Lib.Builder
namespace Go.Proofs.YtpcdbeicpmjooaaDoor
open Go.RowKit Go.Sp
variable {W w w' : World} {F F' : HProp}

abbrev bdO (p : Option Addr) (v : Value) : Obj := .cells #[.pointer p, v] 40
/-- the builder b holds l -/
def BdAt (W : World) (F : HProp) (b : Nat) (l : List UInt8) (w : World) : Prop :=
  ∃ (p : Option Addr) (v : Value), (p = none ∨ p = some ⟨b, 0, none⟩) ∧ (v = .slice none 0 0 ↔ l = []) ∧ Sat W (pts b (bdO p v) * (rowB v l * F)) w

theorem sizeBuilder : (Tryd.prog.info? 40).map (·.size) = some 2 := by kernel_rfl
theorem liesBuilder : liesAt Tryd.prog Tryd.prog.depth 40 (2 / Tryd.prog.cellsOf 40) 0 40 1 = true := by kernel_rfl

theorem BdAt.new (h : Sat W F w) : BdAt W F w.heap.size [] (w.alloc (bdO none (.slice none 0 0))) :=
  ⟨none, .slice none 0 0, .inl rfl, by simp, ((Sat.row_nil (e := 5) (size := 1) h).alloc _)⟩

theorem BdAt.sat {b : Nat} {l : List UInt8} (h : BdAt W F b l w) : Sat W F w := by
  obtain ⟨p, v, h1, h2, h3⟩ := h
  exact h3.r.r
theorem BdAt.of_eq {b : Nat} {l : List UInt8} (h : BdAt W F b l w) (e : F = F') : BdAt W F' b l w := e ▸ h

theorem check_new {b : Nat} {v : Value} {A : HProp} (h : Sat W (pts b (bdO none v) * A) w) : Calls Tryd.prog 24 #[.pointer (some ⟨b, 0, none⟩)] w fun e w' => e = .returned (.tuple #[]) ∧ Sat W (pts b (bdO (some ⟨b, 0, none⟩) v) * A) w' := by
  obtain ⟨j, hj, hjs⟩ := Option.map_eq_some_iff.1 sizeBuilder
  have c0 := h.cell (i := 0) rfl
  have f0 := h.free (i := 0)
  have lb := h.lt
  have hsh : w.shape? b = some (40, 2) := by simp [World.shape?, h.blk]
  have HS := Lib.hid (h.set (i := 0) (v := .pointer (some ⟨b, 0, none⟩)))
  have HTO := Lib.hid (Lib.run_to_unsafe (P := Tryd.prog) (w := w) (src := 37) (dst := 73) (a := ⟨b, 0, none⟩) Tryd.underlying37 Tryd.underlying73 hj (by rw [hjs]; decide) hsh (Nat.zero_lt_succ 1))
  have HFR := Lib.hid (Lib.run_from_unsafe (P := Tryd.prog) (w := w) (src := 73) (dst := 37) (a := ⟨b, 0, none⟩) Tryd.underlying73 Tryd.underlying37 hj hsh liesBuilder)
  have HTO' := HTO.out
  have HFR' := HFR.out
  have HNE : ∀ w : World, (callFunc 32 #[.pointer (some ⟨b, 0, none⟩)]).run Tryd.prog w = .ok (.value (.pointer (some ⟨b, 0, none⟩))) w := by
    intro w
    rw [run_callFunc_extern Tryd.func32 (by kernel_rfl) (by kernel_rfl) (by kernel_rfl) (e := Extern.AbiNoEscape.same) (by kernel_rfl), Lib.run_noEscape]
    rfl
  clear h hj hjs hsh HTO HFR
  go_enter Tryd.func24, Tryd.ntmps24
  go_wp2
  refine ⟨rfl, .tuple #[], by unfold results; go_simp, rfl, HS.out⟩

theorem check_used {b : Nat} {v : Value} {A : HProp} (h : Sat W (pts b (bdO (some ⟨b, 0, none⟩) v) * A) w) : Calls Tryd.prog 24 #[.pointer (some ⟨b, 0, none⟩)] w fun e w' => e = .returned (.tuple #[]) ∧ Sat W (pts b (bdO (some ⟨b, 0, none⟩) v) * A) w' := by
  obtain ⟨j, hj, hjs⟩ := Option.map_eq_some_iff.1 sizeBuilder
  have c0 := h.cell (i := 0) rfl
  have HS := Lib.hid h
  have hnp := Lib.run_neq_ptr_same (P := Tryd.prog) w ⟨b, 0, none⟩ (tp := 37) Tryd.underlying37 hj
  clear h hj hjs
  go_enter Tryd.func24, Tryd.ntmps24
  go_wp2
  refine ⟨rfl, .tuple #[], by unfold results; go_simp, rfl, HS.out⟩

theorem bdcheck_any {b : Nat} {p : Option Addr} {v : Value} {A : HProp} (hp : p = none ∨ p = some ⟨b, 0, none⟩) (h : Sat W (pts b (bdO p v) * A) w) :
    Calls Tryd.prog 24 #[.pointer (some ⟨b, 0, none⟩)] w fun e w' => e = .returned (.tuple #[]) ∧ Sat W (pts b (bdO (some ⟨b, 0, none⟩) v) * A) w' := by
  rcases hp with rfl | rfl
  · exact check_new h
  · exact check_used h

theorem len_any {b : Nat} {l : List UInt8} (h : BdAt W F b l w) : Calls Tryd.prog 13 #[.pointer (some ⟨b, 0, none⟩)] w fun e w' => e = .returned (.int .i64 l.length) ∧ w = w' := by
  obtain ⟨p, v, h1, h2, h3⟩ := h
  obtain ⟨a, cap, rfl, -, -⟩ := rowB_val h3.r
  have c1 := h3.cell (i := 1) rfl
  clear h1 h2 h3
  go_enter Tryd.func13, Tryd.ntmps13
  go_wp2
  go_ret
  exact ⟨rfl, rfl⟩

set_option maxRecDepth 100000 in
set_option maxHeartbeats 4000000 in
theorem write_any {b : Nat} {l : List UInt8} (m : List UInt8) (h : BdAt W F b l w) (hb : l.length + m.length ≤ 4000000000) :
    Calls Tryd.prog 15 #[.pointer (some ⟨b, 0, none⟩), (.string ⟨m.toArray⟩)] w fun e w' => (∃ r, e = .returned r) ∧ BdAt W F b (l ++ m) w' := by
  obtain ⟨i0, hi, hz0, hz1, hz2⟩ := info_parts3B info_u8B
  have HI := Lib.hid hi
  have HZ0 := Lib.hid hz0
  have HZ1 := Lib.hid hz1
  have HZ2 := Lib.hid hz2
  clear hi hz0 hz1 hz2
  obtain ⟨p, v, h1, h2, h3⟩ := h
  have HCK := Lib.hid (bdcheck_any h1 h3)
  have HV := Lib.hid h2
  have hms : (⟨m.toArray⟩ : ByteArray).size = m.length := by simp [ByteArray.size]
  have hsc := strCells_mk m
  obtain ⟨q, hq⟩ : ∃ q, m.length = q := ⟨_, rfl⟩
  have HQ := Lib.hid hq
  rw [hq] at hms hb
  have HSC := Lib.hid hsc
  have HMS := Lib.hid hms
  generalize (⟨m.toArray⟩ : ByteArray) = s at *
  clear h1 h2 h3 hsc hq
  go_enter Tryd.func15, Tryd.ntmps15
  go_wp2_with fail
  refine Calls.mono HCK.out ?_
  rintro e w1 ⟨rfl, h4⟩
  have H4 := Lib.hid h4
  have c1 := h4.cell (i := 1) rfl
  have H5 := Lib.hid h4.rot
  clear h4
  go_wp2_with (at_builtin; refine wpList_append_S rfl _ _ 38 9 rfl i0 Tryd.underlying38 Tryd.underlying9 HI.out HZ0.out HZ1.out HZ2.out rfl H5.out s rfl ?_ ?_ ?_)
  · rw [HMS.out]; simp [maxLen]; omega
  · rw [HMS.out]; omega
  intro v' w2 h6 hiff
  have h7 := (rowB_app (acc := l) (l := m) h6 (by have h1 := HMS.out; have h2 := HQ.out; omega) (by rw [HSC.out])).rot
  obtain ⟨va, vc, rfl, -, -⟩ := rowB_val h7.r
  rw [List.length_append] at h7 hiff
  have g1 := h7.cell (i := 1) rfl
  have f1 := h7.free (i := 1)
  have lb := h7.lt
  have H7 := Lib.hid (h7.set (i := 1) (v := .slice va (l.length + m.length) vc))
  have HIFF := Lib.hid hiff
  clear h6 h7 hiff c1
  go_wp2
  refine ⟨rfl, .tuple #[.int .i64 q, .nilIface], by unfold results; go_simp, ⟨_, rfl⟩, _, .slice va (l.length + m.length) vc, .inr rfl, ?_, H7.out⟩
  have hq : m.length = q := HQ.out
  rw [HIFF.out, HV.out, List.append_eq_nil_iff, ← List.length_eq_zero_iff (l := m), hq]

theorem freeze_sat {g : Nat} {cs : Array Value} {e : TypeId} {fz : Nat × Nat} {A : HProp} (h : Sat W (pts g (.cells cs e fz) * A) w) (n : Nat) : Sat W A (w.freeze ⟨g, 0, none⟩ n) := by
  by_cases hn : n = 0
  · subst hn
    have : w.freeze ⟨g, 0, none⟩ 0 = w := by simp [World.freeze]
    rw [this]; exact h.r
  · obtain ⟨lo, hi⟩ := fz
    refine (h.upd (o' := .cells cs e (if lo == hi then (0, 0 + n) else (min lo 0, max hi (0 + n)))) (w' := w.freeze ⟨g, 0, none⟩ n) ?_ ?_ ?_).r
    · simp [World.freeze, hn]
    · simp only [World.freeze, hn, if_false, Array.getElem?_modify]
      simp [h.blk]
    · intro k x hk hx
      simp only [World.freeze, hn, if_false, Array.getElem?_modify]
      rw [if_neg (fun e => hk e.symm)]
      exact hx

set_option maxRecDepth 100000 in
set_option maxHeartbeats 4000000 in
theorem string_any {b : Nat} {l : List UInt8} (h : BdAt W F b l w) (hb : l.length ≤ 4000000000) : Calls Tryd.prog 14 #[.pointer (some ⟨b, 0, none⟩)] w fun e w' => e = .returned ((.string ⟨l.toArray⟩)) ∧ Sat W F w' := by
  obtain ⟨p, v, h1, h2, h3⟩ := h
  by_cases hl : l = []
  · subst hl
    obtain rfl : v = .slice none 0 0 := h2.2 rfl
    have c1 : w.drew.cell? ⟨b, 1, none⟩ = some (.slice none 0 0) := h3.drew.cell (i := 1) rfl
    have HF := Lib.hid h3.r.r
    have HSD : ∀ w : World, (Builtin.unsafeSliceData_ #[38] 60 #[.slice none 0 0]).run Tryd.prog w = .ok (.pointer none) w := fun w => Lib.run_unsafeSliceData_nil w _ _ _ _
    have HUS : ∀ w : World, (Builtin.unsafeString_ #[60, 3] 9 #[.pointer none, .int .i64 0]).run Tryd.prog w = .ok (.string .empty) w := fun w => Lib.run_unsafeString_none w _ _ _ _
    clear h1 h2 h3
    go_enter Tryd.func14, Tryd.ntmps14
    go_wp2
    go_region
    all_goals (go_wp2; go_ret; exact ⟨rfl, HF.out.drew⟩)
  · have hrow := h3.rot
    obtain ⟨hxl, hc⟩ := hrow.row_cases
    rcases hc with ⟨rfl, _⟩ | ⟨g, cap, cur, rfl, hn, hm, hcs, htake, hs⟩
    · exact absurd (h2.1 rfl) hl
    · rw [Nat.mul_one] at hcs htake
      have hl0 : 0 < l.length := List.length_pos_iff.2 hl
      have c1 : w.drew.cell? ⟨b, 1, none⟩ = some (.slice (some ⟨g, 0, none⟩) l.length cap) := h3.drew.cell (i := 1) rfl
      have HSD : (Builtin.unsafeSliceData_ #[38] 60 #[.slice (some ⟨g, 0, none⟩) l.length cap]).run Tryd.prog w.drew = .ok (.pointer (some ⟨g, 0, none⟩)) w.drew := Lib.run_unsafeSliceData_row _ _ _ _ _ _ (by omega)
      have HUS : (Builtin.unsafeString_ #[60, 3] 9 #[.pointer (some ⟨g, 0, none⟩), .int .i64 l.length]).run Tryd.prog w.drew = .ok ((.string ⟨l.toArray⟩)) (w.drew.freeze ⟨g, 0, none⟩ l.length) := by
        refine Lib.run_unsafeString_row w.drew 60 3 9 5 Tryd.underlying60 (by kernel_rfl) g cur.size (by have hg' : w.drew.heap[g]? = some (.cells cur 5 (0, 0)) := hs.drew.blk; simp [World.shape?, hg']) l hl (by omega) (by omega) ?_
        intro j x hx
        rw [Addr.add_lit, Nat.zero_add]
        have hj : j < l.length := (List.getElem?_eq_some_iff.1 hx).1
        have : (bytesB l)[j]? = some (.int .u8 x.toNat) := by simp [bytesB, hx]
        rw [← htake, List.getElem?_take, if_pos hj] at this
        exact hs.drew.cell (by simpa using this)
      have HF := Lib.hid (freeze_sat hs.drew l.length).r
      obtain ⟨n, hn'⟩ : ∃ n, l.length = n := ⟨_, rfl⟩
      rw [hn'] at c1 HSD HUS HF
      generalize (⟨l.toArray⟩ : ByteArray) = s at *
      generalize w.drew.freeze ⟨g, 0, none⟩ n = w2 at *
      clear h1 h2 h3 hrow hs htake hcs hxl hl hn'
      go_enter Tryd.func14, Tryd.ntmps14
      go_wp2
      go_region
      all_goals (go_wp2; go_ret; exact ⟨rfl, HF.out⟩)

end Go.Proofs.YtpcdbeicpmjooaaDoor
