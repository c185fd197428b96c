
/-
  A table: a name gets a meaning, or loses it. Conditions: those that each theorem names.
-/
import Derived.Test.YtebggkgciocciaaGreatTabQ
import Derived.Lib.Strings
namespace Go.Proofs.YtebggkgciocciaaGreat
open Go.RowKit Go.Sp
variable {W w w' : World} {F A : HProp}

def mean0 : Mean := ⟨0, 0, 0, 0, ⟨#[]⟩⟩
/-- are two meanings the same? -/
def meanB (a b : Mean) : Bool := a.kind == b.kind && (a.cls == b.cls && (a.code == b.code && (a.cat == b.cat && decide (a.text = b.text))))
theorem meanB_eq (a b : Mean) : meanB a b = true ↔ a = b := by
  obtain ⟨a1, a2, a3, a4, a5⟩ := a
  obtain ⟨b1, b2, b3, b4, b5⟩ := b
  simp [meanB]

theorem toListB {a b : ByteArray} : a.toList = b.toList ↔ a = b :=
  ⟨fun h => by rw [Lib.toList_data, Lib.toList_data] at h; cases a; cases b; congr 1; exact Array.toList_inj.1 h, fun h => h ▸ rfl⟩
theorem run_eq_mean (w : World) (a b : Mean) : (Op.equalIn 10000 56 a.val b.val).run Tryz.prog w = .ok (meanB a b) w := by
  obtain ⟨a1, a2, a3, a4, a5⟩ := a
  obtain ⟨b1, b2, b3, b4, b5⟩ := b
  unfold meanB
  go_simp
  simp only [toListB]
  by_cases h1 : a1 = b1 <;> by_cases h2 : a2 = b2 <;> by_cases h3 : a3 = b3 <;> by_cases h4 : a4 = b4 <;> by_cases h5 : a5 = b5 <;> simp [h1, h2, h3, h4, h5]
theorem run_eql_mean (w : World) (a b : Mean) : (binOp .eql 56 a.val b.val).run Tryz.prog w = .ok (.bool (meanB a b)) w := by
  simp only [binOp]
  simp [Op.equal, Op.maxDepth, run_eq_mean w a b]
theorem run_neq_mean (w : World) (a b : Mean) : (binOp .neq 56 a.val b.val).run Tryz.prog w = .ok (.bool (!meanB a b)) w := by
  simp only [binOp]
  simp [Op.equal, Op.maxDepth, run_eq_mean w a b]

/-- the names, one of which gets a meaning (none, if it is the empty one) -/
noncomputable def nameM (T : ByteArray → Option Mean) (k : ByteArray) (m : Mean) : ByteArray → Option Mean := if meanB m mean0 = true then mdel T k else mput T k m

abbrev mapN : TypeId := 24

set_option maxRecDepth 100000 in
set_option maxHeartbeats 4000000 in
theorem name_any {b nm N : Nat} {R : Nat → RegV} {gs lt : Value} {T : ByteArray → Option Mean} (k : ByteArray) (m : Mean)
    (h : Sat W (pts b (.cells (tabCells nm R gs lt) 34) * (mapH Value.string Mean.val nm N T * A)) w) :
    Calls Tryz.prog 44 #[.pointer (some ⟨b, 0, none⟩), .string k, m.val] w fun e w' => e = .returned (.tuple #[]) ∧ ∃ N', Sat W (pts b (.cells (tabCells nm R gs lt) 34) * (mapH Value.string Mean.val nm N' (nameM T k m) * A)) w' := by
  have hK : KeyT Tryz.prog 9 Value.string := keyT_string Tryz.underlying9
  obtain ⟨m1, m2, m3, m4, m5⟩ := m
  have hb := h.alloc (.cells #[.int .i64 m1, .int .i64 m2, .int .i64 m3, .int .i64 m4, .string m5] 56)
  obtain ⟨bv, hbv⟩ : ∃ bv, w.heap.size = bv := ⟨_, rfl⟩
  rw [hbv] at hb
  have q1 := fun w => run_eql_mean w ⟨m1, m2, m3, m4, m5⟩ mean0
  simp only [Mean.val, mean0] at q1
  have c0 := hb.cell (i := 0) rfl
  have c1 := hb.cell (i := 1) rfl
  have c2 := hb.cell (i := 2) rfl
  have c3 := hb.cell (i := 3) rfl
  have c4 := hb.cell (i := 4) rfl
  have t0 := hb.r.cell (i := 0) (tab_names nm R gs lt)
  have lv := hb.lt
  have lb := hb.r.lt
  have HB := Lib.hid hb
  by_cases hz : meanB ⟨m1, m2, m3, m4, m5⟩ mean0 = true
  · rw [nameM, if_pos hz]
    rw [mean0] at hz
    simp only [hz] at q1
    obtain ⟨w2, hdel, hs⟩ := Sat.map_del hK Tryz.underlying24 (hb.of_eq (show _ = mapH Value.string Mean.val nm N T * (pts bv (.cells #[.int .i64 m1, .int .i64 m2, .int .i64 m3, .int .i64 m4, .string m5] 56) * (pts b (.cells (tabCells nm R gs lt) 34) * A)) by ac_rfl)) k 0
    have HS := Lib.hid hs
    clear hs hb h hz
    go_enter Tryz.func44, Tryz.ntmps44
    go_wp2
    go_simp
    exact ⟨rfl, .tuple #[], by unfold results; go_simp, rfl, N, HS.out.rot.r.rot⟩
  · rw [nameM, if_neg hz]
    simp only [Bool.not_eq_true] at hz
    rw [mean0] at hz
    simp only [hz] at q1
    obtain ⟨w2, hup, hs⟩ := Sat.map_upd hK Tryz.underlying24 (hb.drew.of_eq (show _ = mapH Value.string Mean.val nm N T * (pts bv (.cells #[.int .i64 m1, .int .i64 m2, .int .i64 m3, .int .i64 m4, .string m5] 56) * (pts b (.cells (tabCells nm R gs lt) 34) * A)) by ac_rfl)) k ⟨m1, m2, m3, m4, m5⟩
    have HS := Lib.hid hs
    simp only [Mean.val] at hup
    obtain ⟨C, hC⟩ : ∃ C : World → Prop, C = fun w' => ∃ X, Sat W (pts bv (.cells #[.int .i64 m1, .int .i64 m2, .int .i64 m3, .int .i64 m4, .string m5] 56) * (pts b (.cells (tabCells nm R gs lt) 34) * X)) w' := ⟨_, rfl⟩
    have HC := Lib.hid (show ∀ w', C w' → w'.cell? ⟨bv, 0, none⟩ = some (.int .i64 m1) ∧ w'.cell? ⟨bv, 1, none⟩ = some (.int .i64 m2) ∧ w'.cell? ⟨bv, 2, none⟩ = some (.int .i64 m3) ∧ w'.cell? ⟨bv, 3, none⟩ = some (.int .i64 m4) ∧ w'.cell? ⟨bv, 4, none⟩ = some (.string m5) ∧ w'.cell? ⟨b, 0, none⟩ = some (.map (some nm)) from fun w' h => by
      rw [hC] at h
      obtain ⟨X, h⟩ := h
      exact ⟨h.cell rfl, h.cell rfl, h.cell rfl, h.cell rfl, h.cell rfl, h.r.cell (tab_names nm R gs lt)⟩)
    have HC0 := Lib.hid (show C (w.alloc (.cells #[.int .i64 m1, .int .i64 m2, .int .i64 m3, .int .i64 m4, .string m5] 56)).drew by rw [hC]; exact ⟨_, hb.drew⟩)
    clear hs hb h hz hC
    go_enter Tryz.func44, Tryz.ntmps44
    go_upto_region 3 with fail
    generalize w.alloc (.cells #[.int .i64 m1, .int .i64 m2, .int .i64 m3, .int .i64 m4, .string m5] 56) = W1 at *
    clear c0 c1 c2 c3 c4 t0 q1
    refine wp_region_E C (by kernel_rfl) ?_
    refine wpE_take (i := 0) (q := 6) (v := ?_) rfl (by kernel_rfl) (by kernel_rfl) (by kernel_rfl) (by kernel_rfl) (by kernel_rfl) (fun _ _ _ h => h) (by rfl) ?_ ?_
    rotate_left 1
    · intro w hw; go_simp; try with_reducible rfl
    refine wpE_take (i := 1) (q := 6) (v := ?_) rfl (by kernel_rfl) (by kernel_rfl) (by kernel_rfl) (by kernel_rfl) (by kernel_rfl) (fun _ _ _ h => h) (by rfl) ?_ ?_
    rotate_left 1
    · intro w hw; go_simp; try with_reducible rfl
    refine wpE_take (i := 2) (q := 6) (v := ?_) rfl (by kernel_rfl) (by kernel_rfl) (by kernel_rfl) (by kernel_rfl) (by kernel_rfl) (fun _ _ _ h => h) (by rfl) ?_ ?_
    rotate_left 1
    · intro w hw; go_simp; try with_reducible rfl
    refine wpE_take (i := 3) (q := 6) (v := ?_) rfl (by kernel_rfl) (by kernel_rfl) (by kernel_rfl) (by kernel_rfl) (by kernel_rfl) (fun _ _ _ h => h) (by rfl) ?_ ?_
    rotate_left 1
    · intro w hw; (obtain ⟨d1, d2, d3, d4, d5, d6⟩ := HC.out _ hw; go_simp; try with_reducible rfl)
    refine wpE_take (i := 4) (q := 6) (v := ?_) rfl (by kernel_rfl) (by kernel_rfl) (by kernel_rfl) (by kernel_rfl) (by kernel_rfl) (fun _ _ _ h => h) (by rfl) ?_ ?_
    rotate_left 1
    · intro w hw; go_simp; try with_reducible rfl
    refine wpE_take (i := 5) (q := 6) (v := ?_) rfl (by kernel_rfl) (by kernel_rfl) (by kernel_rfl) (by kernel_rfl) (by kernel_rfl) (fun _ _ _ h => h) (by rfl) ?_ ?_
    rotate_left 1
    · intro w hw; (obtain ⟨d1, d2, d3, d4, d5, d6⟩ := HC.out _ hw; go_simp; try with_reducible rfl)
    refine wpE_one (i := 6) rfl (by kernel_rfl) (HC0.out) (fun K hK => ?_)
    go_simp
    refine hK _ _ ?_
    clear hK K
    refine wpE_done (by kernel_rfl) (by kernel_rfl) ?_
    exact ⟨rfl, .tuple #[], by unfold results; go_simp, rfl, N + 1, HS.out.rot.r.rot⟩

end Go.Proofs.YtebggkgciocciaaGreat
