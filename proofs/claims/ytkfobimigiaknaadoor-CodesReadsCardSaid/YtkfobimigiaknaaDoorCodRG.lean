/-
  The reference's name. Conditions: those that each theorem names.
-/
import Derived.Test.YtkfobimigiaknaaDoorCodRF
import Derived.Deep.RegionLaw
namespace Go.Sp
open Go
theorem step_load_row {P : Program} {ops : Array Oper} {o : Oper} {ac : Act} {w : World} {K : Act → World → Prop} {Q : Exit → Act → World → Prop} {E : Prop} (hgd : o.guard = none) (ty : TypeId) (x : Operand) (ho : o.op = .load ty x)
    (g : Nat) (hx : ac.eval x = .pointer (some ⟨g, 0, none⟩)) (t : TypeId) (cs : Array Value) (fr : Nat × Nat) (d : TypeDesc) (hg : w.heap[g]? = some (.cells cs t fr))
    (hu : P.underlying ty = some d) (hd : (match d with | .struct _ | .array _ _ => true | _ => false) = true) (hi : (P.info? ty).map (·.size) = some cs.size)
    (h : K (ac.put o.dst (.agg cs)) w) : if Region.wanted o (yielded ops ac.tmps) = true then Oper.wp P o ac w K Q else E := by
  rw [if_pos (by simp [Region.wanted, hgd])]
  exact wp_load_row ty x ho g hx t cs fr d hg hu hd hi h

theorem put_comm (a : Act) (d e : Option Tmp) (v u : Value) (h : d ≠ e) : (a.put d v).put e u = (a.put e u).put d v := by
  cases d <;> cases e <;> simp [Act.put]
  rename_i x y
  exact Array.setIfInBounds_comm _ _ (fun hh => h (by rw [hh]))

/-- two operations that only read, in either order -/
theorem wpAny_pair {P : Program} {ops : Array Oper} {md : Region.Mode} {Q : Exit → Act → World → Prop} {i j : Nat} {oi oj : Oper} {vi vj : Value} {fuel : Nat} {listed : Array Bool} {a : Act} {w : World}
    (hr : Region.ready md ops listed = [i, j]) (hri : Region.ready md ops (listed.setIfInBounds i true) = [j]) (hrj : Region.ready md ops (listed.setIfInBounds j true) = [i])
    (hi : ops[i]? = some oi) (hj : ops[j]? = some oj) (hij : i ≠ j) (hd : oj.dst ≠ oi.dst)
    (s1 : ∀ K : Act → World → Prop, K (a.put oi.dst vi) w → if Region.wanted oi (yielded ops a.tmps) = true then Oper.wp P oi a w K Q else K (a.put oi.dst undef) w)
    (s2 : ∀ K : Act → World → Prop, K ((a.put oi.dst vi).put oj.dst vj) w → if Region.wanted oj (yielded ops (a.put oi.dst vi).tmps) = true then Oper.wp P oj (a.put oi.dst vi) w K Q else K ((a.put oi.dst vi).put oj.dst undef) w)
    (s3 : ∀ K : Act → World → Prop, K (a.put oj.dst vj) w → if Region.wanted oj (yielded ops a.tmps) = true then Oper.wp P oj a w K Q else K (a.put oj.dst undef) w)
    (s4 : ∀ K : Act → World → Prop, K ((a.put oj.dst vj).put oi.dst vi) w → if Region.wanted oi (yielded ops (a.put oj.dst vj).tmps) = true then Oper.wp P oi (a.put oj.dst vj) w K Q else K ((a.put oj.dst vj).put oi.dst undef) w)
    (h : wpAny P md ops Q fuel ((listed.setIfInBounds i true).setIfInBounds j true) ((a.put oi.dst vi).put oj.dst vj) w) : wpAny P md ops Q (fuel + 1 + 1) listed a w := by
  refine wpAny_ready hr (by simp) (AllReady.cons hi (fun K hK => ?_) (AllReady.cons hj (fun K hK => ?_) AllReady.nil))
  · exact s1 K (hK _ _ (wpAny_ready hri (by simp) (AllReady.cons hj (fun K' hK' => s2 K' (hK' _ _ h)) AllReady.nil)))
  · exact s3 K (hK _ _ (wpAny_ready hrj (by simp) (AllReady.cons hi (fun K' hK' => s4 K' (hK' _ _ (by
      rw [put_comm _ _ _ _ _ hd, Array.setIfInBounds_comm _ _ (Ne.symm hij)]; exact h))) AllReady.nil)))

theorem exec_load_row {P : Program} {o : Oper} {a : Act} {w : World} (ty : TypeId) (x : Operand) (ho : o.op = .load ty x)
    (g : Nat) (hx : a.eval x = .pointer (some ⟨g, 0, none⟩)) (t : TypeId) (cs : Array Value) (fr : Nat × Nat) (d : TypeDesc) (hg : w.heap[g]? = some (.cells cs t fr))
    (hu : P.underlying ty = some d) (hd : (match d with | .struct _ | .array _ _ => true | _ => false) = true) (hi : (P.info? ty).map (·.size) = some cs.size) : (execOp a.eval o).run P w = .ok (.value (.agg cs)) w := by
  unfold execOp
  simp only [ho, hx, Instr.loadAt, Instr.sureAddr, Sem.run_bind, Sem.run_pure, Result.andThen_ok, run_loadVar_row w g t ty cs fr d hg hu hd hi]

/-- two operations that only read, in either order -/
theorem wpAny_pairR {P : Program} {ops : Array Oper} {md : Region.Mode} {Q : Exit → Act → World → Prop} {i j : Nat} (oi oj : Oper) {vi vj : Value} {fuel : Nat} {listed : Array Bool} {a : Act} {w : World}
    (hr : Region.ready md ops listed = [i, j]) (hri : Region.ready md ops (listed.setIfInBounds i true) = [j]) (hrj : Region.ready md ops (listed.setIfInBounds j true) = [i])
    (hi : ops[i]? = some oi) (hj : ops[j]? = some oj) (hij : (i == j) = false) (hd : (oj.dst == oi.dst) = false) (hgi : oi.guard = none) (hgj : oj.guard = none)
    (s1 : (execOp a.eval oi).run P w = .ok (.value vi) w) (s2 : (execOp (a.put oi.dst vi).eval oj).run P w = .ok (.value vj) w)
    (s3 : (execOp a.eval oj).run P w = .ok (.value vj) w) (s4 : (execOp (a.put oj.dst vj).eval oi).run P w = .ok (.value vi) w)
    (h : wpAny P md ops Q fuel ((listed.setIfInBounds i true).setIfInBounds j true) ((a.put oi.dst vi).put oj.dst vj) w) : wpAny P md ops Q (fuel + 1 + 1) listed a w := by
  have hij' : i ≠ j := by simpa using hij
  have hd' : oj.dst ≠ oi.dst := by simpa using hd
  refine wpAny_pair hr hri hrj hi hj hij' hd' (fun K hK => ?_) (fun K hK => ?_) (fun K hK => ?_) (fun K hK => ?_) h
  · rw [if_pos (by simp [Region.wanted, hgi])]; unfold Oper.wp; rw [s1]; exact hK
  · rw [if_pos (by simp [Region.wanted, hgj])]; unfold Oper.wp; rw [s2]; exact hK
  · rw [if_pos (by simp [Region.wanted, hgj])]; unfold Oper.wp; rw [s3]; exact hK
  · rw [if_pos (by simp [Region.wanted, hgi])]; unfold Oper.wp; rw [s4]; exact hK
end Go.Sp

namespace Go.Proofs.YtkfobimigiaknaaDoor
open Go.RowKit Go.Sp
variable {W w w' : World} {F F' : HProp}

section
variable {b r i : Nat} {R : Rs} {cs : Array Value} {ty : TypeId} {f : Nat × Nat} {v : Value}
theorem RefAt.of_eq (h : RefAt W F b R w) (e : F = F') : RefAt W F' b R w := e ▸ h
theorem RefAt.alloc (h : RefAt W F b R w) (o : Obj) : RefAt W (pts w.heap.size o * F) b R (w.alloc o) := by
  obtain ⟨he, vl, vL, v0, ls, k, h1, h2, hs⟩ := h
  exact ⟨he, vl, vL, v0, ls, k, h1, h2, (hs.alloc o).of_eq (by ac_rfl)⟩
theorem RefAt.allocD (h : RefAt W F b R w) {o : Obj} : RefAt W F b R (w.alloc o) := by
  obtain ⟨he, vl, vL, v0, ls, k, h1, h2, hs⟩ := h
  exact ⟨he, vl, vL, v0, ls, k, h1, h2, hs.allocD⟩
theorem RefAt.drewN (h : RefAt W F b R w) {n : Nat} : RefAt W F b R (w.drewN n) := by
  obtain ⟨he, vl, vL, v0, ls, k, h1, h2, hs⟩ := h
  exact ⟨he, vl, vL, v0, ls, k, h1, h2, hs.drewN⟩
theorem RefAt.sat (h : RefAt W F b R w) : Sat W F w := by
  obtain ⟨he, vl, vL, v0, ls, k, h1, h2, hs⟩ := h
  exact hs.r.r.r
theorem RefAt.setF (h : RefAt W (pts r (.cells cs ty f) * F) b R w) : RefAt W (pts r (.cells (cs.setIfInBounds i v) ty f) * F) b R (w.setCell ⟨r, i, none⟩ v) := by
  obtain ⟨he, vl, vL, v0, ls, k, h1, h2, hs⟩ := h
  have h4 := hs.of_eq (show _ = pts r (.cells cs ty f) * (pts b (rfO R vl vL) * (rowM vL R.left * (row v0 ls.length 9 1 (strsV ls) * F))) by ac_rfl)
  exact ⟨he, vl, vL, v0, ls, k, h1, h2, (h4.set (i := i) (v := v)).of_eq (by ac_rfl)⟩
theorem RefAt.drop {A : HProp} (h : RefAt W (A * F) b R w) : RefAt W F b R w := by
  obtain ⟨he, vl, vL, v0, ls, k, h1, h2, hs⟩ := h
  exact ⟨he, vl, vL, v0, ls, k, h1, h2, (hs.of_eq (show _ = A * (pts b (rfO R vl vL) * (rowM vL R.left * (row v0 ls.length 9 1 (strsV ls) * F))) by ac_rfl)).r⟩
theorem RefAt.ne {o : Obj} (h : RefAt W (pts r o * F) b R w) : b ≠ r := by
  obtain ⟨he, vl, vL, v0, ls, k, h1, h2, hs⟩ := h
  exact (hs.of_eq (show _ = pts b (rfO R vl vL) * (pts r o * (rowM vL R.left * (row v0 ls.length 9 1 (strsV ls) * F))) by ac_rfl)).ne
theorem RefAt.rot {A B : HProp} (h : RefAt W (A * (B * F)) b R w) : RefAt W (B * (A * F)) b R w := h.of_eq (by ac_rfl)
/-- what the frame becomes, where the reader stays -/
theorem RefAt.frame {A : HProp} (h : RefAt W (A * F) b R w) : ∃ G, Sat W (A * G) w ∧ ∀ B w', Sat W (B * G) w' → RefAt W (B * F) b R w' := by
  obtain ⟨he, vl, vL, v0, ls, k, h1, h2, hs⟩ := h
  exact ⟨pts b (rfO R vl vL) * (rowM vL R.left * (row v0 ls.length 9 1 (strsV ls) * F)), hs.of_eq (by ac_rfl), fun B w' h' => ⟨he, vl, vL, v0, ls, k, h1, h2, h'.of_eq (by ac_rfl)⟩⟩
theorem RefAt.ends (h : RefAt W F b R w) : R.ended = true → R.left = [] := h.1

/-- what is left of the line: told, and told anew -/
theorem RefAt.lens (h : RefAt W F b R w) : ∃ vL G, Sat W (rowM vL R.left * G) w ∧ ∀ v l w', Sat W (rowM v l * G) w' →
    w'.cell? ⟨b, 2, none⟩ = some vL ∧ w'.frozen? ⟨b, 2, none⟩ = false ∧ b < w'.heap.size ∧ Sat W F w' ∧ ((R.ended = true → l = []) → RefAt W F b { R with left := l } (w'.setCell ⟨b, 2, none⟩ v)) := by
  obtain ⟨he, vl, vL, v0, ls, k, h1, h2, hs⟩ := h
  refine ⟨vL, pts b (rfO R vl vL) * (row v0 ls.length 9 1 (strsV ls) * F), hs.rot, fun v l w' h' => ⟨h'.r.cell (i := 2) rfl, h'.r.free, h'.r.lt, h'.r.r.r, fun hl => ⟨hl, vl, v, v0, ls, k, h1, h2, ?_⟩⟩⟩
  exact h'.rot.set (i := 2) (v := v)

theorem RefAt.state (h : RefAt W F b R w) (k : Nat) :
    w.cell? ⟨b, 3, none⟩ = some (.int .i64 R.state) ∧ w.frozen? ⟨b, 3, none⟩ = false ∧ b < w.heap.size ∧ RefAt W F b { R with state := k } (w.setCell ⟨b, 3, none⟩ (.int .i64 (k : Nat))) := by
  obtain ⟨he, vl, vL, v0, ls, j, h1, h2, hs⟩ := h
  exact ⟨hs.cell (i := 3) rfl, hs.free, hs.lt, he, vl, vL, v0, ls, j, h1, h2, hs.set (i := 3)⟩

theorem RefAt.stateZ (h : RefAt W F b R w) (k : Nat) (z : Int) (hz : z = (k : Int)) :
    w.cell? ⟨b, 3, none⟩ = some (.int .i64 R.state) ∧ w.frozen? ⟨b, 3, none⟩ = false ∧ b < w.heap.size ∧ RefAt W F b { R with state := k } (w.setCell ⟨b, 3, none⟩ (.int .i64 z)) := by
  subst hz
  exact h.state k

theorem RefAt.toRowB {g : Nat} {c : UInt8} (h : RefAt W (pts g (.cells #[.int .u8 c.toNat] 5) * F) b R w) : RefAt W (rowB (.slice (some ⟨g, 0, none⟩) 1 1) [c] * F) b R w := by
  obtain ⟨G, h1, h2⟩ := h.frame
  exact h2 _ _ (Sat.row_whole (cur := #[.int .u8 c.toNat]) 1 h1 (by simp [maxLen]) rfl)

theorem RefAt.number (h : RefAt W F b R w) : w.cell? ⟨b, 1, none⟩ = some (.int .i64 R.number) := by
  obtain ⟨he, vl, vL, v0, ls, j, h1, h2, hs⟩ := h
  exact hs.cell (i := 1) rfl

/-- the value of what is left -/
theorem RefAt.left (h : RefAt W F b R w) : ∃ a cap, w.cell? ⟨b, 2, none⟩ = some (.slice a R.left.length cap) ∧ ∀ c l, R.left = c :: l → ∃ g, a = some ⟨g, 0, none⟩ ∧ w.cell? ⟨g, 0, none⟩ = some (.int .u8 c.toNat) := by
  obtain ⟨he, vl, vL, v0, ls, j, h1, h2, hs⟩ := h
  obtain ⟨a, cap, rfl, -, -, hc⟩ := hs.r.rowM_val
  refine ⟨a, cap, hs.cell (i := 2) rfl, fun c l hl => ?_⟩
  obtain ⟨g, e1, e2, _⟩ := hc 0 (by rw [hl]; simp)
  refine ⟨g, e1, ?_⟩
  rw [e2]
  simp [hl]
end

theorem conv_B {A : HProp} {v : Value} {acc : List UInt8} (h : Sat W (rowB v acc * A) w) (hne : acc ≠ []) : (convert 53 9 v).run Tryd.prog w = .ok (.string ⟨acc.toArray⟩) w := by
  obtain ⟨a, cap, rfl, -, hc⟩ := rowB_val h
  obtain ⟨g, rfl, -⟩ := hc 0 (List.length_pos_iff.2 hne)
  refine run_convert_bytes_back (P := Tryd.prog) w 53 9 5 ⟨g, 0, none⟩ cap acc Tryd.underlying53 Tryd.underlying5 Tryd.underlying9 (fun j hj => ?_)
  obtain ⟨g', e1, e2⟩ := hc j hj
  cases e1
  simpa [Addr.add_lit] using e2


theorem nameM_ended {C : List Int} {R : Rs} {m : List UInt8} (hm : made C R.left = m) (h : R.ended = true → R.left = []) : R.ended = true → m = [] := by
  intro he
  rw [h he] at hm
  have := made_len C []
  rw [hm] at this
  exact List.eq_nil_of_length_eq_zero (by simpa using this)

set_option maxRecDepth 1000000 in
set_option maxHeartbeats 4000000 in
theorem nameR_any (C : List Int) (hC : C.length = 256) (R : Rs) (b : Nat) (hl : R.left.length ≤ 1000000) (h : RefAt W F b R w) :
    Calls Tryd.prog 35 #[.pointer (some ⟨b, 0, none⟩), codesV C] w fun e' w' => e' = .returned (.string ⟨((nameM C R).1).toArray⟩) ∧ RefAt W F b (nameM C R).2 w' := by
  obtain ⟨i0, hi, hz0, hz1, hz2⟩ := info_parts3B info_u8B
  have HI := Lib.hid hi
  have HZ0 := Lib.hid hz0
  have HZ1 := Lib.hid hz1
  have HZ2 := Lib.hid hz2
  clear hi hz0 hz1 hz2
  have h0 := h.alloc (codesO C 22)
  obtain ⟨m, hm⟩ : ∃ m, made C R.left = m := ⟨_, rfl⟩
  have hml := made_len C R.left
  rw [hm] at hml
  have HML := Lib.hid (show m.length ≤ 1000000 by omega)
  have HEN := Lib.hid (nameM_ended hm h.ends)
  have HLL := Lib.hid hl
  have HC := Lib.hid hC
  have HM := Lib.hid hm
  obtain ⟨vL, G, hs, hg⟩ := h0.lens
  have HG := Lib.hid hg
  have HS := Lib.hid hs
  clear h h0 hm hml hl hC hg hs
  go_enter Tryd.func35, Tryd.ntmps35
  have hmk := madeR_any C HC.out HLL.out HS.out.drew
  rw [HM.out] at hmk
  have HMK := Lib.hid hmk
  clear hmk
  go_upto_region 1 with fail
  go_cut [5] from 8 to 17 (fun s5 wx => RefAt W (pts w.heap.size (codesO C 22) * F) b { R with left := m } wx)
  case first => as_aux_lemma =>
    go_wp2_with fail
    refine wp_region_any (by kernel_rfl) ?_
    change wpAny _ _ _ _ _ _ _ (World.drew _)
    refine wpAny_take (i := 0) (v := ?_) rfl (by kernel_rfl) (by kernel_rfl) (by kernel_rfl) (fun _ _ _ h => h) (Or.inl ⟨by rfl, ?_⟩) ?_
    rotate_left 1
    · intro w; go_simp; try with_reducible rfl
    refine wpAny_take (i := 1) (v := ?_) rfl (by kernel_rfl) (by kernel_rfl) (by kernel_rfl) (fun _ _ _ h => h) (Or.inl ⟨by rfl, ?_⟩) ?_
    rotate_left 1
    · intro w; go_simp; try with_reducible rfl
    refine wpAny_take (i := 2) (v := ?_) rfl (by kernel_rfl) (by kernel_rfl) (by kernel_rfl) (fun _ _ _ h => h) (Or.inl ⟨by rfl, ?_⟩) ?_
    rotate_left 1
    · intro w; go_simp; try with_reducible rfl
    refine wpAny_take (i := 3) (v := ?_) rfl (by kernel_rfl) (by kernel_rfl) (by kernel_rfl) (fun _ _ _ h => h) (Or.inl ⟨by rfl, ?_⟩) ?_
    rotate_left 1
    · intro w; go_simp; try with_reducible rfl
    have hk := (HG.out _ _ _ HS.out.drew).1
    have hb := (HG.out _ _ _ HS.out.drew).2.2.2.1.blk
    refine wpAny_pairR (i := 4) (j := 5) (vi := vL) (vj := codesV C) _ _ ?_ ?_ ?_ rfl rfl ?_ ?_ ?_ ?_ ?_ ?_ ?_ ?_ ?_
    · kernel_rfl
    · kernel_rfl
    · kernel_rfl
    · rfl
    · rfl
    · rfl
    · rfl
    · clear hb; go_simp
    · refine exec_load_row 22 (.tmp 3) rfl w.heap.size rfl 22 (C.map (Value.int .i64)).toArray (0, 0) _ hb Tryd.underlying22 rfl ?_
      rw [size_codes]; simp [HC.out]
    · refine exec_load_row 22 (.tmp 3) rfl w.heap.size rfl 22 (C.map (Value.int .i64)).toArray (0, 0) _ hb Tryd.underlying22 rfl ?_
      rw [size_codes]; simp [HC.out]
    · clear hb; go_simp
    clear hk hb
    refine wpAny_ready (rs := [6]) (by kernel_rfl) (by simp) (AllReady.cons rfl (fun K hK => ?_) AllReady.nil)
    go_simp
    refine Calls.mono HMK.out ?_
    rintro e w3 ⟨v', rfl, hs3⟩
    obtain ⟨av, cv, rfl, -, -, -⟩ := hs3.rowM_val
    obtain ⟨k2, kf2, klt, -, hR⟩ := HG.out _ _ _ hs3
    have HR := Lib.hid (hR HEN.out)
    clear hs3 hR
    go_simp
    refine hK _ _ ?_
    clear hK K
    refine wpAny_take (i := 7) (v := ?_) rfl (by kernel_rfl) (by kernel_rfl) (by kernel_rfl) (fun _ _ _ h => h) (Or.inl ⟨by rfl, ?_⟩) ?_
    rotate_left 1
    · intro w; go_simp; try with_reducible rfl
    refine wpAny_take (i := 8) (v := ?_) rfl (by kernel_rfl) (by kernel_rfl) (by kernel_rfl) (fun _ _ _ h => h) (Or.inl ⟨by rfl, ?_⟩) ?_
    rotate_left 1
    · intro w; go_simp; try with_reducible rfl
    refine wpAny_ready (rs := [9]) (by kernel_rfl) (by simp) (AllReady.cons rfl (fun K hK => ?_) AllReady.nil)
    go_simp
    refine hK _ _ ?_
    clear hK K
    refine wpAny_done (by kernel_rfl) ?_ _
    go_wp2_with fail
    go_meet
    exact HR.out
  case rest => as_aux_lemma =>
   have HR := Lib.hid hcut
   clear hcut
   obtain ⟨a4, c4, k2, k3⟩ := HR.out.left
   simp only at k2 k3
   cases m with
   | nil =>
     have HN := Lib.hid (show nameM C R = ([], { R with left := [] }) by rw [nameM, HM.out])
     clear k3
     go_wp2
     go_ret
     exact ⟨by rw [HN.out]; rfl, by rw [HN.out]; exact HR.out.drop⟩
   | cons c l =>
     clear k3
     have HE := Lib.hid (show R.ended = false by cases hh : R.ended with | false => rfl | true => exact absurd (HEN.out hh) (by simp))
     have HF1 := Lib.hid (firstR_any C HC.out (R := { R with left := c :: l }) rfl (by have := HML.out; simp at this; omega) HR.out)
     have hblk := HR.out.sat.blk
     rw [List.length_cons] at k2
     have i1 : ((l.length : Int) + 1 == 0) = false := by rw [beq_eq_false_iff_ne]; omega
     go_wp2_with fail
     refine wp_load_row 22 (.tmp 3) (by rfl) w.heap.size (by rfl) _ _ _ _ hblk Tryd.underlying22 (by rfl) ?_ ?_
     · rw [size_codes]; simp [HC.out]
     clear hblk k2
     go_wp2_with fail
     refine Calls.mono HF1.out ?_
     rintro e w5 ⟨rfl, hr5⟩
     obtain ⟨c3, f3, l3, -⟩ := hr5.state 0
     have hsz : (w5.setCell ⟨b, 3, none⟩ (.int .i64 1)).heap.size = w5.heap.size := by simp
     have hst := ((hr5.stateZ 1 1 rfl).2.2.2.alloc (.cells #[.int .u8 c.toNat] 5)).toRowB
     rw [hsz] at hst
     have HST := Lib.hid hst
     clear hsz hst
     clear hr5
     go_upto_region 7 with fail
     generalize hW6 : (w5.setCell ⟨b, 3, none⟩ (.int .i64 1)).alloc (.cells #[.int .u8 c.toNat] 5) = W6 at *
     clear hW6 c3 f3 l3 i1
     generalize w5.heap.size = g5 at *
     obtain ⟨c3, f3, l3, hst⟩ := HST.out.stateZ 2 2 rfl
     have HS2 := Lib.hid hst
     clear hst
     obtain ⟨k, hk⟩ : ∃ k, codeAt C c = k := ⟨_, rfl⟩
     have HK := Lib.hid hk
     rw [hk]
     clear hk
     by_cases e11 : k = 11
     · subst e11
       have HN0 := Lib.hid (show nameM C R = (c :: (lettersF C (l.length + 1) l).1, { R with left := (lettersF C (l.length + 1) l).2, state := 2 }) by rw [nameM, HM.out]; simp only; rw [if_pos HK.out])
       obtain ⟨T, hT⟩ : ∃ T, lettersF C (l.length + 1) l = T := ⟨_, rfl⟩
       rw [hT] at HN0
       have HT := Lib.hid hT
       clear hT
       go_wp2_with fail
       go_loopg [7] l.length (fun g s7 wx => ∃ l' acc : List UInt8, g = l'.length ∧ acc ≠ [] ∧ acc ++ (lettersF C (l'.length + 1) l').1 = c :: T.1 ∧ (lettersF C (l'.length + 1) l').2 = T.2 ∧ acc.length + l'.length ≤ 1000000 ∧
         RefAt W (rowB s7 acc * (pts w.heap.size (codesO C 22) * F)) b { R with left := l', state := 2 } wx)
       case atStart => exact ⟨l, [c], rfl, by simp, by rw [HT.out]; rfl, by rw [HT.out], by have := HML.out; simp at this ⊢; omega, HS2.out⟩
       case round =>
         obtain ⟨l', acc, rfl, hane, ha, hb, hal, hx⟩ := hrel
         obtain ⟨m, hm⟩ : ∃ m, made C l' = m := ⟨_, rfl⟩
         have hml := made_len C l'
         rw [hm] at hml
         have HA := Lib.hid ha
         have HB := Lib.hid hb
         have HMM := Lib.hid hm
         have HANE := Lib.hid hane
         obtain ⟨vL', G', hs, hg⟩ := hx.lens
         have HG' := Lib.hid hg
         have HS' := Lib.hid hs
         have hmk := madeR_any C HC.out (by simp only; omega) hs.drew
         simp only [hm] at hmk
         have HMK := Lib.hid hmk
         clear ha hb hm hane hx hs hg hmk c3 f3 l3
         go_upto_region 12 with fail
         go_cut [5] from 46 to 55 (fun s5 wx => RefAt W (rowB u7 acc * (pts w.heap.size (codesO C 22) * F)) b { R with left := m, state := 2 } wx)
         case first => as_aux_lemma =>
           go_wp2_with fail
           refine wp_region_any (by kernel_rfl) ?_
           change wpAny _ _ _ _ _ _ _ (World.drew _)
           refine wpAny_take (i := 0) (v := ?_) rfl (by kernel_rfl) (by kernel_rfl) (by kernel_rfl) (fun _ _ _ h => h) (Or.inl ⟨by rfl, ?_⟩) ?_
           rotate_left 1
           · intro w; go_simp; try with_reducible rfl
           refine wpAny_take (i := 1) (v := ?_) rfl (by kernel_rfl) (by kernel_rfl) (by kernel_rfl) (fun _ _ _ h => h) (Or.inl ⟨by rfl, ?_⟩) ?_
           rotate_left 1
           · intro w; go_simp; try with_reducible rfl
           refine wpAny_take (i := 2) (v := ?_) rfl (by kernel_rfl) (by kernel_rfl) (by kernel_rfl) (fun _ _ _ h => h) (Or.inl ⟨by rfl, ?_⟩) ?_
           rotate_left 1
           · intro w; go_simp; try with_reducible rfl
           refine wpAny_take (i := 3) (v := ?_) rfl (by kernel_rfl) (by kernel_rfl) (by kernel_rfl) (fun _ _ _ h => h) (Or.inl ⟨by rfl, ?_⟩) ?_
           rotate_left 1
           · intro w; go_simp; try with_reducible rfl
           have hk := (HG'.out _ _ _ HS'.out.drew).1
           have hb := (HG'.out _ _ _ HS'.out.drew).2.2.2.1.r.blk
           refine wpAny_pairR (i := 4) (j := 5) (vi := vL') (vj := codesV C) _ _ ?_ ?_ ?_ rfl rfl ?_ ?_ ?_ ?_ ?_ ?_ ?_ ?_ ?_
           · kernel_rfl
           · kernel_rfl
           · kernel_rfl
           · rfl
           · rfl
           · rfl
           · rfl
           · clear hb; go_simp
           · refine exec_load_row 22 (.tmp 3) rfl w.heap.size rfl 22 (C.map (Value.int .i64)).toArray (0, 0) _ hb Tryd.underlying22 rfl ?_
             rw [size_codes]; simp [HC.out]
           · refine exec_load_row 22 (.tmp 3) rfl w.heap.size rfl 22 (C.map (Value.int .i64)).toArray (0, 0) _ hb Tryd.underlying22 rfl ?_
             rw [size_codes]; simp [HC.out]
           · clear hb; go_simp
           clear hk hb
           refine wpAny_ready (rs := [6]) (by kernel_rfl) (by simp) (AllReady.cons rfl (fun K hK => ?_) AllReady.nil)
           go_simp
           refine Calls.mono HMK.out ?_
           rintro e w3 ⟨v', rfl, hs3⟩
           obtain ⟨av, cv, rfl, -, -, -⟩ := hs3.rowM_val
           obtain ⟨k2, kf2, klt, -, hR⟩ := HG'.out _ _ _ hs3
           have HR := Lib.hid (hR (fun h => absurd (HE.out.symm.trans h) (by simp)))
           clear hs3 hR
           go_simp
           refine hK _ _ ?_
           clear hK K
           refine wpAny_take (i := 7) (v := ?_) rfl (by kernel_rfl) (by kernel_rfl) (by kernel_rfl) (fun _ _ _ h => h) (Or.inl ⟨by rfl, ?_⟩) ?_
           rotate_left 1
           · intro w; go_simp; try with_reducible rfl
           refine wpAny_take (i := 8) (v := ?_) rfl (by kernel_rfl) (by kernel_rfl) (by kernel_rfl) (fun _ _ _ h => h) (Or.inl ⟨by rfl, ?_⟩) ?_
           rotate_left 1
           · intro w; go_simp; try with_reducible rfl
           refine wpAny_ready (rs := [9]) (by kernel_rfl) (by simp) (AllReady.cons rfl (fun K hK => ?_) AllReady.nil)
           go_simp
           refine hK _ _ ?_
           clear hK K
           refine wpAny_done (by kernel_rfl) ?_ _
           go_wp2_with fail
           go_meet
           exact HR.out
         case rest => as_aux_lemma =>
           have HR2 := Lib.hid hcut
           clear hcut
           obtain ⟨a6, c6, k2, k3⟩ := HR2.out.left
           simp only at k2 k3
           cases m with
           | nil =>
             have HLE := Lib.hid (show acc = c :: T.1 ∧ [] = T.2 by
               have h1 := HA.out
               have h2 := HB.out
               rw [letters_stop HMM.out] at h1 h2
               exact ⟨by simpa using h1, h2⟩)
             have HN := Lib.hid (show nameM C R = (acc, { R with left := [], state := 2 }) by rw [HN0.out, HLE.out.1, HLE.out.2])
             have hcv := conv_B HR2.out.sat HANE.out
             clear k3
             go_wp2
             go_ret
             exact ⟨by rw [HN.out]; rfl, by rw [HN.out]; exact HR2.out.drop.drop⟩
           | cons d r =>
             obtain ⟨g6, rfl, k4⟩ := k3 d r rfl
             clear k3
             have hcc := codes_cell HR2.out.sat.r HC.out d
             have lbc := HR2.out.sat.r.lt
             have i4 : (d.toNat : Int) < 256 := by have := d.toNat_lt; omega
             rw [List.length_cons] at k2 hml
             have i1 : ((r.length : Int) + 1 == 0) = false := by rw [beq_eq_false_iff_ne]; omega
             have i2 : (0 : Int) < (r.length : Int) + 1 := by omega
             by_cases h11 : codeAt C d = 11
             · have q1 : (codeAt C d != 11) = false := by simp [h11]
               have HL2 := Lib.hid (letters_more HMM.out h11)
               have HF1 := Lib.hid (firstR_any C HC.out (R := { R with left := d :: r, state := 2 }) rfl (by omega) HR2.out)
               have hblk := HR2.out.sat.r.blk
               clear h11
               go_wp2_with fail
               refine wp_load_row 22 (.tmp 3) (by rfl) w.heap.size (by rfl) _ _ _ _ hblk Tryd.underlying22 (by rfl) ?_ ?_
               · rw [size_codes]; simp [HC.out]
               clear hblk k2 k4 hcc lbc i1 i2
               go_wp2_with fail
               refine Calls.mono HF1.out ?_
               rintro e w5 ⟨rfl, hr5⟩
               obtain ⟨G2, hx1, hx2⟩ := (hr5.allocD (o := .cells #[.int .u8 d.toNat] 5)).frame
               have HX := Lib.hid hx1
               have HX2 := Lib.hid hx2
               clear hx1 hx2 hr5
               go_wp2_with (at_builtin; refine wpList_append_sep rfl _ _ 53 rfl i0 _ 1 Tryd.underlying53 HI.out HZ0.out HZ1.out HZ2.out rfl rfl HX.out ⟨w5.heap.size, 0, none⟩ 1 1 [.int .u8 d.toNat] rfl rfl ?_ ?_ ?_ ?_ ?_)
               · exact new_cells w5 #[.int .u8 d.toNat] 5
               · intro u hu
                 simp only [List.mem_singleton] at hu
                 subst hu
                 rfl
               · simp [maxLen]; omega
               · omega
               intro v' w6 h6
               have H6 := Lib.hid (HX2.out _ _ (show Sat W (rowB v' (acc ++ [d]) * G2) w6 from rowB_snoc h6 rfl rfl))
               clear h6
               go_wp2_with fail
               go_roundg r.length
               case measure => omega
               case rel => exact ⟨r, acc ++ [d], rfl, by simp, by rw [← HA.out, HL2.out]; simp, by rw [← HB.out, HL2.out], by simp; omega, H6.out⟩
             · have q1 : (codeAt C d != 11) = true := by simpa using h11
               have HLE := Lib.hid (show acc = c :: T.1 ∧ d :: r = T.2 by
                 have h1 := HA.out
                 have h2 := HB.out
                 rw [letters_other HMM.out h11] at h1 h2
                 exact ⟨by simpa using h1, h2⟩)
               have HN := Lib.hid (show nameM C R = (acc, { R with left := d :: r, state := 2 }) by rw [HN0.out, HLE.out.1, HLE.out.2])
               have hcv := conv_B HR2.out.sat HANE.out
               clear h11
               go_wp2
               go_ret
               exact ⟨by rw [HN.out]; rfl, by rw [HN.out]; exact HR2.out.drop.drop⟩
     · have q1 : (k == 11) = false := by simpa using e11
       have q1' : (k != 11) = true := by simpa using e11
       by_cases e10 : k = 10
       · subst e10
         have HN := Lib.hid (show nameM C R = ([c], { R with left := l, state := 2 }) by rw [nameM, HM.out]; simp only; rw [HK.out, if_neg (by decide), if_pos rfl])
         have hcv := conv_B HS2.out.sat (by simp)
         go_wp2
         go_ret
         exact ⟨by rw [HN.out]; rfl, by rw [HN.out]; exact HS2.out.drop.drop⟩
       · have q2 : (k == 10) = false := by simpa using e10
         have HN := Lib.hid (show nameM C R = ([c], { R with left := l, state := 1 }) by rw [nameM, HM.out]; simp only; rw [HK.out, if_neg e11, if_neg e10])
         have hcv := conv_B HST.out.sat (by simp)
         clear e11 e10
         go_wp2
         go_ret
         exact ⟨by rw [HN.out]; rfl, by rw [HN.out]; exact HST.out.drop.drop⟩
end Go.Proofs.YtkfobimigiaknaaDoor
