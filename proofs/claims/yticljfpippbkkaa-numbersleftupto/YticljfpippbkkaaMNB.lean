import Derived.Test.YticljfpippbkkaaMTA
import Derived.Deep.DeepCutAuto
import Derived.Deep.CutBlock
import Derived.Deep.LoopGhost
import Derived.Lib.SliceRun
import Derived.IntWalk
import Derived.Test.YticljfpippbkkaaMTE
/-
  A list of tokens as a source: New, Next, Back, Rest. Conditions: those that each theorem names.
-/
namespace Go.Proofs.Yticljfpippbkkaa
open Go.RowKit Go.Sp
variable {W w w' : World} {A : HProp}

/-- 's[m:]', be it at the capacity's end -/
theorem RdT.dropI {a : Option Addr} {n c m : Nat} {L : List Tok} (h : RdT w (.slice a n c) L) (hm : m ≤ L.length) : RdT w (sliced a m n c 3) (L.drop m) := by
  obtain ⟨hn, hc⟩ := h.cap
  subst hn
  rcases Nat.lt_or_ge m L.length with h1 | h1
  · obtain ⟨b, off, rfl, -⟩ := h.at h1
    have h2 := h.drop hm
    have e : c ≠ m := by omega
    simpa [sliced, e, Addr.add_lit] using h2
  · have e : m = L.length := by omega
    subst e
    rw [List.drop_length]
    unfold sliced
    rw [Nat.sub_self]
    exact RdT.empty _ _ _
abbrev lsO (v : Value) (m : Bool) : Obj := .cells #[v, .bool m] 25
/-- in block b: a list of which the tokens L are left -/
def LsAt (W : World) (A : HProp) (b : Nat) (L : List Tok) (w : World) : Prop := ∃ m v, RdM m v L ∧ Sat W (pts b (lsO v true) * (roH m * A)) w
theorem LsAt.focus {b : Nat} {L : List Tok} (h : LsAt W A b L w) : ∃ Y : HProp, Sat W (A * Y) w ∧ ∀ (A' : HProp) (w' : World), Sat W (A' * Y) w' → LsAt W A' b L w' := by
  obtain ⟨m, v, h1, h2⟩ := h
  exact ⟨pts b (lsO v true) * roH m, h2.of_eq (by ac_rfl), fun A' w' h => ⟨m, v, h1, h.of_eq (by ac_rfl)⟩⟩
theorem LsAt.sat {b : Nat} {L : List Tok} (h : LsAt W A b L w) : Sat W A w := by
  obtain ⟨Y, h1, _⟩ := h.focus
  exact h1.l
theorem LsAt.ext {b : Nat} {L : List Tok} (h : LsAt W A b L w) (k : Ext w w') : LsAt W A b L w' := by
  obtain ⟨Y, h1, back⟩ := h.focus
  exact back _ _ (h1.ext k)
theorem LsAt.rd {b : Nat} {L : List Tok} (h : LsAt W A b L w) : ∃ v, RdT w v L ∧ w.cell? ⟨b, 0, none⟩ = some v := by
  obtain ⟨m, v, h1, h2⟩ := h
  exact ⟨v, h2.r.ro_rd h1, h2.cell rfl⟩
abbrev tok0 : Tok := ⟨0, 0, ⟨#[]⟩⟩
abbrev zTok : Obj := .cells #[.int .i64 0, .int .u8 0, .string ⟨#[]⟩] 28

set_option maxRecDepth 100000 in
set_option maxHeartbeats 4000000 in
theorem clone_big (v : Value) (L : List Tok) (hv : ∀ w', Sat W A w' → RdT w' v L) (hl : L.length ≤ 2000000) (h : Sat W A w) :
    Calls Try.prog 26 #[v] w fun e w' => ∃ u, e = .returned u ∧ Sat W (rowT u L * A) w' := by
  obtain ⟨i0, hi, hz0, hz1, hz2⟩ := info_parts3 info_tok
  have HI := Lib.hid hi
  have HZ0 := Lib.hid hz0
  have HZ1 := Lib.hid hz1
  have HZ2 := Lib.hid hz2
  clear hi hz0 hz1 hz2
  obtain ⟨a, cap, rfl⟩ := (hv w h).val
  have H := Lib.hid h
  have HV := Lib.hid hv
  have qT : (binOp .eql 22 (.slice a L.length cap) (.slice none 0 0)).run Try.prog w = .ok (.bool a.isNone) w := Lib.run_eql_slice_nil w _ _ a _ _ _ _ Try.underlying22
  have HL := Lib.hid hl
  clear h hv hl
  cases a with
  | none =>
    have h0 : L = [] := by
      rcases Nat.eq_zero_or_pos L.length with h0 | h0
      · exact List.eq_nil_of_length_eq_zero h0
      · obtain ⟨b, off, c, e, _⟩ := (HV.out w H.out).head h0
        cases e
    subst h0
    simp only [List.length_nil] at qT
    go_enter Try.func26, Try.ntmps26
    go_wp2
    go_ret
    exact ⟨_, rfl, H.out.row_nil⟩
  | some a =>
    have HE := Lib.hid (row_empty H.out)
    have HR := Lib.hid ((HV.out w H.out).ext (Ext.alloc (Ext.refl w) (o := .cells #[] 28))).1
    go_enter Try.func26, Try.ntmps26
    go_upto_region 3 with fail
    go_step
    refine wpList_plain rfl (fun K hK => ?_)
    go_simp
    refine hK _ _ ?_
    clear hK K
    refine wpList_plain rfl (fun K hK => ?_)
    go_simp
    refine hK _ _ ?_
    clear hK K
    refine wpList_append_rd rfl _ _ 22 rfl i0 _ 32 Try.underlying22 HI.out HZ0.out HZ1.out HZ2.out rfl (by omega) rfl HE.out (.slice (some a) L.length cap) L.length (flat L) rfl HR.out (flat_one L) ?_ ?_ ?_
    · have := HL.out; simp [maxLen]; omega
    · have := HL.out; omega
    intro v1 w1 h1
    have H1 := Lib.hid (rowT_one (X := L) h1 (by simp) (by simp))
    clear h1
    go_wp2
    go_ret
    exact ⟨_, rfl, H1.out⟩
set_option maxRecDepth 100000 in
theorem lsnew_any {v : Value} {L : List Tok} (hv : ∀ w', Sat W A w' → RdT w' v L) (hl : L.length ≤ 2000000) (h : Sat W A w) :
    Calls Try.prog 27 #[v] w fun e w' => ∃ b, e = .returned (.pointer (some ⟨b, 0, none⟩)) ∧ LsAt W A b L w' := by
  have HC := Lib.hid (clone_big v L hv hl h)
  clear hv hl h
  go_enter Try.func27, Try.ntmps27
  go_wp2_with fail
  with_reducible refine Calls.mono HC.out ?_
  rintro e w2 ⟨u, rfl, h2⟩
  have H2 := Lib.hid h2
  clear h2 HC
  obtain ⟨ua, uc, rfl⟩ := (rowT_rd H2.out).val
  go_wp2
  go_ret
  refine ⟨_, rfl, ?_⟩
  have h3 := H2.out.alloc (lsO (.slice ua L.length uc) true)
  have h4 : Sat W (rowT (.slice ua L.length uc) L * (roH (fun _ => none) * (pts w2.heap.size (lsO (.slice ua L.length uc) true) * A))) (w2.alloc (lsO (.slice ua L.length uc) true)) := by
    have h5 := (h3.of_eq (show _ = rowT (.slice ua L.length uc) L * (pts w2.heap.size (lsO (.slice ua L.length uc) true) * A) by ac_rfl)).of_eq (emp_star (A := _)).symm
    have h6 : Sat W (roH (fun _ => none) * _) _ := h5.imp_l (B := roH (fun _ => none)) fun x hx => hx
    exact h6.of_eq (by ac_rfl)
  obtain ⟨m', h7, -, h8⟩ := h4.row_stays
  exact ⟨m', _, h8, h7.of_eq (by ac_rfl)⟩

set_option maxRecDepth 100000 in
set_option maxHeartbeats 4000000 in
theorem lsnext_end {b : Nat} (h : LsAt W A b [] w) : Calls Try.prog 9 #[.pointer (some ⟨b, 0, none⟩)] w fun e w' => e = .returned (.tuple #[tok0.val, .bool false]) ∧ LsAt W A b [] w' := by
  obtain ⟨m, v, h1, h2⟩ := h
  obtain ⟨a, c, hv⟩ := (h2.r.ro_rd h1).val
  simp only [List.length_nil] at hv
  subst hv
  obtain ⟨b2, hb2⟩ : ∃ b2, w.heap.size = b2 := ⟨_, rfl⟩
  have h3 := h2.alloc zTok
  obtain ⟨W1, hW1⟩ : ∃ W1, w.alloc zTok = W1 := ⟨_, rfl⟩
  rw [hb2, hW1] at h3
  have c0 : W1.cell? ⟨b, 0, none⟩ = some (.slice a 0 c) := h3.r.cell rfl
  have e0 := h3.cell (i := 0) rfl
  have e1 := h3.cell (i := 1) rfl
  have e2 := h3.cell (i := 2) rfl
  have f0 := h3.free (i := 0)
  have f1 := h3.free (i := 1)
  have f2 := h3.free (i := 2)
  have fl := h3.lt
  have H1 := Lib.hid h1
  have h4 := ((h3.set (i := 0) (v := .int .i64 0)).set (i := 1) (v := .int .u8 0)).set (i := 2) (v := .string ⟨#[]⟩)
  have H4 := Lib.hid (show Sat W (pts b2 zTok * _) _ from h4)
  have HW1 := Lib.hid hW1
  clear h1 h2 h3 h4 hW1
  go_enter Try.func9, Try.ntmps9
  go_upto_region 1 with fail
  rw [HW1.out]
  clear hb2 HW1
  go_wp2
  clear c0 e0 e1 e2 f0 f1 f2 fl
  have c0 := H4.out.cell (i := 0) rfl
  have c1 := H4.out.cell (i := 1) rfl
  have c2 := H4.out.cell (i := 2) rfl
  have fl := H4.out.lt
  refine bodyPost_ret (v := .tuple #[.agg #[.int .i64 0, .int .u8 0, .string ⟨#[]⟩], .bool false]) (by unfold results; go_simp) rfl ⟨rfl, m, _, H1.out, H4.out.r⟩

set_option maxRecDepth 100000 in
set_option maxHeartbeats 4000000 in
theorem lsnext_some {b : Nat} {x : Tok} {L : List Tok} (h : LsAt W A b (x :: L) w) : Calls Try.prog 9 #[.pointer (some ⟨b, 0, none⟩)] w fun e w' => e = .returned (.tuple #[x.val, .bool true]) ∧ LsAt W A b L w' := by
  obtain ⟨m, v, h1, h2⟩ := h
  have hrd := h2.r.ro_rd h1
  obtain ⟨a, c, hv⟩ := hrd.val
  subst hv
  obtain ⟨g, off, rfl, hat, hlt⟩ := hrd.at (i := 0) (by simp)
  obtain ⟨hcn, hcc⟩ := hrd.cap
  obtain ⟨b2, hb2⟩ : ∃ b2, w.heap.size = b2 := ⟨_, rfl⟩
  have h3 := h2.alloc zTok
  obtain ⟨W1, hW1⟩ : ∃ W1, w.alloc zTok = W1 := ⟨_, rfl⟩
  rw [hb2, hW1] at h3
  have z0 : W1.cell? ⟨b, 0, none⟩ = some (.slice (some ⟨g, off, none⟩) (L.length + 1) c) := h3.r.cell rfl
  have kb := h3.r.lt
  have fb := h3.r.free (i := 0)
  have hex : Ext w W1 := by rw [← hW1]; exact (Ext.refl w).alloc
  have y0 := hex.cell hat.c0
  have y1 := hex.cell hat.c1
  have y2 := hex.cell hat.c2
  have H1 := Lib.hid h1
  have H3 := Lib.hid h3
  have HC := Lib.hid (show L.length + 1 ≤ c from by simpa using hcc)
  have HRD := Lib.hid hrd
  have HW1 := Lib.hid hW1
  have HEX := Lib.hid hex
  simp only [List.length_cons] at H3
  have i1 : (0 : Int) < ((L.length + 1 : Nat) : Int) := by omega
  have i2 : ((L.length + 1 : Nat) : Int) ≠ 0 := by omega
  have i3 : (((L.length + 1 : Nat) : Int) == 0) = false := by rw [beq_eq_false_iff_ne]; omega
  rw [Nat.zero_mul, Nat.add_zero] at y0 y1 y2
  clear h1 h2 h3 hrd hat hlt hW1 hcn hcc hex
  go_enter Try.func9, Try.ntmps9
  go_upto_region 1 with fail
  rw [HW1.out]
  clear hb2 HW1
  go_upto_region 4 with fail
  have h4 := H3.out.alloc x.box
  obtain ⟨b4, hb4⟩ : ∃ b4, W1.heap.size = b4 := ⟨_, rfl⟩
  obtain ⟨W2, hW2⟩ : ∃ W2, W1.alloc x.box = W2 := ⟨_, rfl⟩
  rw [hb4, hW2] at h4
  rw [hW2, hb4]
  clear z0 kb fb y0 y1 y2 hb4 hW2
  have z0 : W2.cell? ⟨b, 0, none⟩ = some (.slice (some ⟨g, off, none⟩) (L.length + 1) c) := h4.r.r.cell rfl
  have kb := h4.r.r.lt
  have fb := h4.r.r.free (i := 0)
  have H4 := Lib.hid h4
  clear h4 H3
  go_upto_region 5 with fail
  obtain ⟨sa, hsa⟩ : ∃ sa, (if c = 1 then some (⟨g, off, none⟩ : Addr) else some ⟨g, off + 3, none⟩) = sa := ⟨_, rfl⟩
  have HM := Lib.hid (show RdM m (.slice sa L.length (c - 1)) L from fun w0 hw0 => by
    have h := (H1.out w0 hw0).dropI (m := 1) (by simp)
    rw [← hsa]
    exact h)
  rw [hsa]
  have h5 := (H4.out.of_eq (show _ = pts b (lsO (.slice (some ⟨g, off, none⟩) (L.length + 1) c) true) * (pts b4 x.box * (pts b2 zTok * (roH m * A))) by ac_rfl)).set (i := 0) (v := .slice sa L.length (c - 1))
  obtain ⟨W3, hW3⟩ : ∃ W3, W2.setCell ⟨b, 0, none⟩ (.slice sa L.length (c - 1)) = W3 := ⟨_, rfl⟩
  rw [hW3] at h5
  rw [hW3]
  clear hW3 z0 kb fb hsa
  have y0 := h5.r.cell (i := 0) rfl
  have y1 := h5.r.cell (i := 1) rfl
  have y2 := h5.r.cell (i := 2) rfl
  have e0 := h5.r.r.cell (i := 0) rfl
  have e1 := h5.r.r.cell (i := 1) rfl
  have e2 := h5.r.r.cell (i := 2) rfl
  have f0 := h5.r.r.free (i := 0)
  have f1 := h5.r.r.free (i := 1)
  have f2 := h5.r.r.free (i := 2)
  have fl := h5.r.r.lt
  have h6 := (((h5.of_eq (show _ = pts b2 zTok * (pts b (lsO (.slice sa L.length (c - 1)) true) * (pts b4 x.box * (roH m * A))) from by
    show pts b (lsO (.slice sa L.length (c - 1)) true) * (pts b4 x.box * (pts b2 zTok * (roH m * A))) = _
    ac_rfl)).set (i := 0) (v := .int .i64 x.cat)).set (i := 1) (v := .int .u8 x.chr.toNat)).set (i := 2) (v := .string x.name)
  have H6 := Lib.hid (show Sat W (pts b2 x.box * _) _ from h6)
  clear h5 h6 H4
  go_wp2
  clear y0 y1 y2 e0 e1 e2 f0 f1 f2 fl
  have c0 := H6.out.cell (i := 0) rfl
  have c1 := H6.out.cell (i := 1) rfl
  have c2 := H6.out.cell (i := 2) rfl
  have fl := H6.out.lt
  refine bodyPost_ret (v := .tuple #[x.val, .bool true]) (by unfold results; go_simp) rfl ⟨rfl, m, _, HM.out, H6.out.r.of_eq (show _ = pts b4 x.box * (pts b (lsO (.slice sa L.length (c - 1)) true) * (roH m * A)) by ac_rfl) |>.r⟩

set_option maxRecDepth 100000 in
theorem lsnext_nil : Calls Try.prog 9 #[.pointer none] w fun e w' => e = .returned (.tuple #[tok0.val, .bool false]) ∧ Ext w w' := by
  have h3 := (Sat.start w).alloc zTok
  obtain ⟨b2, hb2⟩ : ∃ b2, w.heap.size = b2 := ⟨_, rfl⟩
  obtain ⟨W1, hW1⟩ : ∃ W1, w.alloc zTok = W1 := ⟨_, rfl⟩
  rw [hb2, hW1] at h3
  have e0 := h3.cell (i := 0) rfl
  have e1 := h3.cell (i := 1) rfl
  have e2 := h3.cell (i := 2) rfl
  have f0 := h3.free (i := 0)
  have f1 := h3.free (i := 1)
  have f2 := h3.free (i := 2)
  have fl := h3.lt
  have h4 := ((h3.set (i := 0) (v := .int .i64 0)).set (i := 1) (v := .int .u8 0)).set (i := 2) (v := .string ⟨#[]⟩)
  have H4 := Lib.hid (show Sat w (pts b2 zTok * _) _ from h4)
  have HW1 := Lib.hid hW1
  clear h3 h4 hW1
  go_enter Try.func9, Try.ntmps9
  go_upto_region 1 with fail
  rw [HW1.out]
  clear hb2 HW1
  go_wp2
  clear e0 e1 e2 f0 f1 f2 fl
  have c0 := H4.out.cell (i := 0) rfl
  have c1 := H4.out.cell (i := 1) rfl
  have c2 := H4.out.cell (i := 2) rfl
  have fl := H4.out.lt
  refine bodyPost_ret (v := .tuple #[.agg #[.int .i64 0, .int .u8 0, .string ⟨#[]⟩], .bool false]) (by unfold results; go_simp) rfl ⟨rfl, H4.out.r.toExt⟩

end Go.Proofs.Yticljfpippbkkaa

/-
  A list of tokens as a source: Back, Rest. Conditions: those that each theorem names.
-/
namespace Go.Proofs.Yticljfpippbkkaa
open Go.RowKit Go.Sp
variable {W w w' : World} {A : HProp}

set_option maxRecDepth 100000 in
set_option maxHeartbeats 4000000 in
theorem lsback_any {b : Nat} {L : List Tok} (x : Tok) (hl : L.length ≤ 4000000) (h : LsAt W A b L w) : Calls Try.prog 8 #[.pointer (some ⟨b, 0, none⟩), x.val] w fun e w' => e = .returned (.tuple #[]) ∧ LsAt W A b (x :: L) w' := by
  obtain ⟨m, v, h1, h2⟩ := h
  obtain ⟨b3, hb3⟩ : ∃ b3, w.heap.size = b3 := ⟨_, rfl⟩
  have h3 := h2.alloc x.box
  obtain ⟨W1, hW1⟩ : ∃ W1, w.alloc x.box = W1 := ⟨_, rfl⟩
  rw [hb3, hW1] at h3
  obtain ⟨a, c, hv⟩ := (h2.r.ro_rd h1).val
  subst hv
  have c1 := h3.r.cell (i := 1) rfl
  have HW1 := Lib.hid hW1
  have H1 := Lib.hid h1
  have H3 := Lib.hid h3.drew
  have HL := Lib.hid hl
  obtain ⟨i0, hi, hz0, hz1, hz2⟩ := info_parts3 info_tok
  have HI := Lib.hid hi
  have HZ0 := Lib.hid hz0
  have HZ1 := Lib.hid hz1
  have HZ2 := Lib.hid hz2
  obtain ⟨C, hC⟩ : ∃ C : World → Prop, C = fun w' => ∃ X, Sat W (pts b3 x.box * (pts b (lsO (.slice a L.length c) true) * X)) w' := ⟨_, rfl⟩
  have HC := Lib.hid (show ∀ w', C w' → w'.cell? ⟨b, 0, none⟩ = some (.slice a L.length c) ∧ w'.cell? ⟨b3, 0, none⟩ = some (.int .i64 x.cat) ∧ w'.cell? ⟨b3, 1, none⟩ = some (.int .u8 x.chr.toNat) ∧ w'.cell? ⟨b3, 2, none⟩ = some (.string x.name) from fun w' h => by
    rw [hC] at h
    obtain ⟨X, h⟩ := h
    exact ⟨h.r.cell rfl, h.cell rfl, h.cell rfl, h.cell rfl⟩)
  have HC2 := Lib.hid (show ∀ X w', Sat W (pts b3 x.box * (pts b (lsO (.slice a L.length c) true) * X)) w' → C w' from fun X w' h => by rw [hC]; exact ⟨X, h⟩)
  clear h1 h2 h3 hl hC hi hz0 hz1 hz2 hW1
  go_enter Try.func8, Try.ntmps8
  go_upto_region 1 with fail
  rw [HW1.out]
  clear hb3 HW1
  go_upto_region 2 with fail
  clear c1
  refine wp_region_E C (by kernel_rfl) ?_
  obtain ⟨W9, hW9⟩ : ∃ W9, W1.drew = W9 := ⟨_, rfl⟩
  have h9 := H3.out
  rw [hW9] at h9
  rw [hW9]
  have H9 := Lib.hid h9
  clear h9 H3 hW9
  refine wpE_take (i := 0) (q := 8) (v := ?_) rfl (by kernel_rfl) (by kernel_rfl) (by kernel_rfl) (by kernel_rfl) (by kernel_rfl) (fun _ _ _ h => h) (by kernel_rfl) ?_ ?_
  rotate_left 1
  · intro w hw; obtain ⟨q0, q1, q2, q3⟩ := HC.out _ hw; go_simp; try with_reducible rfl
  refine wpE_take (i := 1) (q := 2) (v := ?_) rfl (by kernel_rfl) (by kernel_rfl) (by kernel_rfl) (by kernel_rfl) (by kernel_rfl) (fun _ _ _ h => h) (by kernel_rfl) ?_ ?_
  rotate_left 1
  · intro w hw; obtain ⟨q0, q1, q2, q3⟩ := HC.out _ hw; go_simp; try with_reducible rfl
  refine wpE_take (i := 3) (q := 4) (v := ?_) rfl (by kernel_rfl) (by kernel_rfl) (by kernel_rfl) (by kernel_rfl) (by kernel_rfl) (fun _ _ _ h => h) (by kernel_rfl) ?_ ?_
  rotate_left 1
  · intro w hw; obtain ⟨q0, q1, q2, q3⟩ := HC.out _ hw; go_simp; try with_reducible rfl
  refine wpE_take (i := 4) (q := 5) (v := ?_) rfl (by kernel_rfl) (by kernel_rfl) (by kernel_rfl) (by kernel_rfl) (by kernel_rfl) (fun _ _ _ h => h) (by kernel_rfl) ?_ ?_
  rotate_left 1
  · intro w hw; obtain ⟨q0, q1, q2, q3⟩ := HC.out _ hw; go_simp; try with_reducible rfl
  refine wpE_take (i := 5) (q := 6) (v := ?_) rfl (by kernel_rfl) (by kernel_rfl) (by kernel_rfl) (by kernel_rfl) (by kernel_rfl) (fun _ _ _ h => h) (by kernel_rfl) ?_ ?_
  rotate_left 1
  · intro w hw; obtain ⟨q0, q1, q2, q3⟩ := HC.out _ hw; go_simp; try with_reducible rfl
  refine wpE_take (i := 6) (q := 7) (v := ?_) rfl (by kernel_rfl) (by kernel_rfl) (by kernel_rfl) (by kernel_rfl) (by kernel_rfl) (fun _ _ _ h => h) (by kernel_rfl) ?_ ?_
  rotate_left 1
  · intro w hw; obtain ⟨q0, q1, q2, q3⟩ := HC.out _ hw; go_simp; try with_reducible rfl
  refine wpE_one (i := 2) rfl (by kernel_rfl) (HC2.out _ _ H9.out) (fun K hK => ?_)
  go_simp
  refine hK _ _ ?_
  clear hK K
  have h11 := H9.out.alloc x.box
  obtain ⟨b74, hb74⟩ : ∃ b74, W9.heap.size = b74 := ⟨_, rfl⟩
  obtain ⟨W11, hW11⟩ : ∃ W11, W9.alloc x.box = W11 := ⟨_, rfl⟩
  rw [hb74, hW11] at h11
  rw [hb74, hW11]
  have hcw3 := HC2.out _ _ (h11.of_eq (show _ = pts b3 x.box * (pts b (lsO (.slice a L.length c) true) * (pts b74 x.box * (roH m * A))) by ac_rfl))
  have hrow : Sat W (row (.slice (some ⟨b74, 0, none⟩) 1 1) 1 28 3 x.cells * (pts b3 x.box * (pts b (lsO (.slice a L.length c) true) * (roH m * A)))) W11 :=
    Sat.row_mk h11 (Nat.le_refl 1) (by simp [maxLen]) rfl rfl rfl
  have HRW := Lib.hid hrow
  have HRD := Lib.hid (hrow.r.r.r.ro_rd H1.out).1
  clear h11 hb74 hW11 H9 hrow
  refine wpE_one (i := 7) rfl (by kernel_rfl) (hcw3) (fun K hK => ?_)
  refine step_append_rd rfl _ _ 22 rfl i0 _ 32 Try.underlying22 HI.out HZ0.out HZ1.out HZ2.out rfl (by omega) rfl HRW.out (.slice a L.length c) L.length (flat L) rfl HRD.out (flat_one L) (by have := HL.out; simp [maxLen]; omega) (by have := HL.out; omega) ?_
  intro v1 w12 h12 _
  have h13 : Sat W (rowT v1 (x :: L) * (pts b3 x.box * (pts b (lsO (.slice a L.length c) true) * (roH m * A)))) w12 := by
    unfold rowT
    rw [flat_cons, List.length_cons, Nat.add_comm L.length 1]
    exact h12
  obtain ⟨a1, c1, hv1⟩ := (rowT_rd h13).val
  subst hv1
  have HCW := Lib.hid (HC2.out _ _ (h13.of_eq (show _ = pts b3 x.box * (pts b (lsO (.slice a L.length c) true) * (rowT (.slice a1 (x :: L).length c1) (x :: L) * (roH m * A))) by ac_rfl)))
  have ob := h13.r.r.lt
  have of := h13.r.r.free (i := 0)
  have oc := h13.r.r.cell (i := 0) rfl
  have h14 := (h13.of_eq (show _ = pts b (lsO (.slice a L.length c) true) * (rowT (.slice a1 (x :: L).length c1) (x :: L) * (roH m * (pts b3 x.box * A))) by ac_rfl)).set (i := 0) (v := .slice a1 (x :: L).length c1)
  have H14 := Lib.hid h14
  clear h12 h13 h14 hcw3 HRW HRD
  go_simp
  refine hK _ _ ?_
  clear hK K
  refine wpE_take (i := 8) (q := 9) (v := ?_) rfl (by kernel_rfl) (by kernel_rfl) (by kernel_rfl) (by kernel_rfl) (by kernel_rfl) (fun _ _ _ h => h) (by kernel_rfl) ?_ ?_
  rotate_left 1
  · intro w hw; obtain ⟨q0, q1, q2, q3⟩ := HC.out _ hw; go_simp; try with_reducible rfl
  refine wpE_take (i := 9) (q := 10) (v := ?_) rfl (by kernel_rfl) (by kernel_rfl) (by kernel_rfl) (by kernel_rfl) (by kernel_rfl) (fun _ _ _ h => h) (by kernel_rfl) ?_ ?_
  rotate_left 1
  · intro w hw; obtain ⟨q0, q1, q2, q3⟩ := HC.out _ hw; go_simp; try with_reducible rfl
  refine wpE_one (i := 10) rfl (by kernel_rfl) (HCW.out) (fun K hK => ?_)
  go_simp
  refine hK _ _ ?_
  clear hK K ob of oc
  refine wpE_done (by kernel_rfl) (by kernel_rfl) ?_
  obtain ⟨m', h15, h16, h17⟩ := (show Sat W (rowT (.slice a1 (x :: L).length c1) (x :: L) * (roH m * (pts b (lsO (.slice a1 (x :: L).length c1) true) * (pts b3 x.box * A)))) _ from
    (show Sat W (pts b (lsO (.slice a1 (x :: L).length c1) true) * _) _ from H14.out).of_eq (by ac_rfl)).row_stays
  have H15 := Lib.hid h15
  have H17 := Lib.hid h17
  clear h15 h16 h17 H14 HC HC2 HCW
  go_wp2
  go_end0
  exact ⟨rfl, m', _, H17.out, (H15.out.of_eq (show _ = pts b3 x.box * (pts b (lsO (.slice a1 (x :: L).length c1) true) * (roH m' * A)) by ac_rfl)).r⟩

set_option maxRecDepth 100000 in
theorem lsrest_any {b : Nat} {L : List Tok} (hl : L.length ≤ 2000000) (h : LsAt W A b L w) : Calls Try.prog 10 #[.pointer (some ⟨b, 0, none⟩)] w fun e w' => ∃ u, e = .returned u ∧ LsAt W (rowT u L * A) b L w' := by
  obtain ⟨m, v, h1, h2⟩ := h
  obtain ⟨a, c, hv⟩ := (h2.r.ro_rd h1).val
  subst hv
  have c0 := h2.cell (i := 0) rfl
  have HC := Lib.hid (clone_big (.slice a L.length c) L (fun w' h => h.r.ro_rd h1) hl h2)
  have H1 := Lib.hid h1
  clear h1 h2
  go_enter Try.func10, Try.ntmps10
  go_wp2_with fail
  with_reducible refine Calls.mono HC.out ?_
  rintro e w2 ⟨u, rfl, h2⟩
  have H2 := Lib.hid h2
  clear h2 HC
  go_wp2
  go_ret
  exact ⟨_, rfl, m, _, H1.out, H2.out.of_eq (by ac_rfl)⟩

end Go.Proofs.Yticljfpippbkkaa

/-
  blank, other, digit. Conditions: those that each theorem names.
-/
namespace Go.Proofs.Yticljfpippbkkaa
open Go.RowKit Go.Sp
variable {W w w' : World} {A : HProp}

def blankB (x : Tok) : Bool := x.cat == 10
def otherB (x : Tok) (c : UInt8) : Bool := x.cat == 12 && x.chr == c
set_option maxRecDepth 100000 in
theorem blank_any (x : Tok) : Calls Try.prog 50 #[x.val] w fun e w' => e = .returned (.bool (blankB x)) ∧ Ext w w' := by
  have h1 := (Sat.start w).alloc x.box
  have HX := Lib.hid h1.r.toExt
  clear h1
  go_enter Try.func50, Try.ntmps50
  go_wp2
  go_ret
  exact ⟨rfl, HX.out⟩
set_option maxRecDepth 100000 in
theorem other_any (x : Tok) (c : UInt8) : Calls Try.prog 58 #[x.val, .int .u8 c.toNat] w fun e w' => e = .returned (.bool (otherB x c)) ∧ Ext w w' := by
  obtain ⟨cat, chr, nm⟩ := x
  obtain ⟨T, hT⟩ : ∃ T, otherB ⟨cat, chr, nm⟩ c = T := ⟨_, rfl⟩
  rw [hT]
  have HT := Lib.hid hT
  clear hT
  by_cases hc : cat = 12
  · subst hc
    have HX := Lib.hid ((Sat.start w).alloc (Tok.box ⟨12, chr, nm⟩)).r.toExt
    have e : ((chr.toNat : Int) == (c.toNat : Int)) = T := by
      rw [← HT.out]
      unfold otherB
      simp only [beq_self_eq_true, Bool.true_and]
      rw [Bool.eq_iff_iff, beq_iff_eq, beq_iff_eq]
      constructor
      · intro h; exact UInt8.toNat_inj.1 (by omega)
      · intro h; rw [h]
    go_enter Try.func58, Try.ntmps58
    go_wp2
    go_ret
    exact ⟨rfl, HX.out⟩
  · have hb : (cat == 12) = false := by rw [beq_eq_false_iff_ne]; exact hc
    have e : T = false := by rw [← HT.out]; unfold otherB; rw [hb]; rfl
    have HE := Lib.hid e
    have HX := Lib.hid ((Sat.start w).alloc (Tok.box ⟨cat, chr, nm⟩)).r.toExt
    clear e
    go_enter Try.func58, Try.ntmps58
    go_wp2
    go_ret
    exact ⟨by rw [HE.out]; rfl, HX.out⟩

end Go.Proofs.Yticljfpippbkkaa

/-
  optional, out of any source that leads to a list. Conditions: those that each theorem names.
-/
namespace Go.Proofs.Yticljfpippbkkaa
open Go.RowKit Go.Sp
variable {W w w' : World} {A : HProp}

abbrev srcV (b : Nat) : Value := .iface 23 (.pointer (some ⟨b, 0, none⟩))
theorem m_next (n : Nat) (b : Nat) (w : World) : (method (n + 1) 23 (.pointer (some ⟨b, 0, none⟩)) "Next").run Try.prog w = .ok (9, .pointer (some ⟨b, 0, none⟩)) w := by kernel_rfl
theorem m_back (n : Nat) (b : Nat) (w : World) : (method (n + 1) 23 (.pointer (some ⟨b, 0, none⟩)) "Back").run Try.prog w = .ok (8, .pointer (some ⟨b, 0, none⟩)) w := by kernel_rfl
theorem lsnext_any {b : Nat} {L : List Tok} (h : LsAt W A b L w) : Calls Try.prog 9 #[.pointer (some ⟨b, 0, none⟩)] w fun e w' => e = .returned (.tuple #[(L.headD tok0).val, .bool (!L.isEmpty)]) ∧ LsAt W A b L.tail w' := by
  cases L with
  | nil => exact lsnext_end h
  | cons x L => exact lsnext_some h
theorem LsAt.less {B : HProp} {bs : Nat} {L : List Tok} (h : LsAt W (B * A) bs L w) : LsAt W A bs L w := by
  obtain ⟨Y, h1, back⟩ := h.focus
  exact back _ _ (h1.of_eq (by ac_rfl) : Sat W (B * (A * Y)) w).r
theorem LsAt.alloc {bs : Nat} {L : List Tok} (h : LsAt W A bs L w) (o : Obj) : LsAt W (pts w.heap.size o * A) bs L (w.alloc o) := by
  obtain ⟨Y, h1, back⟩ := h.focus
  exact back _ _ ((h1.alloc o).of_eq (by ac_rfl))
theorem LsAt.of_eq {B : HProp} {bs : Nat} {L : List Tok} (h : LsAt W A bs L w) (e : A = B) : LsAt W B bs L w := e ▸ h
theorem LsAt.drew {bs : Nat} {L : List Tok} (h : LsAt W A bs L w) : LsAt W A bs L w.drew := by
  obtain ⟨Y, h1, back⟩ := h.focus
  exact back _ _ h1.drew
/-- a source's Next and Back are those of the list in block b -/
def SrcOk (W : World) (A : HProp) (t : TypeId) (v : Value) (b : Nat) : Prop :=
  ∀ w', Sat W A w' → (∀ n, (method (n + 2) t v "Next").run Try.prog w' = .ok (9, .pointer (some ⟨b, 0, none⟩)) w') ∧
    (∀ n, (method (n + 2) t v "Back").run Try.prog w' = .ok (8, .pointer (some ⟨b, 0, none⟩)) w')
theorem SrcOk.list (b : Nat) : SrcOk W A 23 (.pointer (some ⟨b, 0, none⟩)) b := fun w' _ => ⟨fun n => m_next (n + 1) b w', fun n => m_back (n + 1) b w'⟩
theorem SrcOk.r {B : HProp} {t : TypeId} {v : Value} {b : Nat} (h : SrcOk W A t v b) : SrcOk W (B * A) t v b := fun w' hw => h w' hw.r
def optM : List Tok → List Tok
  | [] => []
  | x :: l => if blankB x = true then l else x :: l
set_option maxRecDepth 100000 in
set_option maxHeartbeats 4000000 in
theorem optional_any {t : TypeId} {v : Value} {b : Nat} {L : List Tok} (hs : SrcOk W A t v b) (hl : L.length ≤ 4000000) (h : LsAt W A b L w) : Calls Try.prog 56 #[.iface t v] w fun e w' => e = .returned (.tuple #[]) ∧ LsAt W A b (optM L) w' := by
  have HS := Lib.hid hs
  clear hs
  have m1 := (HS.out _ h.sat).1
  cases L with
  | nil =>
    have HN := Lib.hid (lsnext_end h)
    clear h
    go_enter Try.func56, Try.ntmps56
    go_wp2_with fail
    with_reducible refine Calls.mono HN.out ?_
    rintro e w2 ⟨rfl, h2⟩
    have H2 := Lib.hid h2
    clear h2 HN
    go_wp2
    go_end0
    exact ⟨rfl, H2.out.ext ((Ext.refl _).alloc)⟩
  | cons x L =>
    have HN := Lib.hid (lsnext_some h)
    clear h
    obtain ⟨T, hT⟩ : ∃ T, blankB x = T := ⟨_, rfl⟩
    have HT := Lib.hid hT
    clear hT
    go_enter Try.func56, Try.ntmps56
    go_wp2_with fail
    with_reducible refine Calls.mono HN.out ?_
    rintro e w2 ⟨rfl, h2⟩
    have H2 := Lib.hid (h2.ext ((Ext.refl _).alloc (o := x.box)))
    clear h2 HN m1
    go_wp2_with fail
    with_reducible refine Calls.mono (blank_any x) ?_
    rintro e w3 ⟨rfl, hex⟩
    have H3 := Lib.hid (H2.out.ext hex)
    have hn := (Sat.start w2).alloc x.box
    have c0 := hex.cell (hn.cell (i := 0) rfl)
    have c1 := hex.cell (hn.cell (i := 1) rfl)
    have c2 := hex.cell (hn.cell (i := 2) rfl)
    have m2 := (HS.out _ H3.out.sat).2
    clear hex H2 hn
    rw [HT.out]
    cases T with
    | true =>
      go_wp2
      go_end0
      refine ⟨rfl, ?_⟩
      rw [optM, if_pos HT.out]
      exact H3.out
    | false =>
      have HB := Lib.hid (lsback_any x (by simp only [List.length_cons] at hl; omega) H3.out)
      clear H3
      go_wp2_with fail
      with_reducible refine Calls.mono HB.out ?_
      rintro e w4 ⟨rfl, h4⟩
      have H4 := Lib.hid h4
      clear h4 HB c0 c1 c2 m2
      go_wp2
      go_end0
      refine ⟨rfl, ?_⟩
      rw [optM, if_neg (by rw [HT.out]; simp)]
      exact H4.out

end Go.Proofs.Yticljfpippbkkaa

/-
  A register, told, whatever register it is. Conditions: those that each theorem names.
-/
namespace Go.Proofs.Yticljfpippbkkaa
open Go.RowKit Go.Sp
variable {W w w' : World} {F A : HProp}

set_option maxRecDepth 100000 in
set_option maxHeartbeats 4000000 in
theorem get_no2 {b N : Nat} {S : TabS} {c i : Int} (hw : wrongE c i ≠ 0) (h : TabAt W F b N S w) :
    Calls Try.prog 45 #[.pointer (some ⟨b, 0, none⟩), .int .i64 c, .int .i64 i] w fun e w' => e = .returned (.tuple #[.agg #[.int .i64 0, .int .i64 0, .int .i64 0, .int .i64 0, .int .i64 0, .int .i64 0, .slice none 0 0], .int .i64 (wrongE c i)]) ∧ TabAt W F b N S w' := by
  have hb := h.allocX (.cells #[.int .i64 0, .int .i64 0, .int .i64 0, .int .i64 0, .int .i64 0, .int .i64 0, .slice none 0 0] 59)
  obtain ⟨bz, hbz⟩ : ∃ bz, w.heap.size = bz := ⟨_, rfl⟩
  rw [hbz] at hb
  have HW := Lib.hid (wrong_any c i hb)
  obtain ⟨er, her⟩ : ∃ er, wrongE c i = er := ⟨_, rfl⟩
  rw [her] at HW hw
  rw [her]
  have q1 : (er == 0) = false := by rw [beq_eq_false_iff_ne]; exact hw
  have HER := Lib.hid hw
  obtain ⟨Y, hs0, back⟩ := hb.focus
  have BACK := Lib.hid back
  have hs1 := hs0.asc
  have x0 := hs1.cell (i := 0) rfl
  have x1 := hs1.cell (i := 1) rfl
  have x2 := hs1.cell (i := 2) rfl
  have x3 := hs1.cell (i := 3) rfl
  have x4 := hs1.cell (i := 4) rfl
  have x5 := hs1.cell (i := 5) rfl
  have x6 := hs1.cell (i := 6) rfl
  have f0 := hs1.free (i := 0)
  have f1 := hs1.free (i := 1)
  have f2 := hs1.free (i := 2)
  have f3 := hs1.free (i := 3)
  have f4 := hs1.free (i := 4)
  have f5 := hs1.free (i := 5)
  have f6 := hs1.free (i := 6)
  have lx := hs1.lt
  have hs2 := sat_set7 hs1 (.int .i64 0) (.int .i64 0) (.int .i64 0) (.int .i64 0) (.int .i64 0) (.int .i64 0) (.slice none 0 0)
  have HS2 := Lib.hid hs2
  clear h hb her hw hs0 hs1 hs2 back
  go_enter Try.func45, Try.ntmps45
  go_wp2_with fail
  refine Calls.mono HW.out ?_
  rintro e w' ⟨rfl, rfl⟩
  generalize w.alloc (.cells #[.int .i64 0, .int .i64 0, .int .i64 0, .int .i64 0, .int .i64 0, .int .i64 0, .slice none 0 0] 59) = W1 at *
  go_wp2
  (try simp only [Exit.inBlock, Exit.then])
  refine bodyPost_ret (v := .tuple #[.agg #[.int .i64 0, .int .i64 0, .int .i64 0, .int .i64 0, .int .i64 0, .int .i64 0, .slice none 0 0], .int .i64 er]) (by unfold results; go_simp) rfl ?_
  exact ⟨rfl, (BACK.out _ _ HS2.out.asc').less⟩

/-- what Get tells of a register -/
def getV (S : TabS) (c i : Int) : RegS := if wrongE c i = 0 then S.regs (c.toNat * 256 + i.toNat) else ⟨0, ⟨0, 0, 0, 0, 0⟩, []⟩
theorem get_all {b N : Nat} {S : TabS} (c i : Int) (h : TabAt W F b N S w) :
    Calls Try.prog 45 #[.pointer (some ⟨b, 0, none⟩), .int .i64 c, .int .i64 i] w fun e w' => ∃ u, e = .returned (.tuple #[valA (getV S c i) u, .int .i64 (wrongE c i)]) ∧ TabAt W (rowT u (getV S c i).toks * F) b N S w' := by
  by_cases hw : wrongE c i = 0
  · have e1 : getV S c i = S.regs (c.toNat * 256 + i.toNat) := by rw [getV, if_pos hw]
    rw [e1, hw]
    obtain ⟨c', i', rfl, rfl, h1, h2, h3⟩ := wrongE_nat hw
    rw [Int.toNat_natCast, Int.toNat_natCast]
    exact get_any ⟨h1, h2⟩ h3 h
  · have e1 : getV S c i = ⟨0, ⟨0, 0, 0, 0, 0⟩, []⟩ := by rw [getV, if_neg hw]
    rw [e1]
    refine (get_no2 hw h).mono fun e w' ⟨he, hs⟩ => ⟨.slice none 0 0, he, hs.nil⟩

end Go.Proofs.Yticljfpippbkkaa
