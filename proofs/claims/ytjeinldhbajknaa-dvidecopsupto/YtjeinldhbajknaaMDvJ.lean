import Derived.Test.YtjeinldhbajknaaMG
import Derived.Lib.Strings
import Derived.Deep.MidRow
/-
  A font's definition joins what was read. Conditions: those that each theorem names.
-/
namespace Go.Proofs.Ytjeinldhbajknaa
open Go.RowKit Go.Sp Go.Conc
variable {W w w' : World} {A : HProp}

/-- are two definitions the same? -/
def defB (a b : DefM) : Bool := a.num == b.num && (a.sum == b.sum && (a.scale == b.scale && (a.design == b.design && decide (a.name = b.name))))
theorem defB_eq (a b : DefM) : defB a b = true ↔ a = b := by
  obtain ⟨a1, a2, a3, a4, a5⟩ := a
  obtain ⟨b1, b2, b3, b4, b5⟩ := b
  simp [defB]
theorem toListB {a b : ByteArray} : a.toList = b.toList ↔ a = b :=
  ⟨fun h => by rw [Lib.toList_data, Lib.toList_data] at h; cases a; cases b; congr 1; exact Array.toList_inj.1 h, fun h => h ▸ rfl⟩
theorem run_eq_def (w : World) (a b : DefM) : (Op.equalIn 10000 56 a.val b.val).run Try.prog w = .ok (defB a b) w := by
  obtain ⟨a1, a2, a3, a4, a5⟩ := a
  obtain ⟨b1, b2, b3, b4, b5⟩ := b
  unfold defB DefM.val
  go_simp
  simp only [toListB]
  by_cases h1 : a1 = b1 <;> by_cases h2 : a2 = b2 <;> by_cases h3 : a3 = b3 <;> by_cases h4 : a4 = b4 <;> by_cases h5 : a5 = b5 <;> simp [h1, h2, h3, h4, h5]
theorem run_neq_def (w : World) (a b : DefM) : (binOp .neq 56 a.val b.val).run Try.prog w = .ok (.bool (!defB a b)) w := by
  have h := run_eq_def w a b
  unfold DefM.val at h ⊢
  simp only [binOp]
  simp [Op.equal, Op.maxDepth, h]

def wrongD (d : DefM) : Bool := decide (d.scale < 1) || (decide (134217728 ≤ d.scale) || (decide (d.design < 1) || decide (134217728 ≤ d.design)))
def FileM.there (F : FileM) (d : DefM) : Bool := (F.fonts d.num).isSome
def FileM.known (F : FileM) (d : DefM) : Int := (F.told d.num).getD 0
noncomputable def FileM.define (F : FileM) (d : DefM) : FileM :=
  let F1 := F.fail (wrongD d)
  if F.part = 2 then
    { F1.fail (!F.there d || (!defB ((F.fonts d.num).getD zeroD) d || decide (0 < F.known d))) with told := mput F.told d.num (F.known d + 1), again := F.again ++ [d] }
  else { F1.fail (F.there d) with fonts := mput F.fonts d.num d, nf := if (F.fonts d.num).isSome then F.nf else F.nf + 1 }

abbrev defO (d : DefM) : Obj := .cells #[.int .i64 d.num, .int .i64 d.sum, .int .i64 d.scale, .int .i64 d.design, .string d.name] 56
theorem fail_fonts (F : FileM) (x : Bool) : (F.fail x).fonts = F.fonts ∧ (F.fail x).told = F.told ∧ (F.fail x).again = F.again ∧ (F.fail x).part = F.part ∧ (F.fail x).nf = F.nf := by
  unfold FileM.fail
  split <;> exact ⟨rfl, rfl, rfl, rfl, rfl⟩

theorem font_look1 {fb n : Nat} {f : Int → Option DefM} (h : Sat W (mapE (Value.int .i64) DefM.val fb n f * A) w) (k : Int) :
    (Instr.lookup 75 (.map (some fb)) (.int .i64 k) true).run Try.prog w = .ok (.tuple #[((f k).getD zeroD).val, .bool (f k).isSome]) w := by
  have := (h.mapE_weak).map_look (mt := 75) keyI Try.underlying75 zero_def k true
  rw [this]
  cases f k <;> rfl
theorem told_look {fb n : Nat} {f : Int → Option Int} (h : Sat W (mapE (Value.int .i64) (Value.int .i64) fb n f * A) w) (k : Int) :
    (Instr.lookup 76 (.map (some fb)) (.int .i64 k) false).run Try.prog w = .ok (.int .i64 ((f k).getD 0)) w := by
  have := (h.mapE_weak).map_look (mt := 76) keyI Try.underlying76 (z := .int .i64 0) (fun w => by kernel_rfl) k false
  rw [this]
  cases f k <;> rfl
theorem load_def {w : World} {b : Nat} {l1 l2 l3 l4 : Int} {l5 : ByteArray} (h0 : w.cell? ⟨b, 0, none⟩ = some (.int .i64 l1)) (h1 : w.cell? ⟨b, 1, none⟩ = some (.int .i64 l2)) (h2 : w.cell? ⟨b, 2, none⟩ = some (.int .i64 l3)) (h3 : w.cell? ⟨b, 3, none⟩ = some (.int .i64 l4)) (h4 : w.cell? ⟨b, 4, none⟩ = some (.string l5)) :
    (Instr.loadAt 56 (.pointer (some ⟨b, 0, none⟩))).run Try.prog w = .ok (.agg #[.int .i64 l1, .int .i64 l2, .int .i64 l3, .int .i64 l4, .string l5]) w :=
  run_loadAt_mid (P := Try.prog) w b 0 56 [.int .i64 l1, .int .i64 l2, .int .i64 l3, .int .i64 l4, .string l5] _ (fun j v hj => by
    rcases j with _ | _ | _ | _ | _ | j <;> simp at hj <;> subst hj <;> assumption) Try.underlying56 rfl (by kernel_rfl)
/-- a load whose run is known -/
theorem exec_load_m {P : Program} {o : Oper} {a : Act} {w : World} (ty : TypeId) (x : Operand) (ho : o.op = .load ty x) (b off : Nat) (hx : a.eval x = .pointer (some ⟨b, off, none⟩)) (v : Value)
    (hld : (Instr.loadAt ty (.pointer (some ⟨b, off, none⟩))).run P w = .ok v w) : (execOp a.eval o).run P w = .ok (.value v) w := by
  unfold execOp
  simp only [ho, hx, Sem.run_bind, Result.andThen_ok, Sem.run_pure, hld]
theorem info_def : (Try.prog.info? 56).map (fun i => (i.zero, i.size, i.bytes)) = some (some (.agg #[.int .i64 0, .int .i64 0, .int .i64 0, .int .i64 0, .string ByteArray.empty]), 5, 48) := by kernel_rfl
set_option maxRecDepth 100000 in
set_option maxHeartbeats 8000000 in
theorem define_any {b : Nat} {F : FileM} (d : DefM) (ht : 0 ≤ F.known d ∧ F.known d ≤ 1048576) (hag : F.again.length ≤ 1048576) (h : FileAt W A b F w) :
    Calls Try.prog 51 #[.pointer (some ⟨b, 0, none⟩), d.val] w fun e w' => e = .returned (.tuple #[]) ∧ FileAt W A b (F.define d) w' := by
  have hb := h.allocX (defO d)
  obtain ⟨b3, hb3⟩ : ∃ b3, w.heap.size = b3 := ⟨_, rfl⟩
  rw [hb3] at hb
  have HF := Lib.hid (fail_any (wrongD d) hb)
  obtain ⟨F1, hF1⟩ : ∃ F1, F.fail (wrongD d) = F1 := ⟨_, rfl⟩
  have hfs := fail_fonts F (wrongD d)
  rw [hF1] at HF hfs
  obtain ⟨s1, s2, s3, s4, s5⟩ := hfs
  have e0 : F.define d = (if F1.part = 2 then { F1.fail (!F1.there d || (!defB ((F1.fonts d.num).getD zeroD) d || decide (0 < F1.known d))) with told := mput F1.told d.num (F1.known d + 1), again := F1.again ++ [d] } else { F1.fail (F1.there d) with fonts := mput F1.fonts d.num d, nf := if (F1.fonts d.num).isSome then F1.nf else F1.nf + 1 }) := by
    rw [← hF1]
    unfold FileM.define
    cases wrongD d <;> rfl
  rw [e0]
  have hk : F.known d = F1.known d := by simp only [FileM.known, s2]
  rw [hk] at ht
  rw [← s3] at hag
  clear s1 s2 s3 s4 s5 hk
  have HT := Lib.hid ht
  have HAG := Lib.hid hag
  have q0 := hb.sat.cell (i := 0) rfl
  have q1 := hb.sat.cell (i := 1) rfl
  have q2 := hb.sat.cell (i := 2) rfl
  have q3 := hb.sat.cell (i := 3) rfl
  have q4 := hb.sat.cell (i := 4) rfl
  have ql := hb.sat.lt
  obtain ⟨d1, d2, d3, d4, d5⟩ := d
  have hwd : (decide (d3 < 1) || (decide (134217728 ≤ d3) || (decide (d4 < 1) || decide (134217728 ≤ d4)))) = wrongD ⟨d1, d2, d3, d4, d5⟩ := rfl
  obtain ⟨wd, hwd2⟩ : ∃ wd, wrongD ⟨d1, d2, d3, d4, d5⟩ = wd := ⟨_, rfl⟩
  rw [hwd2] at hwd HF
  unfold DefM.val
  simp only at *
  clear h hb e0 hF1 hwd2 ht hag
  obtain ⟨FR, hFR⟩ : ∃ FR, (if F1.part = 2 then { F1.fail (!F1.there ⟨d1, d2, d3, d4, d5⟩ || (!defB ((F1.fonts d1).getD zeroD) ⟨d1, d2, d3, d4, d5⟩ || decide (0 < F1.known ⟨d1, d2, d3, d4, d5⟩))) with told := mput F1.told d1 (F1.known ⟨d1, d2, d3, d4, d5⟩ + 1), again := F1.again ++ [⟨d1, d2, d3, d4, d5⟩] } else { F1.fail (F1.there ⟨d1, d2, d3, d4, d5⟩) with fonts := mput F1.fonts d1 ⟨d1, d2, d3, d4, d5⟩, nf := if (F1.fonts d1).isSome then F1.nf else F1.nf + 1 }) = FR := ⟨_, rfl⟩
  rw [hFR]
  have HFR := Lib.hid hFR
  clear hFR
  go_enter Try.func51, Try.ntmps51
  go_upto_region 1 with fail
  generalize w.alloc (.cells #[.int .i64 d1, .int .i64 d2, .int .i64 d3, .int .i64 d4, .string d5] 56) = W1 at *
  clear hb3
  go_cut [3] from 6 to 27 (fun s3 wx => s3 = .pointer (some ⟨b3, 0, none⟩) ∧ FileAt W (pts b3 (.cells #[.int .i64 d1, .int .i64 d2, .int .i64 d3, .int .i64 d4, .string d5] 56) * A) b F1 wx)
  case first =>
    by_cases j1 : d3 < 1
    · skip
      have hw2 : wd = true := by rw [← hwd]; simp [*]
      subst hw2
      go_wp2_with fail
      refine Calls.mono HF.out ?_
      rintro e w2 ⟨rfl, h2⟩
      have H2 := Lib.hid h2
      clear h2 HF hwd q0 q1 q2 q3 q4 ql
      go_wp2
      go_meet
      exact ⟨rfl, H2.out⟩
    · by_cases j2 : (134217728 : Int) ≤ d3
      · skip
        have hw2 : wd = true := by rw [← hwd]; simp [*]
        subst hw2
        go_wp2_with fail
        refine Calls.mono HF.out ?_
        rintro e w2 ⟨rfl, h2⟩
        have H2 := Lib.hid h2
        clear h2 HF hwd q0 q1 q2 q3 q4 ql
        go_wp2
        go_meet
        exact ⟨rfl, H2.out⟩
      · by_cases j3 : d4 < 1
        · skip
          have hw2 : wd = true := by rw [← hwd]; simp [*]
          subst hw2
          go_wp2_with fail
          refine Calls.mono HF.out ?_
          rintro e w2 ⟨rfl, h2⟩
          have H2 := Lib.hid h2
          clear h2 HF hwd q0 q1 q2 q3 q4 ql
          go_wp2
          go_meet
          exact ⟨rfl, H2.out⟩
        · by_cases j4 : (134217728 : Int) ≤ d4
          · skip
            have hw2 : wd = true := by rw [← hwd]; simp [*]
            subst hw2
            go_wp2_with fail
            refine Calls.mono HF.out ?_
            rintro e w2 ⟨rfl, h2⟩
            have H2 := Lib.hid h2
            clear h2 HF hwd q0 q1 q2 q3 q4 ql
            go_wp2
            go_meet
            exact ⟨rfl, H2.out⟩
          · skip
            have hw2 : wd = false := by rw [← hwd]; simp [*]
            subst hw2
            go_wp2_with fail
            refine Calls.mono HF.out ?_
            rintro e w2 ⟨rfl, h2⟩
            have H2 := Lib.hid h2
            clear h2 HF hwd q0 q1 q2 q3 q4 ql
            go_wp2
            go_meet
            exact ⟨rfl, H2.out⟩
  case rest =>
    obtain ⟨rfl, hx⟩ := hcut
    obtain ⟨m, fb, tb, nt, ov, av, pv, V, h1, h2⟩ := hx
    have H1 := Lib.hid h1
    obtain ⟨x, hx⟩ : ∃ x, (F1.fonts d1).isSome = x := ⟨_, rfl⟩
    obtain ⟨z, hz⟩ : ∃ z, (F1.fonts d1).getD zeroD = z := ⟨_, rfl⟩
    have HXX := Lib.hid hx
    have HZZ := Lib.hid hz
    obtain ⟨z1, z2, z3, z4, z5⟩ := z
    obtain ⟨C, hC⟩ : ∃ C : World → Prop, C = fun w' => ∃ X, Sat W (pts b3 (.cells #[.int .i64 d1, .int .i64 d2, .int .i64 d3, .int .i64 d4, .string d5] 56) * (pts b (fileO ov fb av tb F1 pv) * (mapE (Value.int .i64) DefM.val fb F1.nf F1.fonts * X))) w' := ⟨_, rfl⟩
    have HC := Lib.hid (show ∀ w', C w' → w'.cell? ⟨b, 1, none⟩ = some (.map (some fb)) ∧ w'.cell? ⟨b3, 0, none⟩ = some (.int .i64 d1) ∧ (Instr.lookup 75 (.map (some fb)) (.int .i64 d1) true).run Try.prog w' = .ok (.tuple #[.agg #[.int .i64 z1, .int .i64 z2, .int .i64 z3, .int .i64 z4, .string z5], .bool x]) w' from fun w' h => by
      rw [hC] at h
      obtain ⟨X, h⟩ := h
      refine ⟨h.r.cell rfl, h.cell rfl, ?_⟩
      rw [font_look1 h.r.r d1, hx, hz]
      rfl)
    have HCX := Lib.hid (show ∀ X w', Sat W (pts b3 (.cells #[.int .i64 d1, .int .i64 d2, .int .i64 d3, .int .i64 d4, .string d5] 56) * (pts b (fileO ov fb av tb F1 pv) * (mapE (Value.int .i64) DefM.val fb F1.nf F1.fonts * X))) w' → C w' from fun X w' h => by rw [hC]; exact ⟨X, h⟩)
    have H3 := Lib.hid (h2.of_eq (show _ = pts b3 (.cells #[.int .i64 d1, .int .i64 d2, .int .i64 d3, .int .i64 d4, .string d5] 56) * (pts b (fileO ov fb av tb F1 pv) * (mapE (Value.int .i64) DefM.val fb F1.nf F1.fonts * (roH m * (row ov V.length 33 4 (flatO V) * (row av F1.again.length 56 5 (flatD F1.again) * (mapE (Value.int .i64) (Value.int .i64) tb nt F1.told * A)))))) by ac_rfl)).drew
    clear hC h2 h1 hx hz
    go_upto_region 2 with fail
    refine wp_region_C C (by kernel_rfl) ?_
    generalize World.drew _ = W3 at *
    refine wpC_take (i := 0) (v := ?_) rfl (by kernel_rfl) (by kernel_rfl) (by kernel_rfl) (fun _ _ _ h => h) (by kernel_rfl) ?_ ?_
    rotate_left 1
    · intro w hw; obtain ⟨q0, q1, q2⟩ := HC.out _ hw; go_simp; try with_reducible rfl
    refine wpC_take (i := 1) (v := ?_) rfl (by kernel_rfl) (by kernel_rfl) (by kernel_rfl) (fun _ _ _ h => h) (by kernel_rfl) ?_ ?_
    rotate_left 1
    · intro w hw; obtain ⟨q0, q1, q2⟩ := HC.out _ hw; go_simp; try with_reducible rfl
    refine wpC_take (i := 2) (v := ?_) rfl (by kernel_rfl) (by kernel_rfl) (by kernel_rfl) (fun _ _ _ h => h) (by kernel_rfl) ?_ ?_
    rotate_left 1
    · intro w hw; obtain ⟨q0, q1, q2⟩ := HC.out _ hw; go_simp; try with_reducible rfl
    refine wpC_take (i := 3) (v := ?_) rfl (by kernel_rfl) (by kernel_rfl) (by kernel_rfl) (fun _ _ _ h => h) (by kernel_rfl) ?_ ?_
    rotate_left 1
    · intro w hw; obtain ⟨q0, q1, q2⟩ := HC.out _ hw; go_simp; try with_reducible rfl
    refine wpC_take (i := 4) (v := ?_) rfl (by kernel_rfl) (by kernel_rfl) (by kernel_rfl) (fun _ _ _ h => h) (by kernel_rfl) ?_ ?_
    rotate_left 1
    · intro w hw; obtain ⟨q0, q1, q2⟩ := HC.out _ hw; go_simp; try with_reducible rfl
    refine wpC_take (i := 5) (v := ?_) rfl (by kernel_rfl) (by kernel_rfl) (by kernel_rfl) (fun _ _ _ h => h) (by kernel_rfl) ?_ ?_
    rotate_left 1
    · intro w hw; obtain ⟨q0, q1, q2⟩ := HC.out _ hw; go_simp; try with_reducible rfl
    refine wpC_take (i := 6) (v := ?_) rfl (by kernel_rfl) (by kernel_rfl) (by kernel_rfl) (fun _ _ _ h => h) (by kernel_rfl) ?_ ?_
    rotate_left 1
    · intro w hw; obtain ⟨q0, q1, q2⟩ := HC.out _ hw; go_simp; try with_reducible rfl
    refine wpC_take (i := 7) (v := ?_) rfl (by kernel_rfl) (by kernel_rfl) (by kernel_rfl) (fun _ _ _ h => h) (by kernel_rfl) ?_ ?_
    rotate_left 1
    · intro w hw; obtain ⟨q0, q1, q2⟩ := HC.out _ hw; go_simp; try with_reducible rfl
    refine wpC_take (i := 8) (v := ?_) rfl (by kernel_rfl) (by kernel_rfl) (by kernel_rfl) (fun _ _ _ h => h) (by kernel_rfl) ?_ ?_
    rotate_left 1
    · intro w hw; obtain ⟨q0, q1, q2⟩ := HC.out _ hw; go_simp; try with_reducible rfl
    refine wpC_take (i := 9) (v := ?_) rfl (by kernel_rfl) (by kernel_rfl) (by kernel_rfl) (fun _ _ _ h => h) (by kernel_rfl) ?_ ?_
    rotate_left 1
    · intro w hw; obtain ⟨q0, q1, q2⟩ := HC.out _ hw; go_simp; try with_reducible rfl
    refine wpC_one (i := 10) rfl (by kernel_rfl) (HCX.out _ _ H3.out) (fun K hK => ?_)
    go_simp
    refine hK _ _ ?_
    clear hK K
    have h4 := H3.out.alloc (.cells #[.int .i64 0, .int .i64 0, .int .i64 0, .int .i64 0, .string ⟨#[]⟩] 56)
    obtain ⟨b4, hb4⟩ : ∃ b4, W3.heap.size = b4 := ⟨_, rfl⟩
    rw [hb4] at h4
    obtain ⟨W4, hW4⟩ : ∃ W4, W3.alloc (.cells #[.int .i64 0, .int .i64 0, .int .i64 0, .int .i64 0, .string ⟨#[]⟩] 56) = W4 := ⟨_, rfl⟩
    rw [hW4] at h4
    rw [hW4, hb4]
    have y0 := h4.cell (i := 0) rfl
    have y1 := h4.cell (i := 1) rfl
    have y2 := h4.cell (i := 2) rfl
    have y3 := h4.cell (i := 3) rfl
    have y4 := h4.cell (i := 4) rfl
    have f0 := h4.free (i := 0)
    have f1 := h4.free (i := 1)
    have f2 := h4.free (i := 2)
    have f3 := h4.free (i := 3)
    have f4 := h4.free (i := 4)
    have fl := h4.lt
    have h5 := ((((h4.set (i := 0) (v := .int .i64 z1)).set (i := 1) (v := .int .i64 z2)).set (i := 2) (v := .int .i64 z3)).set (i := 3) (v := .int .i64 z4)).set (i := 4) (v := .string z5)
    have H5 := Lib.hid (show Sat W (pts b4 (.cells #[.int .i64 z1, .int .i64 z2, .int .i64 z3, .int .i64 z4, .string z5] 56) * _) _ from h5)
    have hcw := HCX.out _ _ (h4.of_eq (show _ = pts b3 (.cells #[.int .i64 d1, .int .i64 d2, .int .i64 d3, .int .i64 d4, .string d5] 56) * (pts b (fileO ov fb av tb F1 pv) * (mapE (Value.int .i64) DefM.val fb F1.nf F1.fonts * (pts b4 (.cells #[.int .i64 0, .int .i64 0, .int .i64 0, .int .i64 0, .string ⟨#[]⟩] 56) * (roH m * (row ov V.length 33 4 (flatO V) * (row av F1.again.length 56 5 (flatD F1.again) * (mapE (Value.int .i64) (Value.int .i64) tb nt F1.told * A))))))) by ac_rfl))
    have HCW := Lib.hid hcw
    clear h4 h5 hcw hW4 hb4 H3
    refine wpC_one (i := 11) rfl (by kernel_rfl) (HCW.out) (fun K hK => ?_)
    go_simp
    refine hK _ _ ?_
    clear hK K
    clear y0 y1 y2 y3 y4 f0 f1 f2 f3 f4 fl
    generalize ((((W4.setCell ⟨b4, 0, none⟩ (.int .i64 z1)).setCell ⟨b4, 1, none⟩ (.int .i64 z2)).setCell ⟨b4, 2, none⟩ (.int .i64 z3)).setCell ⟨b4, 3, none⟩ (.int .i64 z4)).setCell ⟨b4, 4, none⟩ (.string z5) = W5 at *
    have H6 := Lib.hid (show FileAt W (pts b4 (.cells #[.int .i64 z1, .int .i64 z2, .int .i64 z3, .int .i64 z4, .string z5] 56) * (pts b3 (.cells #[.int .i64 d1, .int .i64 d2, .int .i64 d3, .int .i64 d4, .string d5] 56) * A)) b F1 W5 from ⟨m, fb, tb, nt, ov, av, pv, V, H1.out, H5.out.of_eq (by ac_rfl)⟩)
    have hcw := HCX.out _ _ (H5.out.of_eq (show _ = pts b3 (.cells #[.int .i64 d1, .int .i64 d2, .int .i64 d3, .int .i64 d4, .string d5] 56) * (pts b (fileO ov fb av tb F1 pv) * (mapE (Value.int .i64) DefM.val fb F1.nf F1.fonts * (pts b4 (.cells #[.int .i64 z1, .int .i64 z2, .int .i64 z3, .int .i64 z4, .string z5] 56) * (roH m * (row ov V.length 33 4 (flatO V) * (row av F1.again.length 56 5 (flatD F1.again) * (mapE (Value.int .i64) (Value.int .i64) tb nt F1.told * A))))))) by ac_rfl))
    have HCW := Lib.hid hcw
    clear hcw
    refine wpC_one (i := 12) rfl (by kernel_rfl) (HCW.out) (fun K hK => ?_)
    go_simp
    refine hK _ _ ?_
    clear hK K
    refine wpC_done (by kernel_rfl) (HCW.out) ?_
    clear HC HCX HCW H5 H1
    have hpc : W5.cell? ⟨b, 4, none⟩ = some (.int .i64 F1.part) ∧ b < W5.heap.size := by
      obtain ⟨m', fb', tb', nt', ov', av', pv', V', _, h2⟩ := H6.out
      exact ⟨h2.cell rfl, h2.lt⟩
    obtain ⟨hp4, hbl⟩ := hpc
    by_cases hp : F1.part = 2
    · obtain ⟨vf, hvf⟩ : ∃ vf, (!x || (!defB ⟨z1, z2, z3, z4, z5⟩ ⟨d1, d2, d3, d4, d5⟩ || decide (0 < F1.known ⟨d1, d2, d3, d4, d5⟩))) = vf := ⟨_, rfl⟩
      obtain ⟨F2, hF2⟩ : ∃ F2, F1.fail vf = F2 := ⟨_, rfl⟩
      have hfs2 := fail_fonts F1 vf
      rw [hF2] at hfs2
      have hfin := HFR.out
      rw [if_pos hp, show F1.there ⟨d1, d2, d3, d4, d5⟩ = x from HXX.out, HZZ.out, hvf, hF2] at hfin
      obtain ⟨kn, hkn⟩ : ∃ kn, F1.known ⟨d1, d2, d3, d4, d5⟩ = kn := ⟨_, rfl⟩
      have hkt := HT.out
      rw [hkn] at hvf hfin hkt
      have HFIN := Lib.hid hfin
      have HFS2 := Lib.hid hfs2
      have hkn2 : (F1.told d1).getD 0 = kn := hkn
      have HKN := Lib.hid hkn2
      have HKT := Lib.hid hkt
      have hqd := fun w => run_neq_def w ⟨z1, z2, z3, z4, z5⟩ ⟨d1, d2, d3, d4, d5⟩
      unfold DefM.val at hqd
      simp only at hqd
      obtain ⟨dq, hdq⟩ : ∃ dq, defB ⟨z1, z2, z3, z4, z5⟩ ⟨d1, d2, d3, d4, d5⟩ = dq := ⟨_, rfl⟩
      simp only [hdq] at hqd
      rw [hdq] at hvf
      have HF2 := Lib.hid (fail_any vf H6.out.drewD)
      rw [hF2] at HF2
      obtain ⟨m', fb', tb', nt', ov', av', pv', V', h1', h7⟩ := H6.out.drewD
      obtain ⟨C, hC⟩ : ∃ C : World → Prop, C = fun w' => ∃ X, Sat W (pts b3 (.cells #[.int .i64 d1, .int .i64 d2, .int .i64 d3, .int .i64 d4, .string d5] 56) * (pts b4 (.cells #[.int .i64 z1, .int .i64 z2, .int .i64 z3, .int .i64 z4, .string z5] 56) * (pts b (fileO ov' fb' av' tb' F1 pv') * (mapE (Value.int .i64) (Value.int .i64) tb' nt' F1.told * X)))) w' := ⟨_, rfl⟩
      have HC := Lib.hid (show ∀ w', C w' → w'.cell? ⟨b, 3, none⟩ = some (.map (some tb')) ∧ w'.cell? ⟨b3, 0, none⟩ = some (.int .i64 d1) ∧ (Instr.lookup 76 (.map (some tb')) (.int .i64 d1) false).run Try.prog w' = .ok (.int .i64 kn) w' from fun w' h => by
        rw [hC] at h
        obtain ⟨X, h⟩ := h
        exact ⟨h.r.r.cell rfl, h.cell rfl, by rw [told_look h.r.r.r d1, hkn2]⟩)
      have HLD := Lib.hid (show ∀ w', C w' → (Instr.loadAt 56 (.pointer (some ⟨b3, 0, none⟩))).run Try.prog w' = .ok (.agg #[.int .i64 d1, .int .i64 d2, .int .i64 d3, .int .i64 d4, .string d5]) w' ∧ (Instr.loadAt 56 (.pointer (some ⟨b4, 0, none⟩))).run Try.prog w' = .ok (.agg #[.int .i64 z1, .int .i64 z2, .int .i64 z3, .int .i64 z4, .string z5]) w' from fun w' h => by
        rw [hC] at h
        obtain ⟨X, h⟩ := h
        exact ⟨load_def (h.cell rfl) (h.cell rfl) (h.cell rfl) (h.cell rfl) (h.cell rfl), load_def (h.r.cell rfl) (h.r.cell rfl) (h.r.cell rfl) (h.r.cell rfl) (h.r.cell rfl)⟩)
      have hcw2 : C W5.drew := by
        rw [hC]
        exact ⟨_, h7.of_eq (show _ = pts b3 (.cells #[.int .i64 d1, .int .i64 d2, .int .i64 d3, .int .i64 d4, .string d5] 56) * (pts b4 (.cells #[.int .i64 z1, .int .i64 z2, .int .i64 z3, .int .i64 z4, .string z5] 56) * (pts b (fileO ov' fb' av' tb' F1 pv') * (mapE (Value.int .i64) (Value.int .i64) tb' nt' F1.told * (roH m' * (row ov' V'.length 33 4 (flatO V') * (mapE (Value.int .i64) DefM.val fb' F1.nf F1.fonts * (row av' F1.again.length 56 5 (flatD F1.again) * A))))))) by ac_rfl)⟩
      have HCW := Lib.hid hcw2
      clear h7 hC hcw2 h1' hF2 hfs2 hfin hkn hkn2 hkt hdq H6
      go_upto_region 4 with fail
      clear hp4 hbl hp
      go_cut [5] from 41 to 60 (fun s5 wx => s5 = .bool x ∧ FileAt W (pts b4 (.cells #[.int .i64 z1, .int .i64 z2, .int .i64 z3, .int .i64 z4, .string z5] 56) * (pts b3 (.cells #[.int .i64 d1, .int .i64 d2, .int .i64 d3, .int .i64 d4, .string d5] 56) * A)) b F2 wx)
      case first =>
        refine wp_region_E C (by kernel_rfl) ?_
        generalize W5.drew = W6 at *
        cases x with
        | false =>
          have hv2 : vf = true := by rw [← hvf]; rfl
          subst hv2
          refine wpE_take (i := 0) (q := 18) (v := ?_) rfl (by kernel_rfl) (by kernel_rfl) (by kernel_rfl) (by kernel_rfl) (by kernel_rfl) (fun _ _ _ h => h) (by kernel_rfl) ?_ ?_
          rotate_left 1
          · intro w hw; obtain ⟨q0, q1, q2⟩ := HC.out _ hw; go_simp; try with_reducible rfl
          refine wpE_take (i := 1) (q := 2) (v := ?_) rfl (by kernel_rfl) (by kernel_rfl) (by kernel_rfl) (by kernel_rfl) (by kernel_rfl) (fun _ _ _ h => h) (by kernel_rfl) ?_ ?_
          rotate_left 1
          · intro w hw; obtain ⟨q0, q1, q2⟩ := HC.out _ hw; go_simp; try with_reducible rfl
          refine wpE_take (i := 2) (q := 3) (v := ?_) rfl (by kernel_rfl) (by kernel_rfl) (by kernel_rfl) (by kernel_rfl) (by kernel_rfl) (fun _ _ _ h => h) (by kernel_rfl) ?_ ?_
          rotate_left 1
          · intro w hw; obtain ⟨q0, q1, q2⟩ := HC.out _ hw; go_simp; try with_reducible rfl
          refine wpE_take (i := 3) (q := 7) (v := ?_) rfl (by kernel_rfl) (by kernel_rfl) (by kernel_rfl) (by kernel_rfl) (by kernel_rfl) (fun _ _ _ h => h) (by kernel_rfl) ?_ ?_
          rotate_left 1
          · intro w hw; obtain ⟨q0, q1, q2⟩ := HC.out _ hw; go_simp; try with_reducible rfl
          refine wpE_pass (i := 4) (q := 6) rfl (by kernel_rfl) (by kernel_rfl) (by kernel_rfl) (by kernel_rfl) (by kernel_rfl) (fun _ _ _ h => h) (by kernel_rfl) ?_
          refine wpE_pass (i := 5) (q := 6) rfl (by kernel_rfl) (by kernel_rfl) (by kernel_rfl) (by kernel_rfl) (by kernel_rfl) (fun _ _ _ h => h) (by kernel_rfl) ?_
          refine wpE_pass (i := 6) (q := 7) rfl (by kernel_rfl) (by kernel_rfl) (by kernel_rfl) (by kernel_rfl) (by kernel_rfl) (fun _ _ _ h => h) (by kernel_rfl) ?_
          refine wpE_take (i := 7) (q := 8) (v := ?_) rfl (by kernel_rfl) (by kernel_rfl) (by kernel_rfl) (by kernel_rfl) (by kernel_rfl) (fun _ _ _ h => h) (by kernel_rfl) ?_ ?_
          rotate_left 1
          · intro w hw; obtain ⟨q0, q1, q2⟩ := HC.out _ hw; go_simp; try with_reducible rfl
          refine wpE_take (i := 8) (q := 17) (v := ?_) rfl (by kernel_rfl) (by kernel_rfl) (by kernel_rfl) (by kernel_rfl) (by kernel_rfl) (fun _ _ _ h => h) (by kernel_rfl) ?_ ?_
          rotate_left 1
          · intro w hw; obtain ⟨q0, q1, q2⟩ := HC.out _ hw; go_simp; try with_reducible rfl
          refine wpE_pass (i := 9) (q := 10) rfl (by kernel_rfl) (by kernel_rfl) (by kernel_rfl) (by kernel_rfl) (by kernel_rfl) (fun _ _ _ h => h) (by kernel_rfl) ?_
          refine wpE_pass (i := 10) (q := 11) rfl (by kernel_rfl) (by kernel_rfl) (by kernel_rfl) (by kernel_rfl) (by kernel_rfl) (fun _ _ _ h => h) (by kernel_rfl) ?_
          refine wpE_pass (i := 11) (q := 12) rfl (by kernel_rfl) (by kernel_rfl) (by kernel_rfl) (by kernel_rfl) (by kernel_rfl) (fun _ _ _ h => h) (by kernel_rfl) ?_
          refine wpE_pass (i := 12) (q := 15) rfl (by kernel_rfl) (by kernel_rfl) (by kernel_rfl) (by kernel_rfl) (by kernel_rfl) (fun _ _ _ h => h) (by kernel_rfl) ?_
          refine wpE_pass (i := 13) (q := 14) rfl (by kernel_rfl) (by kernel_rfl) (by kernel_rfl) (by kernel_rfl) (by kernel_rfl) (fun _ _ _ h => h) (by kernel_rfl) ?_
          refine wpE_pass (i := 14) (q := 15) rfl (by kernel_rfl) (by kernel_rfl) (by kernel_rfl) (by kernel_rfl) (by kernel_rfl) (fun _ _ _ h => h) (by kernel_rfl) ?_
          refine wpE_pass (i := 15) (q := 16) rfl (by kernel_rfl) (by kernel_rfl) (by kernel_rfl) (by kernel_rfl) (by kernel_rfl) (fun _ _ _ h => h) (by kernel_rfl) ?_
          refine wpE_pass (i := 16) (q := 17) rfl (by kernel_rfl) (by kernel_rfl) (by kernel_rfl) (by kernel_rfl) (by kernel_rfl) (fun _ _ _ h => h) (by kernel_rfl) ?_
          refine wpE_take (i := 17) (q := 18) (v := ?_) rfl (by kernel_rfl) (by kernel_rfl) (by kernel_rfl) (by kernel_rfl) (by kernel_rfl) (fun _ _ _ h => h) (by kernel_rfl) ?_ ?_
          rotate_left 1
          · intro w hw; obtain ⟨q0, q1, q2⟩ := HC.out _ hw; go_simp; try with_reducible rfl
          refine wpE_one (i := 18) rfl (by kernel_rfl) (HCW.out) (fun K hK => ?_)
          go_simp
          refine Calls.mono HF2.out ?_
          rintro e w7 ⟨rfl, h7⟩
          have H7 := Lib.hid h7
          clear h7 HF2
          go_simp
          refine hK _ _ ?_
          clear hK K
          refine wpE_done (by kernel_rfl) (by kernel_rfl) ?_
          go_wp2
          go_meet
          exact ⟨rfl, H7.out⟩
        | true =>
          cases dq with
          | false =>
            have hv2 : vf = true := by rw [← hvf]; rfl
            subst hv2
            refine wpE_take (i := 0) (q := 18) (v := ?_) rfl (by kernel_rfl) (by kernel_rfl) (by kernel_rfl) (by kernel_rfl) (by kernel_rfl) (fun _ _ _ h => h) (by kernel_rfl) ?_ ?_
            rotate_left 1
            · intro w hw; obtain ⟨q0, q1, q2⟩ := HC.out _ hw; go_simp; try with_reducible rfl
            refine wpE_take (i := 1) (q := 2) (v := ?_) rfl (by kernel_rfl) (by kernel_rfl) (by kernel_rfl) (by kernel_rfl) (by kernel_rfl) (fun _ _ _ h => h) (by kernel_rfl) ?_ ?_
            rotate_left 1
            · intro w hw; obtain ⟨q0, q1, q2⟩ := HC.out _ hw; go_simp; try with_reducible rfl
            refine wpE_take (i := 2) (q := 3) (v := ?_) rfl (by kernel_rfl) (by kernel_rfl) (by kernel_rfl) (by kernel_rfl) (by kernel_rfl) (fun _ _ _ h => h) (by kernel_rfl) ?_ ?_
            rotate_left 1
            · intro w hw; obtain ⟨q0, q1, q2⟩ := HC.out _ hw; go_simp; try with_reducible rfl
            refine wpE_take (i := 3) (q := 7) (v := ?_) rfl (by kernel_rfl) (by kernel_rfl) (by kernel_rfl) (by kernel_rfl) (by kernel_rfl) (fun _ _ _ h => h) (by kernel_rfl) ?_ ?_
            rotate_left 1
            · intro w hw; obtain ⟨q0, q1, q2⟩ := HC.out _ hw; go_simp; try with_reducible rfl
            refine wpE_take (i := 4) (q := 6) (v := .agg #[.int .i64 z1, .int .i64 z2, .int .i64 z3, .int .i64 z4, .string z5]) rfl (by kernel_rfl) (by kernel_rfl) (by kernel_rfl) (by kernel_rfl) (by kernel_rfl) (fun _ _ _ h => h) (by kernel_rfl) (fun w hw => ?_) ?_
            · refine exec_load_m 56 (.tmp 4) rfl b4 0 ?_ _ (HLD.out _ hw).2
              kernel_rfl
            refine wpE_take (i := 5) (q := 6) (v := .agg #[.int .i64 d1, .int .i64 d2, .int .i64 d3, .int .i64 d4, .string d5]) rfl (by kernel_rfl) (by kernel_rfl) (by kernel_rfl) (by kernel_rfl) (by kernel_rfl) (fun _ _ _ h => h) (by kernel_rfl) (fun w hw => ?_) ?_
            · refine exec_load_m 56 (.tmp 3) rfl b3 0 ?_ _ (HLD.out _ hw).1
              kernel_rfl
            refine wpE_take (i := 6) (q := 7) (v := ?_) rfl (by kernel_rfl) (by kernel_rfl) (by kernel_rfl) (by kernel_rfl) (by kernel_rfl) (fun _ _ _ h => h) (by kernel_rfl) ?_ ?_
            rotate_left 1
            · intro w hw; obtain ⟨q0, q1, q2⟩ := HC.out _ hw; go_simp; try with_reducible rfl
            refine wpE_take (i := 7) (q := 8) (v := ?_) rfl (by kernel_rfl) (by kernel_rfl) (by kernel_rfl) (by kernel_rfl) (by kernel_rfl) (fun _ _ _ h => h) (by kernel_rfl) ?_ ?_
            rotate_left 1
            · intro w hw; obtain ⟨q0, q1, q2⟩ := HC.out _ hw; go_simp; try with_reducible rfl
            refine wpE_take (i := 8) (q := 17) (v := ?_) rfl (by kernel_rfl) (by kernel_rfl) (by kernel_rfl) (by kernel_rfl) (by kernel_rfl) (fun _ _ _ h => h) (by kernel_rfl) ?_ ?_
            rotate_left 1
            · intro w hw; obtain ⟨q0, q1, q2⟩ := HC.out _ hw; go_simp; try with_reducible rfl
            refine wpE_pass (i := 9) (q := 10) rfl (by kernel_rfl) (by kernel_rfl) (by kernel_rfl) (by kernel_rfl) (by kernel_rfl) (fun _ _ _ h => h) (by kernel_rfl) ?_
            refine wpE_pass (i := 10) (q := 11) rfl (by kernel_rfl) (by kernel_rfl) (by kernel_rfl) (by kernel_rfl) (by kernel_rfl) (fun _ _ _ h => h) (by kernel_rfl) ?_
            refine wpE_pass (i := 11) (q := 12) rfl (by kernel_rfl) (by kernel_rfl) (by kernel_rfl) (by kernel_rfl) (by kernel_rfl) (fun _ _ _ h => h) (by kernel_rfl) ?_
            refine wpE_pass (i := 12) (q := 15) rfl (by kernel_rfl) (by kernel_rfl) (by kernel_rfl) (by kernel_rfl) (by kernel_rfl) (fun _ _ _ h => h) (by kernel_rfl) ?_
            refine wpE_pass (i := 13) (q := 14) rfl (by kernel_rfl) (by kernel_rfl) (by kernel_rfl) (by kernel_rfl) (by kernel_rfl) (fun _ _ _ h => h) (by kernel_rfl) ?_
            refine wpE_pass (i := 14) (q := 15) rfl (by kernel_rfl) (by kernel_rfl) (by kernel_rfl) (by kernel_rfl) (by kernel_rfl) (fun _ _ _ h => h) (by kernel_rfl) ?_
            refine wpE_pass (i := 15) (q := 16) rfl (by kernel_rfl) (by kernel_rfl) (by kernel_rfl) (by kernel_rfl) (by kernel_rfl) (fun _ _ _ h => h) (by kernel_rfl) ?_
            refine wpE_pass (i := 16) (q := 17) rfl (by kernel_rfl) (by kernel_rfl) (by kernel_rfl) (by kernel_rfl) (by kernel_rfl) (fun _ _ _ h => h) (by kernel_rfl) ?_
            refine wpE_take (i := 17) (q := 18) (v := ?_) rfl (by kernel_rfl) (by kernel_rfl) (by kernel_rfl) (by kernel_rfl) (by kernel_rfl) (fun _ _ _ h => h) (by kernel_rfl) ?_ ?_
            rotate_left 1
            · intro w hw; obtain ⟨q0, q1, q2⟩ := HC.out _ hw; go_simp; try with_reducible rfl
            refine wpE_one (i := 18) rfl (by kernel_rfl) (HCW.out) (fun K hK => ?_)
            go_simp
            refine Calls.mono HF2.out ?_
            rintro e w7 ⟨rfl, h7⟩
            have H7 := Lib.hid h7
            clear h7 HF2
            go_simp
            refine hK _ _ ?_
            clear hK K
            refine wpE_done (by kernel_rfl) (by kernel_rfl) ?_
            go_wp2
            go_meet
            exact ⟨rfl, H7.out⟩
          | true =>
            have hv2 : vf = decide (0 < kn) := by rw [← hvf]; rfl
            rw [hv2] at HF2
            refine wpE_take (i := 0) (q := 18) (v := ?_) rfl (by kernel_rfl) (by kernel_rfl) (by kernel_rfl) (by kernel_rfl) (by kernel_rfl) (fun _ _ _ h => h) (by kernel_rfl) ?_ ?_
            rotate_left 1
            · intro w hw; obtain ⟨q0, q1, q2⟩ := HC.out _ hw; go_simp; try with_reducible rfl
            refine wpE_take (i := 1) (q := 2) (v := ?_) rfl (by kernel_rfl) (by kernel_rfl) (by kernel_rfl) (by kernel_rfl) (by kernel_rfl) (fun _ _ _ h => h) (by kernel_rfl) ?_ ?_
            rotate_left 1
            · intro w hw; obtain ⟨q0, q1, q2⟩ := HC.out _ hw; go_simp; try with_reducible rfl
            refine wpE_take (i := 2) (q := 3) (v := ?_) rfl (by kernel_rfl) (by kernel_rfl) (by kernel_rfl) (by kernel_rfl) (by kernel_rfl) (fun _ _ _ h => h) (by kernel_rfl) ?_ ?_
            rotate_left 1
            · intro w hw; obtain ⟨q0, q1, q2⟩ := HC.out _ hw; go_simp; try with_reducible rfl
            refine wpE_take (i := 3) (q := 7) (v := ?_) rfl (by kernel_rfl) (by kernel_rfl) (by kernel_rfl) (by kernel_rfl) (by kernel_rfl) (fun _ _ _ h => h) (by kernel_rfl) ?_ ?_
            rotate_left 1
            · intro w hw; obtain ⟨q0, q1, q2⟩ := HC.out _ hw; go_simp; try with_reducible rfl
            refine wpE_take (i := 4) (q := 6) (v := .agg #[.int .i64 z1, .int .i64 z2, .int .i64 z3, .int .i64 z4, .string z5]) rfl (by kernel_rfl) (by kernel_rfl) (by kernel_rfl) (by kernel_rfl) (by kernel_rfl) (fun _ _ _ h => h) (by kernel_rfl) (fun w hw => ?_) ?_
            · refine exec_load_m 56 (.tmp 4) rfl b4 0 ?_ _ (HLD.out _ hw).2
              kernel_rfl
            refine wpE_take (i := 5) (q := 6) (v := .agg #[.int .i64 d1, .int .i64 d2, .int .i64 d3, .int .i64 d4, .string d5]) rfl (by kernel_rfl) (by kernel_rfl) (by kernel_rfl) (by kernel_rfl) (by kernel_rfl) (fun _ _ _ h => h) (by kernel_rfl) (fun w hw => ?_) ?_
            · refine exec_load_m 56 (.tmp 3) rfl b3 0 ?_ _ (HLD.out _ hw).1
              kernel_rfl
            refine wpE_take (i := 6) (q := 7) (v := ?_) rfl (by kernel_rfl) (by kernel_rfl) (by kernel_rfl) (by kernel_rfl) (by kernel_rfl) (fun _ _ _ h => h) (by kernel_rfl) ?_ ?_
            rotate_left 1
            · intro w hw; obtain ⟨q0, q1, q2⟩ := HC.out _ hw; go_simp; try with_reducible rfl
            refine wpE_take (i := 7) (q := 8) (v := ?_) rfl (by kernel_rfl) (by kernel_rfl) (by kernel_rfl) (by kernel_rfl) (by kernel_rfl) (fun _ _ _ h => h) (by kernel_rfl) ?_ ?_
            rotate_left 1
            · intro w hw; obtain ⟨q0, q1, q2⟩ := HC.out _ hw; go_simp; try with_reducible rfl
            refine wpE_take (i := 8) (q := 17) (v := ?_) rfl (by kernel_rfl) (by kernel_rfl) (by kernel_rfl) (by kernel_rfl) (by kernel_rfl) (fun _ _ _ h => h) (by kernel_rfl) ?_ ?_
            rotate_left 1
            · intro w hw; obtain ⟨q0, q1, q2⟩ := HC.out _ hw; go_simp; try with_reducible rfl
            refine wpE_take (i := 9) (q := 10) (v := ?_) rfl (by kernel_rfl) (by kernel_rfl) (by kernel_rfl) (by kernel_rfl) (by kernel_rfl) (fun _ _ _ h => h) (by kernel_rfl) ?_ ?_
            rotate_left 1
            · intro w hw; obtain ⟨q0, q1, q2⟩ := HC.out _ hw; go_simp; try with_reducible rfl
            refine wpE_take (i := 10) (q := 11) (v := ?_) rfl (by kernel_rfl) (by kernel_rfl) (by kernel_rfl) (by kernel_rfl) (by kernel_rfl) (fun _ _ _ h => h) (by kernel_rfl) ?_ ?_
            rotate_left 1
            · intro w hw; obtain ⟨q0, q1, q2⟩ := HC.out _ hw; go_simp; try with_reducible rfl
            refine wpE_take (i := 11) (q := 12) (v := ?_) rfl (by kernel_rfl) (by kernel_rfl) (by kernel_rfl) (by kernel_rfl) (by kernel_rfl) (fun _ _ _ h => h) (by kernel_rfl) ?_ ?_
            rotate_left 1
            · intro w hw; obtain ⟨q0, q1, q2⟩ := HC.out _ hw; go_simp; try with_reducible rfl
            refine wpE_take (i := 12) (q := 15) (v := ?_) rfl (by kernel_rfl) (by kernel_rfl) (by kernel_rfl) (by kernel_rfl) (by kernel_rfl) (fun _ _ _ h => h) (by kernel_rfl) ?_ ?_
            rotate_left 1
            · intro w hw; obtain ⟨q0, q1, q2⟩ := HC.out _ hw; go_simp; try with_reducible rfl
            refine wpE_take (i := 13) (q := 14) (v := ?_) rfl (by kernel_rfl) (by kernel_rfl) (by kernel_rfl) (by kernel_rfl) (by kernel_rfl) (fun _ _ _ h => h) (by kernel_rfl) ?_ ?_
            rotate_left 1
            · intro w hw; obtain ⟨q0, q1, q2⟩ := HC.out _ hw; go_simp; try with_reducible rfl
            refine wpE_take (i := 14) (q := 15) (v := ?_) rfl (by kernel_rfl) (by kernel_rfl) (by kernel_rfl) (by kernel_rfl) (by kernel_rfl) (fun _ _ _ h => h) (by kernel_rfl) ?_ ?_
            rotate_left 1
            · intro w hw; obtain ⟨q0, q1, q2⟩ := HC.out _ hw; go_simp; try with_reducible rfl
            refine wpE_take (i := 15) (q := 16) (v := ?_) rfl (by kernel_rfl) (by kernel_rfl) (by kernel_rfl) (by kernel_rfl) (by kernel_rfl) (fun _ _ _ h => h) (by kernel_rfl) ?_ ?_
            rotate_left 1
            · intro w hw; obtain ⟨q0, q1, q2⟩ := HC.out _ hw; go_simp; try with_reducible rfl
            refine wpE_take (i := 16) (q := 17) (v := ?_) rfl (by kernel_rfl) (by kernel_rfl) (by kernel_rfl) (by kernel_rfl) (by kernel_rfl) (fun _ _ _ h => h) (by kernel_rfl) ?_ ?_
            rotate_left 1
            · intro w hw; obtain ⟨q0, q1, q2⟩ := HC.out _ hw; go_simp; try with_reducible rfl
            refine wpE_take (i := 17) (q := 18) (v := ?_) rfl (by kernel_rfl) (by kernel_rfl) (by kernel_rfl) (by kernel_rfl) (by kernel_rfl) (fun _ _ _ h => h) (by kernel_rfl) ?_ ?_
            rotate_left 1
            · intro w hw; obtain ⟨q0, q1, q2⟩ := HC.out _ hw; go_simp; try with_reducible rfl
            refine wpE_one (i := 18) rfl (by kernel_rfl) (HCW.out) (fun K hK => ?_)
            go_simp
            refine Calls.mono HF2.out ?_
            rintro e w7 ⟨rfl, h7⟩
            have H7 := Lib.hid h7
            clear h7 HF2
            go_simp
            refine hK _ _ ?_
            clear hK K
            refine wpE_done (by kernel_rfl) (by kernel_rfl) ?_
            go_wp2
            go_meet
            exact ⟨rfl, H7.out⟩
      case rest =>
        obtain ⟨rfl, hx⟩ := hcut
        have hkn2 : (F2.told d1).getD 0 = kn := by rw [HFS2.out.2.1]; exact HKN.out
        obtain ⟨m2, fb2, tb2, nt2, ov2, av2, pv2, V2, h1', h7⟩ := hx
        have H1' := Lib.hid h1'
        have h8 := h7.drew.of_eq (show _ = pts b3 (.cells #[.int .i64 d1, .int .i64 d2, .int .i64 d3, .int .i64 d4, .string d5] 56) * (pts b (fileO ov2 fb2 av2 tb2 F2 pv2) * (mapE (Value.int .i64) (Value.int .i64) tb2 nt2 F2.told * (roH m2 * (row ov2 V2.length 33 4 (flatO V2) * (mapE (Value.int .i64) DefM.val fb2 F2.nf F2.fonts * (row av2 F2.again.length 56 5 (flatD F2.again) * (pts b4 (.cells #[.int .i64 z1, .int .i64 z2, .int .i64 z3, .int .i64 z4, .string z5] 56) * A))))))) by ac_rfl)
        obtain ⟨w9, hrun, n9, -, h9⟩ := Sat.mapE_upd (mt := 76) (P := Try.prog) keyI Try.underlying76 (h8.of_eq (show _ = mapE (Value.int .i64) (Value.int .i64) tb2 nt2 F2.told * (pts b3 (.cells #[.int .i64 d1, .int .i64 d2, .int .i64 d3, .int .i64 d4, .string d5] 56) * (pts b (fileO ov2 fb2 av2 tb2 F2 pv2) * (roH m2 * (row ov2 V2.length 33 4 (flatO V2) * (mapE (Value.int .i64) DefM.val fb2 F2.nf F2.fonts * (row av2 F2.again.length 56 5 (flatD F2.again) * (pts b4 (.cells #[.int .i64 z1, .int .i64 z2, .int .i64 z3, .int .i64 z4, .string z5] 56) * A))))))) by ac_rfl)) d1 (kn + 1)
        have hkw : IntKind.i64.wrap (kn + 1) = kn + 1 := IntWalk.i64_in _ (by have := HKT.out; omega)
        have HC9 := Lib.hid (h9.of_eq (show _ = pts b3 (.cells #[.int .i64 d1, .int .i64 d2, .int .i64 d3, .int .i64 d4, .string d5] 56) * (pts b (fileO ov2 fb2 av2 tb2 F2 pv2) * (mapE (Value.int .i64) (Value.int .i64) tb2 n9 (mput F2.told d1 (kn + 1)) * (roH m2 * (row ov2 V2.length 33 4 (flatO V2) * (mapE (Value.int .i64) DefM.val fb2 F2.nf F2.fonts * (row av2 F2.again.length 56 5 (flatD F2.again) * (pts b4 (.cells #[.int .i64 z1, .int .i64 z2, .int .i64 z3, .int .i64 z4, .string z5] 56) * A))))))) by ac_rfl))
        clear HC HLD HCW HF2
        obtain ⟨C, hC⟩ : ∃ C : World → Prop, C = fun w' => ∃ X, Sat W (pts b3 (.cells #[.int .i64 d1, .int .i64 d2, .int .i64 d3, .int .i64 d4, .string d5] 56) * (pts b (fileO ov2 fb2 av2 tb2 F2 pv2) * (mapE (Value.int .i64) (Value.int .i64) tb2 nt2 F2.told * X))) w' := ⟨_, rfl⟩
        have HC := Lib.hid (show ∀ w', C w' → w'.cell? ⟨b, 3, none⟩ = some (.map (some tb2)) ∧ w'.cell? ⟨b3, 0, none⟩ = some (.int .i64 d1) ∧ (Instr.lookup 76 (.map (some tb2)) (.int .i64 d1) false).run Try.prog w' = .ok (.int .i64 kn) w' from fun w' h => by
          rw [hC] at h
          obtain ⟨X, h⟩ := h
          exact ⟨h.r.cell rfl, h.cell rfl, by rw [told_look h.r.r d1, hkn2]⟩)
        have hcw2 : C wc.drew := by rw [hC]; exact ⟨_, h8⟩
        have HCW := Lib.hid hcw2
        clear h7 h8 h9 hC hcw2 h1' hkn2
        go_upto_region 5 with fail
        refine wp_region_E C (by kernel_rfl) ?_
        generalize wc.drew = W8 at *
        refine wpE_take (i := 0) (q := 1) (v := ?_) rfl (by kernel_rfl) (by kernel_rfl) (by kernel_rfl) (by kernel_rfl) (by kernel_rfl) (fun _ _ _ h => h) (by kernel_rfl) ?_ ?_
        rotate_left 1
        · intro w hw; obtain ⟨q0, q1, q2⟩ := HC.out _ hw; go_simp; try with_reducible rfl
        refine wpE_take (i := 1) (q := 2) (v := ?_) rfl (by kernel_rfl) (by kernel_rfl) (by kernel_rfl) (by kernel_rfl) (by kernel_rfl) (fun _ _ _ h => h) (by kernel_rfl) ?_ ?_
        rotate_left 1
        · intro w hw; obtain ⟨q0, q1, q2⟩ := HC.out _ hw; go_simp; try with_reducible rfl
        refine wpE_take (i := 2) (q := 3) (v := ?_) rfl (by kernel_rfl) (by kernel_rfl) (by kernel_rfl) (by kernel_rfl) (by kernel_rfl) (fun _ _ _ h => h) (by kernel_rfl) ?_ ?_
        rotate_left 1
        · intro w hw; obtain ⟨q0, q1, q2⟩ := HC.out _ hw; go_simp; try with_reducible rfl
        refine wpE_take (i := 3) (q := 6) (v := ?_) rfl (by kernel_rfl) (by kernel_rfl) (by kernel_rfl) (by kernel_rfl) (by kernel_rfl) (fun _ _ _ h => h) (by kernel_rfl) ?_ ?_
        rotate_left 1
        · intro w hw; obtain ⟨q0, q1, q2⟩ := HC.out _ hw; go_simp; try with_reducible rfl
        refine wpE_take (i := 4) (q := 5) (v := ?_) rfl (by kernel_rfl) (by kernel_rfl) (by kernel_rfl) (by kernel_rfl) (by kernel_rfl) (fun _ _ _ h => h) (by kernel_rfl) ?_ ?_
        rotate_left 1
        · intro w hw; obtain ⟨q0, q1, q2⟩ := HC.out _ hw; go_simp; try with_reducible rfl
        refine wpE_take (i := 5) (q := 6) (v := ?_) rfl (by kernel_rfl) (by kernel_rfl) (by kernel_rfl) (by kernel_rfl) (by kernel_rfl) (fun _ _ _ h => h) (by kernel_rfl) ?_ ?_
        rotate_left 1
        · intro w hw; obtain ⟨q0, q1, q2⟩ := HC.out _ hw; go_simp; try with_reducible rfl
        refine wpE_take (i := 6) (q := 7) (v := ?_) rfl (by kernel_rfl) (by kernel_rfl) (by kernel_rfl) (by kernel_rfl) (by kernel_rfl) (fun _ _ _ h => h) (by kernel_rfl) ?_ ?_
        rotate_left 1
        · intro w hw; obtain ⟨q0, q1, q2⟩ := HC.out _ hw; go_simp; try with_reducible rfl
        refine wpE_take (i := 7) (q := 8) (v := ?_) rfl (by kernel_rfl) (by kernel_rfl) (by kernel_rfl) (by kernel_rfl) (by kernel_rfl) (fun _ _ _ h => h) (by kernel_rfl) ?_ ?_
        rotate_left 1
        · intro w hw; obtain ⟨q0, q1, q2⟩ := HC.out _ hw; go_simp; try with_reducible rfl
        refine wpE_one (i := 8) rfl (by kernel_rfl) (HCW.out) (fun K hK => ?_)
        go_simp
        refine hK _ _ ?_
        clear hK K hrun
        refine wpE_done (by kernel_rfl) (by kernel_rfl) ?_
        clear HC HCW
        obtain ⟨i0, hi, hz0, hz1, hz2⟩ := info_parts3 info_def
        have HI := Lib.hid hi
        have HZ0 := Lib.hid hz0
        have HZ1 := Lib.hid hz1
        have HZ2 := Lib.hid hz2
        obtain ⟨C, hC⟩ : ∃ C : World → Prop, C = fun w' => ∃ X, Sat W (pts b3 (.cells #[.int .i64 d1, .int .i64 d2, .int .i64 d3, .int .i64 d4, .string d5] 56) * (pts b (fileO ov2 fb2 av2 tb2 F2 pv2) * X)) w' := ⟨_, rfl⟩
        have HC := Lib.hid (show ∀ w', C w' → w'.cell? ⟨b, 2, none⟩ = some av2 ∧ w'.cell? ⟨b3, 0, none⟩ = some (.int .i64 d1) ∧ (Instr.loadAt 56 (.pointer (some ⟨b3, 0, none⟩))).run Try.prog w' = .ok (.agg #[.int .i64 d1, .int .i64 d2, .int .i64 d3, .int .i64 d4, .string d5]) w' from fun w' h => by
          rw [hC] at h
          obtain ⟨X, h⟩ := h
          exact ⟨h.r.cell rfl, h.cell rfl, load_def (h.cell rfl) (h.cell rfl) (h.cell rfl) (h.cell rfl) (h.cell rfl)⟩)
        have HC2 := Lib.hid (show ∀ X w', Sat W (pts b3 (.cells #[.int .i64 d1, .int .i64 d2, .int .i64 d3, .int .i64 d4, .string d5] 56) * (pts b (fileO ov2 fb2 av2 tb2 F2 pv2) * X)) w' → C w' from fun X w' h => by rw [hC]; exact ⟨X, h⟩)
        have H10 := Lib.hid HC9.out.drew
        clear hC hi hz0 hz1 hz2 HC9
        go_upto_region 6 with fail
        refine wp_region_E C (by kernel_rfl) ?_
        generalize w9.drew = W10 at *
        refine wpE_take (i := 0) (q := 8) (v := ?_) rfl (by kernel_rfl) (by kernel_rfl) (by kernel_rfl) (by kernel_rfl) (by kernel_rfl) (fun _ _ _ h => h) (by kernel_rfl) ?_ ?_
        rotate_left 1
        · intro w hw; obtain ⟨q0, q1, q2⟩ := HC.out _ hw; go_simp; try with_reducible rfl
        refine wpE_take (i := 1) (q := 2) (v := ?_) rfl (by kernel_rfl) (by kernel_rfl) (by kernel_rfl) (by kernel_rfl) (by kernel_rfl) (fun _ _ _ h => h) (by kernel_rfl) ?_ ?_
        rotate_left 1
        · intro w hw; obtain ⟨q0, q1, q2⟩ := HC.out _ hw; go_simp; try with_reducible rfl
        refine wpE_take (i := 2) (q := 3) (v := ?_) rfl (by kernel_rfl) (by kernel_rfl) (by kernel_rfl) (by kernel_rfl) (by kernel_rfl) (fun _ _ _ h => h) (by kernel_rfl) ?_ ?_
        rotate_left 1
        · intro w hw; obtain ⟨q0, q1, q2⟩ := HC.out _ hw; go_simp; try with_reducible rfl
        refine wpE_take (i := 3) (q := 4) (v := ?_) rfl (by kernel_rfl) (by kernel_rfl) (by kernel_rfl) (by kernel_rfl) (by kernel_rfl) (fun _ _ _ h => h) (by kernel_rfl) ?_ ?_
        rotate_left 1
        · intro w hw; obtain ⟨q0, q1, q2⟩ := HC.out _ hw; go_simp; try with_reducible rfl
        refine wpE_take (i := 4) (q := 7) (v := ?_) rfl (by kernel_rfl) (by kernel_rfl) (by kernel_rfl) (by kernel_rfl) (by kernel_rfl) (fun _ _ _ h => h) (by kernel_rfl) ?_ ?_
        rotate_left 1
        · intro w hw; obtain ⟨q0, q1, q2⟩ := HC.out _ hw; go_simp; try with_reducible rfl
        refine wpE_take (i := 5) (q := 6) (v := .agg #[.int .i64 d1, .int .i64 d2, .int .i64 d3, .int .i64 d4, .string d5]) rfl (by kernel_rfl) (by kernel_rfl) (by kernel_rfl) (by kernel_rfl) (by kernel_rfl) (fun _ _ _ h => h) (by kernel_rfl) (fun w hw => ?_) ?_
        · refine exec_load_m 56 (.tmp 3) rfl b3 0 ?_ _ (HC.out _ hw).2.2
          kernel_rfl
        refine wpE_one (i := 6) rfl (by kernel_rfl) (HC2.out _ _ H10.out) (fun K hK => ?_)
        go_simp
        refine hK _ _ ?_
        clear hK K
        have h11 := H10.out.alloc (.cells #[.int .i64 d1, .int .i64 d2, .int .i64 d3, .int .i64 d4, .string d5] 56)
        have HRD := Lib.hid (show Rd (W10.alloc (.cells #[.int .i64 d1, .int .i64 d2, .int .i64 d3, .int .i64 d4, .string d5] 56)) (.slice (some ⟨W10.heap.size, 0, none⟩) 1 1) 1 5 (DefM.cells ⟨d1, d2, d3, d4, d5⟩) from ⟨rfl, by simp [maxLen], _, _, rfl, fun j u hu => ⟨_, _, rfl, by
          rw [Nat.zero_add]
          exact h11.cell (by simpa [DefM.cells] using hu)⟩⟩)
        have H11 := Lib.hid (h11.of_eq (show _ = row av2 F2.again.length 56 5 (flatD F2.again) * (pts W10.heap.size (.cells #[.int .i64 d1, .int .i64 d2, .int .i64 d3, .int .i64 d4, .string d5] 56) * (pts b3 (.cells #[.int .i64 d1, .int .i64 d2, .int .i64 d3, .int .i64 d4, .string d5] 56) * (pts b (fileO ov2 fb2 av2 tb2 F2 pv2) * (mapE (Value.int .i64) (Value.int .i64) tb2 n9 (mput F2.told d1 (kn + 1)) * (roH m2 * (row ov2 V2.length 33 4 (flatO V2) * (mapE (Value.int .i64) DefM.val fb2 F2.nf F2.fonts * (pts b4 (.cells #[.int .i64 z1, .int .i64 z2, .int .i64 z3, .int .i64 z4, .string z5] 56) * A)))))))) by ac_rfl))
        clear h11 H10
        generalize hW11 : W10.alloc (.cells #[.int .i64 d1, .int .i64 d2, .int .i64 d3, .int .i64 d4, .string d5] 56) = W11 at *
        generalize W10.heap.size = b74 at *
        have hcw3 := HC2.out _ _ (H11.out.of_eq (show _ = pts b3 (.cells #[.int .i64 d1, .int .i64 d2, .int .i64 d3, .int .i64 d4, .string d5] 56) * (pts b (fileO ov2 fb2 av2 tb2 F2 pv2) * (row av2 F2.again.length 56 5 (flatD F2.again) * (pts b74 (.cells #[.int .i64 d1, .int .i64 d2, .int .i64 d3, .int .i64 d4, .string d5] 56) * (mapE (Value.int .i64) (Value.int .i64) tb2 n9 (mput F2.told d1 (kn + 1)) * (roH m2 * (row ov2 V2.length 33 4 (flatO V2) * (mapE (Value.int .i64) DefM.val fb2 F2.nf F2.fonts * (pts b4 (.cells #[.int .i64 z1, .int .i64 z2, .int .i64 z3, .int .i64 z4, .string z5] 56) * A)))))))) by ac_rfl))
        have hag2 : F2.again.length ≤ 1048576 := by rw [HFS2.out.2.2.1]; exact HAG.out
        refine wpE_one (i := 7) rfl (by kernel_rfl) (hcw3) (fun K hK => ?_)
        refine step_append_rd rfl _ _ 45 rfl i0 _ 48 Try.underlying45 HI.out HZ0.out HZ1.out HZ2.out rfl (by omega) rfl H11.out (.slice (some ⟨b74, 0, none⟩) 1 1) 1 (DefM.cells ⟨d1, d2, d3, d4, d5⟩) rfl HRD.out (by simp [DefM.cells, Value.oneCell']) (by simp [maxLen]; omega) (by omega) ?_
        intro v1 w12 h12 _
        obtain ⟨a1, c1, hv1, -⟩ := h12.row_val
        subst hv1
        have h13 := h12.of_eq (show _ = pts b3 (.cells #[.int .i64 d1, .int .i64 d2, .int .i64 d3, .int .i64 d4, .string d5] 56) * (pts b (fileO ov2 fb2 av2 tb2 F2 pv2) * (row (.slice a1 (F2.again.length + 1) c1) (F2.again.length + 1) 56 5 (flatD F2.again ++ DefM.cells ⟨d1, d2, d3, d4, d5⟩) * (pts b74 (.cells #[.int .i64 d1, .int .i64 d2, .int .i64 d3, .int .i64 d4, .string d5] 56) * (mapE (Value.int .i64) (Value.int .i64) tb2 n9 (mput F2.told d1 (kn + 1)) * (roH m2 * (row ov2 V2.length 33 4 (flatO V2) * (mapE (Value.int .i64) DefM.val fb2 F2.nf F2.fonts * (pts b4 (.cells #[.int .i64 z1, .int .i64 z2, .int .i64 z3, .int .i64 z4, .string z5] 56) * A)))))))) by ac_rfl)
        have HCW := Lib.hid (HC2.out _ _ h13)
        have ob := h13.r.lt
        have of := h13.r.free (i := 2)
        have oc := h13.r.cell (i := 2) rfl
        have h14 := (h13.of_eq (show _ = pts b (fileO ov2 fb2 av2 tb2 F2 pv2) * (pts b3 (.cells #[.int .i64 d1, .int .i64 d2, .int .i64 d3, .int .i64 d4, .string d5] 56) * (row (.slice a1 (F2.again.length + 1) c1) (F2.again.length + 1) 56 5 (flatD F2.again ++ DefM.cells ⟨d1, d2, d3, d4, d5⟩) * (pts b74 (.cells #[.int .i64 d1, .int .i64 d2, .int .i64 d3, .int .i64 d4, .string d5] 56) * (mapE (Value.int .i64) (Value.int .i64) tb2 n9 (mput F2.told d1 (kn + 1)) * (roH m2 * (row ov2 V2.length 33 4 (flatO V2) * (mapE (Value.int .i64) DefM.val fb2 F2.nf F2.fonts * (pts b4 (.cells #[.int .i64 z1, .int .i64 z2, .int .i64 z3, .int .i64 z4, .string z5] 56) * A)))))))) by ac_rfl)).set (i := 2) (v := .slice a1 (F2.again.length + 1) c1)
        have H14 := Lib.hid h14
        clear h12 h13 h14 hcw3 H11 HRD hW11
        go_simp
        refine hK _ _ ?_
        clear hK K
        refine wpE_take (i := 8) (q := 9) (v := ?_) rfl (by kernel_rfl) (by kernel_rfl) (by kernel_rfl) (by kernel_rfl) (by kernel_rfl) (fun _ _ _ h => h) (by kernel_rfl) ?_ ?_
        rotate_left 1
        · intro w hw; obtain ⟨q0, q1, q2⟩ := HC.out _ hw; go_simp; try with_reducible rfl
        refine wpE_take (i := 9) (q := 10) (v := ?_) rfl (by kernel_rfl) (by kernel_rfl) (by kernel_rfl) (by kernel_rfl) (by kernel_rfl) (fun _ _ _ h => h) (by kernel_rfl) ?_ ?_
        rotate_left 1
        · intro w hw; obtain ⟨q0, q1, q2⟩ := HC.out _ hw; go_simp; try with_reducible rfl
        refine wpE_one (i := 10) rfl (by kernel_rfl) (HCW.out) (fun K hK => ?_)
        go_simp
        refine hK _ _ ?_
        clear hK K ob of oc
        refine wpE_done (by kernel_rfl) (by kernel_rfl) ?_
        have H15 := Lib.hid (show Sat W (pts b (fileO ov2 fb2 (.slice a1 (F2.again.length + 1) c1) tb2 F2 pv2) * (roH m2 * (row ov2 V2.length 33 4 (flatO V2) * (mapE (Value.int .i64) DefM.val fb2 F2.nf F2.fonts * (row (.slice a1 (F2.again.length + 1) c1) (F2.again ++ [(⟨d1, d2, d3, d4, d5⟩ : DefM)]).length 56 5 (flatD (F2.again ++ [(⟨d1, d2, d3, d4, d5⟩ : DefM)])) * (mapE (Value.int .i64) (Value.int .i64) tb2 n9 (mput F2.told d1 (kn + 1)) * (pts b74 (.cells #[.int .i64 d1, .int .i64 d2, .int .i64 d3, .int .i64 d4, .string d5] 56) * (pts b3 (.cells #[.int .i64 d1, .int .i64 d2, .int .i64 d3, .int .i64 d4, .string d5] 56) * (pts b4 (.cells #[.int .i64 z1, .int .i64 z2, .int .i64 z3, .int .i64 z4, .string z5] 56) * A))))))))) _ from by
          have h := H14.out
          have e1 : flatD (F2.again ++ [(⟨d1, d2, d3, d4, d5⟩ : DefM)]) = flatD F2.again ++ DefM.cells ⟨d1, d2, d3, d4, d5⟩ := by simp [flatD]
          rw [e1, List.length_append, List.length_singleton]
          exact (show Sat W (pts b (fileO ov2 fb2 (.slice a1 (F2.again.length + 1) c1) tb2 F2 pv2) * _) _ from h).of_eq (by ac_rfl))
        clear H14 HC HC2 HCW
        go_wp2
        have hfs := HFS2.out
        exact ⟨rfl, .tuple #[], by unfold results; go_simp, rfl, by
          rw [← HFIN.out, ← hfs.2.1, ← hfs.2.2.1]
          exact (show FileAt W (pts b74 (.cells #[.int .i64 d1, .int .i64 d2, .int .i64 d3, .int .i64 d4, .string d5] 56) * (pts b3 (.cells #[.int .i64 d1, .int .i64 d2, .int .i64 d3, .int .i64 d4, .string d5] 56) * (pts b4 (.cells #[.int .i64 z1, .int .i64 z2, .int .i64 z3, .int .i64 z4, .string z5] 56) * A))) b { F2 with told := mput F2.told d1 (kn + 1), again := F2.again ++ [⟨d1, d2, d3, d4, d5⟩] } _ from ⟨m2, fb2, tb2, n9, ov2, _, pv2, V2, H1'.out, H15.out⟩).less.less.less⟩
    · have hp2 : (F1.part == 2) = false := by rw [beq_eq_false_iff_ne]; exact hp
      have HF2 := Lib.hid (fail_any x H6.out)
      obtain ⟨F2, hF2⟩ : ∃ F2, F1.fail x = F2 := ⟨_, rfl⟩
      obtain ⟨s1, s2, s3, s4, s5⟩ := fail_fonts F1 x
      rw [hF2] at s1 s2 s3 s4 s5 HF2
      have hfin := HFR.out
      rw [if_neg hp, show F1.there ⟨d1, d2, d3, d4, d5⟩ = x from HXX.out, hF2, ← s1, ← s5] at hfin
      have HFIN := Lib.hid hfin
      clear hF2 H6 hp hfin s1 s2 s3 s4 s5
      go_wp2_with fail
      refine Calls.mono HF2.out ?_
      rintro e w7 ⟨rfl, m', fb', tb', nt', ov', av', pv', V', h1', h7⟩
      have H1' := Lib.hid h1'
      obtain ⟨w9, hrun, h9⟩ := Sat.mapE_put (mt := 75) (P := Try.prog) keyI Try.underlying75 (h7.drew.of_eq (show _ = mapE (Value.int .i64) DefM.val fb' F2.nf F2.fonts * (pts b3 (.cells #[.int .i64 d1, .int .i64 d2, .int .i64 d3, .int .i64 d4, .string d5] 56) * (pts b (fileO ov' fb' av' tb' F2 pv') * (roH m' * (row ov' V'.length 33 4 (flatO V') * (row av' F2.again.length 56 5 (flatD F2.again) * (mapE (Value.int .i64) (Value.int .i64) tb' nt' F2.told * (pts b4 (.cells #[.int .i64 z1, .int .i64 z2, .int .i64 z3, .int .i64 z4, .string z5] 56) * A))))))) by ac_rfl)) d1 ⟨d1, d2, d3, d4, d5⟩
      obtain ⟨C, hC⟩ : ∃ C : World → Prop, C = fun w' => ∃ X, Sat W (pts b3 (.cells #[.int .i64 d1, .int .i64 d2, .int .i64 d3, .int .i64 d4, .string d5] 56) * (pts b (fileO ov' fb' av' tb' F2 pv') * X)) w' := ⟨_, rfl⟩
      have HC := Lib.hid (show ∀ w', C w' → w'.cell? ⟨b, 1, none⟩ = some (.map (some fb')) ∧ w'.cell? ⟨b3, 0, none⟩ = some (.int .i64 d1) ∧ (Instr.loadAt 56 (.pointer (some ⟨b3, 0, none⟩))).run Try.prog w' = .ok (.agg #[.int .i64 d1, .int .i64 d2, .int .i64 d3, .int .i64 d4, .string d5]) w' from fun w' h => by
        rw [hC] at h
        obtain ⟨X, h⟩ := h
        exact ⟨h.r.cell rfl, h.cell rfl, load_def (h.cell rfl) (h.cell rfl) (h.cell rfl) (h.cell rfl) (h.cell rfl)⟩)
      have hcw2 : C w7.drew := by
        rw [hC]
        exact ⟨_, h7.drew.of_eq (show _ = pts b3 (.cells #[.int .i64 d1, .int .i64 d2, .int .i64 d3, .int .i64 d4, .string d5] 56) * (pts b (fileO ov' fb' av' tb' F2 pv') * (mapE (Value.int .i64) DefM.val fb' F2.nf F2.fonts * (roH m' * (row ov' V'.length 33 4 (flatO V') * (row av' F2.again.length 56 5 (flatD F2.again) * (mapE (Value.int .i64) (Value.int .i64) tb' nt' F2.told * (pts b4 (.cells #[.int .i64 z1, .int .i64 z2, .int .i64 z3, .int .i64 z4, .string z5] 56) * A))))))) by ac_rfl)⟩
      have HCW := Lib.hid hcw2
      have H10 := Lib.hid (show Sat W (pts b (fileO ov' fb' av' tb' F2 pv') * (roH m' * (row ov' V'.length 33 4 (flatO V') * (mapE (Value.int .i64) DefM.val fb' (if (F2.fonts d1).isSome then F2.nf else F2.nf + 1) (mput F2.fonts d1 ⟨d1, d2, d3, d4, d5⟩) * (row av' F2.again.length 56 5 (flatD F2.again) * (mapE (Value.int .i64) (Value.int .i64) tb' nt' F2.told * (pts b3 (.cells #[.int .i64 d1, .int .i64 d2, .int .i64 d3, .int .i64 d4, .string d5] 56) * (pts b4 (.cells #[.int .i64 z1, .int .i64 z2, .int .i64 z3, .int .i64 z4, .string z5] 56) * A)))))))) w9 from h9.of_eq (by ac_rfl))
      unfold DefM.val at hrun
      simp only at hrun
      clear h7 hC hcw2 h9 hp4 hbl h1'
      go_upto_region 8 with fail
      refine wp_region_E C (by kernel_rfl) ?_
      generalize w7.drew = W8 at *
      refine wpE_take (i := 0) (q := 1) (v := ?_) rfl (by kernel_rfl) (by kernel_rfl) (by kernel_rfl) (by kernel_rfl) (by kernel_rfl) (fun _ _ _ h => h) (by kernel_rfl) ?_ ?_
      rotate_left 1
      · intro w hw; obtain ⟨q0, q1, q2⟩ := HC.out _ hw; go_simp; try with_reducible rfl
      refine wpE_take (i := 1) (q := 2) (v := ?_) rfl (by kernel_rfl) (by kernel_rfl) (by kernel_rfl) (by kernel_rfl) (by kernel_rfl) (fun _ _ _ h => h) (by kernel_rfl) ?_ ?_
      rotate_left 1
      · intro w hw; obtain ⟨q0, q1, q2⟩ := HC.out _ hw; go_simp; try with_reducible rfl
      refine wpE_take (i := 2) (q := 3) (v := ?_) rfl (by kernel_rfl) (by kernel_rfl) (by kernel_rfl) (by kernel_rfl) (by kernel_rfl) (fun _ _ _ h => h) (by kernel_rfl) ?_ ?_
      rotate_left 1
      · intro w hw; obtain ⟨q0, q1, q2⟩ := HC.out _ hw; go_simp; try with_reducible rfl
      refine wpE_take (i := 3) (q := 7) (v := ?_) rfl (by kernel_rfl) (by kernel_rfl) (by kernel_rfl) (by kernel_rfl) (by kernel_rfl) (fun _ _ _ h => h) (by kernel_rfl) ?_ ?_
      rotate_left 1
      · intro w hw; obtain ⟨q0, q1, q2⟩ := HC.out _ hw; go_simp; try with_reducible rfl
      refine wpE_take (i := 4) (q := 5) (v := ?_) rfl (by kernel_rfl) (by kernel_rfl) (by kernel_rfl) (by kernel_rfl) (by kernel_rfl) (fun _ _ _ h => h) (by kernel_rfl) ?_ ?_
      rotate_left 1
      · intro w hw; obtain ⟨q0, q1, q2⟩ := HC.out _ hw; go_simp; try with_reducible rfl
      refine wpE_take (i := 5) (q := 7) (v := ?_) rfl (by kernel_rfl) (by kernel_rfl) (by kernel_rfl) (by kernel_rfl) (by kernel_rfl) (fun _ _ _ h => h) (by kernel_rfl) ?_ ?_
      rotate_left 1
      · intro w hw; obtain ⟨q0, q1, q2⟩ := HC.out _ hw; go_simp; try with_reducible rfl
      refine wpE_take (i := 6) (q := 7) (v := .agg #[.int .i64 d1, .int .i64 d2, .int .i64 d3, .int .i64 d4, .string d5]) rfl (by kernel_rfl) (by kernel_rfl) (by kernel_rfl) (by kernel_rfl) (by kernel_rfl) (fun _ _ _ h => h) (by kernel_rfl) (fun w hw => ?_) ?_
      · refine exec_load_m 56 (.tmp 3) rfl b3 0 ?_ _ (HC.out _ hw).2.2
        kernel_rfl
      refine wpE_one (i := 7) rfl (by kernel_rfl) (HCW.out) (fun K hK => ?_)
      go_simp
      refine hK _ _ ?_
      clear hK K hrun
      refine wpE_done (by kernel_rfl) (by kernel_rfl) ?_
      (try go_wp2)
      exact ⟨rfl, .tuple #[], by unfold results; go_simp, rfl, by
        rw [← HFIN.out]
        exact (show FileAt W (pts b3 (.cells #[.int .i64 d1, .int .i64 d2, .int .i64 d3, .int .i64 d4, .string d5] 56) * (pts b4 (.cells #[.int .i64 z1, .int .i64 z2, .int .i64 z3, .int .i64 z4, .string z5] 56) * A)) b { F2 with fonts := mput F2.fonts d1 ⟨d1, d2, d3, d4, d5⟩, nf := if (F2.fonts d1).isSome then F2.nf else F2.nf + 1 } w9 from ⟨m', fb', tb', nt', ov', av', pv', V', H1'.out, H10.out⟩).less.less⟩

end Go.Proofs.Ytjeinldhbajknaa
