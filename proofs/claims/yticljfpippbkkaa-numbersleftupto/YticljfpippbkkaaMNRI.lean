import Derived.Test.YticljfpippbkkaaMNRF
import Derived.Test.YticljfpippbkkaaMTE
import Derived.Test.YticljfpippbkkaaMTS
import Derived.Test.YticljfpippbkkaaMTM
import Derived.Deep.LoopGhost
/-
  A table of the program's and the document's, both in memory. Conditions: those that each theorem names.
-/
namespace Go.Proofs.Yticljfpippbkkaa
open Go.RowKit Go.Sp
variable {W w w' : World} {F A : HProp}

def stopK : ByteArray := ⟨#[110, 111, 32, 115, 117, 99, 104]⟩
/-- both tables; 'no such' is no name of the program's -/
def PairAt (W : World) (F : HProp) (t d n : Nat) (w : World) : Prop :=
  ∃ (N : Nat) (S : TabS) (R : RfS) (Y : HProp), S.names stopK = none ∧ R.names.length ≤ n ∧ RfAt W (F * Y) d R w ∧ ∀ F' w', Sat W (F' * Y) w' → TabAt W F' t N S w'
theorem PairAt.sat {t d n : Nat} (h : PairAt W F t d n w) : Sat W F w := by
  obtain ⟨N, S, R, Y, -, -, h1, -⟩ := h
  exact h1.sat.l
theorem PairAt.drew {t d n : Nat} (h : PairAt W F t d n w) : PairAt W F t d n w.drew := by
  obtain ⟨N, S, R, Y, h1, h2, ⟨m, bs, nv, RR, h3, h4⟩, h5⟩ := h
  exact ⟨N, S, R, Y, h1, h2, ⟨m, bs, nv, RR, h3, h4.drew⟩, h5⟩
theorem PairAt.mk {t d n N : Nat} {S : TabS} {R : RfS} (hS : S.names stopK = none) (hR : R.names.length ≤ n) {Z : HProp} (h : TabAt W (F * Z) t N S w) (back : ∀ F' w', Sat W (F' * Z) w' → RfAt W F' d R w') : PairAt W F t d n w := by
  obtain ⟨Y, h1, b1⟩ := h.focus
  exact ⟨N, S, R, Y, hS, hR, back _ _ (h1.of_eq (by ac_rfl)), b1⟩
theorem PairAt.tab {t d n : Nat} (h : PairAt W F t d n w) : ∃ (N : Nat) (S : TabS) (Z : HProp), S.names stopK = none ∧ TabAt W (F * Z) t N S w ∧ ∀ N' S' w', S'.names stopK = none → TabAt W (F * Z) t N' S' w' → PairAt W F t d n w' := by
  obtain ⟨N, S, R, Y, hS, hR, h1, h2⟩ := h
  obtain ⟨Z, h3, back⟩ := h1.focus
  exact ⟨N, S, Z, hS, h2 _ _ (h3.of_eq (by ac_rfl)), fun N' S' w' hS' h => .mk hS' hR h back⟩
theorem PairAt.doc {t d n : Nat} (h : PairAt W F t d n w) : ∃ (R : RfS) (Z : HProp), R.names.length ≤ n ∧ RfAt W (F * Z) d R w ∧ ∀ n' R' w', R'.names.length ≤ n' → RfAt W (F * Z) d R' w' → PairAt W F t d n' w' := by
  obtain ⟨N, S, R, Y, hS, hR, h1, h2⟩ := h
  exact ⟨R, Y, hR, h1, fun n' R' w' hR' h => ⟨N, S, R', Y, hS, hR', h, h2⟩⟩
theorem setT_stop (S : TabS) (c i : Int) (v : RegS) (h : S.names stopK = none) : (setT S c i v false).names stopK = none := by
  unfold setT
  split
  · exact h
  · exact h
theorem defS_stop (S : TabS) (k : ByteArray) (m : Mean) (hk : k ≠ stopK) (h : S.names stopK = none) : (defS S k m false).names stopK = none := by
  show nameM S.names k m stopK = none
  unfold nameM
  split
  · simp [mdel, h]
  · rw [mput_other _ _ (Ne.symm hk)]; exact h
theorem pair_set {t d n : Nat} (c i : Int) (x : Int) (g : Gl) (h : PairAt W F t d n w) :
    Calls Try.prog 41 #[.pointer (some ⟨t, 0, none⟩), .int .i64 c, .int .i64 i, .agg #[.int .i64 x, .int .i64 g.nat, .int .i64 g.stretch, .int .i64 g.shrink, .int .i64 g.so, .int .i64 g.ko, .slice none 0 0], .bool false] w fun e w' => ∃ E, e = .returned (.int .i64 E) ∧ PairAt W F t d n w' := by
  obtain ⟨N, S, Z, hS, h1, back⟩ := h.tab
  refine Calls.mono (set_any c i (v := ⟨x, g, []⟩) (s := .slice none 0 0) false (fun w' _ => RdT.empty w' none 0) h1) ?_
  rintro e w' ⟨rfl, h2⟩
  exact ⟨_, rfl, back _ _ _ (setT_stop _ _ _ _ hS) h2⟩
theorem pair_def {t d n : Nat} (k : ByteArray) (m : Mean) (hk : k ≠ stopK) (h : PairAt W F t d n w) :
    Calls Try.prog 43 #[.pointer (some ⟨t, 0, none⟩), .string k, m.val, .bool false] w fun e w' => ∃ E, e = .returned (.int .i64 E) ∧ PairAt W F t d n w' := by
  obtain ⟨N, S, Z, hS, h1, back⟩ := h.tab
  refine Calls.mono (define_any k m false h1) ?_
  rintro e w' ⟨E, S', N', rfl, hd, h2⟩
  refine ⟨_, rfl, back _ _ _ ?_ h2⟩
  rcases hd with ⟨-, rfl⟩ | ⟨-, rfl⟩
  · exact hS
  · exact defS_stop _ _ _ hk hS
theorem pair_defR {t d n : Nat} (k : ByteArray) (m : Mean) (hm : MeanOk m) (hn : n < 2000) (h : PairAt W F t d n w) :
    Calls Try.prog 44 #[.pointer (some ⟨d, 0, none⟩), .string k, m.val, .bool false] w fun e w' => e = .returned (.int .i64 0) ∧ PairAt W F t d (n + 1) w' := by
  obtain ⟨R, Z, hR, h1, back⟩ := h.doc
  refine Calls.mono (defineR_any k m hm (by omega) h1) ?_
  rintro e w' ⟨rfl, h2⟩
  refine ⟨rfl, back _ _ _ ?_ h2⟩
  have := cutN_len R.names k
  simp only [giveN, List.length_append, List.length_singleton]
  omega
theorem pair_setR1 {t d n : Nat} {i : Nat} (x : Int) (g : Gl) (hi : i < 256) (h : PairAt W F t d n w) :
    Calls Try.prog 42 #[.pointer (some ⟨d, 0, none⟩), .int .i64 1, .int .i64 i, valV x g (.slice none 0 0), .bool false] w fun e w' => ∃ E, e = .returned (.int .i64 E) ∧ PairAt W F t d n w' := by
  obtain ⟨R, Z, hR, h1, back⟩ := h.doc
  refine Calls.mono (setR1_any x g hi h1) ?_
  rintro e w' ⟨rfl, h2⟩
  refine ⟨_, rfl, back _ _ _ ?_ h2⟩
  split <;> exact hR
theorem pair_setR2 {t d n : Nat} {i : Nat} (x : Int) (g : Gl) (hi : i < 256) (h : PairAt W F t d n w) :
    Calls Try.prog 42 #[.pointer (some ⟨d, 0, none⟩), .int .i64 2, .int .i64 i, valV x g (.slice none 0 0), .bool false] w fun e w' => ∃ E, e = .returned (.int .i64 E) ∧ PairAt W F t d n w' := by
  obtain ⟨R, Z, hR, h1, back⟩ := h.doc
  refine Calls.mono (setR2_any x g hi h1) ?_
  rintro e w' ⟨rfl, h2⟩
  refine ⟨_, rfl, back _ _ _ ?_ h2⟩
  split <;> exact hR
theorem pair_setR3 {t d n : Nat} {i : Nat} (x : Int) (g : Gl) (hi : i < 256) (h : PairAt W F t d n w) :
    Calls Try.prog 42 #[.pointer (some ⟨d, 0, none⟩), .int .i64 3, .int .i64 i, valV x g (.slice none 0 0), .bool false] w fun e w' => ∃ E, e = .returned (.int .i64 E) ∧ PairAt W F t d n w' := by
  obtain ⟨R, Z, hR, h1, back⟩ := h.doc
  refine Calls.mono (setR3_any x g hi h1) ?_
  rintro e w' ⟨rfl, h2⟩
  refine ⟨_, rfl, back _ _ _ ?_ h2⟩
  split <;> exact hR
end Go.Proofs.Yticljfpippbkkaa

/-
  The two tables of the numbers' law. Conditions: those that each theorem names.
-/
namespace Go.Proofs.Yticljfpippbkkaa
open Go.RowKit Go.Sp
variable {W w w' : World} {F A : HProp}

def madeA (N D : Nat → Int) (G : Nat → Gl) : Array Value := #[.int .i64 (N 0), .int .i64 (N 1), .int .i64 (N 2), .int .i64 (D 0), .int .i64 (D 1), .int .i64 (D 2),
  .int .i64 (G 0).nat, .int .i64 (G 0).stretch, .int .i64 (G 0).shrink, .int .i64 (G 0).so, .int .i64 (G 0).ko,
  .int .i64 (G 1).nat, .int .i64 (G 1).stretch, .int .i64 (G 1).shrink, .int .i64 (G 1).so, .int .i64 (G 1).ko,
  .int .i64 (G 2).nat, .int .i64 (G 2).stretch, .int .i64 (G 2).shrink, .int .i64 (G 2).so, .int .i64 (G 2).ko]
abbrev madeO (N D : Nat → Int) (G : Nat → Gl) : Obj := .cells (madeA N D G) 73
theorem made_n (N D : Nat → Int) (G : Nat → Gl) {i : Nat} (hi : i < 3) : (madeA N D G)[i]? = some (.int .i64 (N i)) := by
  match i, hi with
  | 0, _ => rfl
  | 1, _ => rfl
  | 2, _ => rfl
theorem made_d (N D : Nat → Int) (G : Nat → Gl) {i : Nat} (hi : i < 3) : (madeA N D G)[3 + i]? = some (.int .i64 (D i)) := by
  match i, hi with
  | 0, _ => rfl
  | 1, _ => rfl
  | 2, _ => rfl
theorem made_g (N D : Nat → Int) (G : Nat → Gl) {i : Nat} (hi : i < 3) : (madeA N D G)[6 + i * 5]? = some (.int .i64 (G i).nat) ∧ (madeA N D G)[6 + i * 5 + 1]? = some (.int .i64 (G i).stretch) ∧ (madeA N D G)[6 + i * 5 + 2]? = some (.int .i64 (G i).shrink) ∧ (madeA N D G)[6 + i * 5 + 3]? = some (.int .i64 (G i).so) ∧ (madeA N D G)[6 + i * 5 + 4]? = some (.int .i64 (G i).ko) := by
  match i, hi with
  | 0, _ => exact ⟨rfl, rfl, rfl, rfl, rfl⟩
  | 1, _ => exact ⟨rfl, rfl, rfl, rfl, rfl⟩
  | 2, _ => exact ⟨rfl, rfl, rfl, rfl, rfl⟩
theorem pair_l1 {t d n : Nat} {i : Nat} (x : Int) (hi : i < 3) (h : PairAt W F t d n w) :
    Calls Try.prog 42 #[.pointer (some ⟨d, 0, none⟩), .int .i64 1, .int .i64 ((i : Int) + 1), .agg #[.int .i64 x, .int .i64 0, .int .i64 0, .int .i64 0, .int .i64 0, .int .i64 0, .slice none 0 0], .bool false] w fun e w' => ∃ E, e = .returned (.int .i64 E) ∧ PairAt W F t d n w' :=
  pair_setR1 (i := i + 1) x ⟨0, 0, 0, 0, 0⟩ (by omega) h
theorem pair_l2 {t d n : Nat} {i : Nat} (x : Int) (hi : i < 3) (h : PairAt W F t d n w) :
    Calls Try.prog 42 #[.pointer (some ⟨d, 0, none⟩), .int .i64 2, .int .i64 ((i : Int) + 1), .agg #[.int .i64 x, .int .i64 0, .int .i64 0, .int .i64 0, .int .i64 0, .int .i64 0, .slice none 0 0], .bool false] w fun e w' => ∃ E, e = .returned (.int .i64 E) ∧ PairAt W F t d n w' :=
  pair_setR2 (i := i + 1) x ⟨0, 0, 0, 0, 0⟩ (by omega) h
theorem pair_l3 {t d n : Nat} {i : Nat} (a b c e f : Int) (hi : i < 3) (h : PairAt W F t d n w) :
    Calls Try.prog 42 #[.pointer (some ⟨d, 0, none⟩), .int .i64 3, .int .i64 ((i : Int) + 1), .agg #[.int .i64 0, .int .i64 a, .int .i64 b, .int .i64 c, .int .i64 e, .int .i64 f, .slice none 0 0], .bool false] w fun e w' => ∃ E, e = .returned (.int .i64 E) ∧ PairAt W F t d n w' :=
  pair_setR3 (i := i + 1) 0 ⟨a, b, c, e, f⟩ (by omega) h
theorem pair_t {t d n : Nat} (k i : Int) (x a b c e f : Int) (h : PairAt W F t d n w) :
    Calls Try.prog 41 #[.pointer (some ⟨t, 0, none⟩), .int .i64 k, .int .i64 i, .agg #[.int .i64 x, .int .i64 a, .int .i64 b, .int .i64 c, .int .i64 e, .int .i64 f, .slice none 0 0], .bool false] w fun e w' => ∃ E, e = .returned (.int .i64 E) ∧ PairAt W F t d n w' :=
  pair_set k i x ⟨a, b, c, e, f⟩ h
theorem PairAt.alloc {t d n : Nat} (h : PairAt W F t d n w) (o : Obj) : PairAt W (pts w.heap.size o * F) t d n (w.alloc o) := by
  obtain ⟨N, S, R, Y, h1, h2, h3, h4⟩ := h
  exact ⟨N, S, R, Y, h1, h2, (h3.alloc o).of_eq (by ac_rfl), h4⟩
theorem PairAt.less {t d n : Nat} (h : PairAt W (A * F) t d n w) : PairAt W F t d n w := by
  obtain ⟨N, S, R, Y, h1, h2, h3, h4⟩ := h
  exact ⟨N, S, R, Y, h1, h2, (h3.of_eq (show _ = A * (F * Y) by ac_rfl)).less, h4⟩
theorem pair_dt {t d n : Nat} (k : ByteArray) (a b c e : Int) (x : ByteArray) (hk : k ≠ stopK) (h : PairAt W F t d n w) :
    Calls Try.prog 43 #[.pointer (some ⟨t, 0, none⟩), .string k, .agg #[.int .i64 a, .int .i64 b, .int .i64 c, .int .i64 e, .string x], .bool false] w fun e w' => ∃ E, e = .returned (.int .i64 E) ∧ PairAt W F t d n w' :=
  pair_def k ⟨a, b, c, e, x⟩ hk h
theorem pair_dr {t d n : Nat} (k : ByteArray) (a b c e : Int) (x : ByteArray) (hm : MeanOk ⟨a, b, c, e, x⟩) (hn : n < 2000) (h : PairAt W F t d n w) :
    Calls Try.prog 44 #[.pointer (some ⟨d, 0, none⟩), .string k, .agg #[.int .i64 a, .int .i64 b, .int .i64 c, .int .i64 e, .string x], .bool false] w fun e w' => e = .returned (.int .i64 0) ∧ PairAt W F t d (n + 1) w' :=
  pair_defR k ⟨a, b, c, e, x⟩ hm hn h
theorem mean_ch : MeanOk ⟨3, 0, 65, 11, ⟨#[]⟩⟩ := Or.inr (Or.inl ⟨rfl, rfl, by decide, by decide, by decide, by decide, rfl⟩)
theorem mean_tie : MeanOk ⟨4, 2, 2, 0, ⟨#[]⟩⟩ := Or.inr (Or.inr ⟨rfl, by decide, by decide, by decide, by decide, rfl, rfl⟩)
def nm4 : Nat → ByteArray
  | 0 => ⟨#[99, 111, 117, 110, 116]⟩
  | 1 => ⟨#[100, 105, 109, 101, 110]⟩
  | 2 => ⟨#[115, 107, 105, 112]⟩
  | _ => ⟨#[114, 101, 108, 97, 120]⟩
def sh4 : Nat → ByteArray
  | 0 => ⟨#[99]⟩
  | 1 => ⟨#[100]⟩
  | 2 => ⟨#[115]⟩
  | _ => ⟨#[116]⟩
abbrev nm4A : Array Value := #[.string ⟨#[99, 111, 117, 110, 116]⟩, .string ⟨#[100, 105, 109, 101, 110]⟩, .string ⟨#[115, 107, 105, 112]⟩, .string ⟨#[114, 101, 108, 97, 120]⟩]
abbrev sh4A : Array Value := #[.string ⟨#[99]⟩, .string ⟨#[100]⟩, .string ⟨#[115]⟩, .string ⟨#[116]⟩]
theorem nm4_at {i : Nat} (hi : i < 4) : nm4A[i]? = some (.string (nm4 i)) ∧ nm4 i ≠ stopK ∧ nm4 i ≠ ⟨#[]⟩ := by
  match i, hi with
  | 0, _ => exact ⟨rfl, by decide, by decide⟩
  | 1, _ => exact ⟨rfl, by decide, by decide⟩
  | 2, _ => exact ⟨rfl, by decide, by decide⟩
  | 3, _ => exact ⟨rfl, by decide, by decide⟩
theorem sh4_at {i : Nat} (hi : i < 4) : sh4A[i]? = some (.string (sh4 i)) ∧ sh4 i ≠ stopK := by
  match i, hi with
  | 0, _ => exact ⟨rfl, by decide⟩
  | 1, _ => exact ⟨rfl, by decide⟩
  | 2, _ => exact ⟨rfl, by decide⟩
  | 3, _ => exact ⟨rfl, by decide⟩
set_option maxRecDepth 100000 in
set_option maxHeartbeats 16000000 in
theorem pair_any (N D : Nat → Int) (G : Nat → Gl) (h : Sat W F w) :
    Calls Try.prog 25 #[.agg (madeA N D G)] w fun e w' => ∃ t d, e = .returned (.tuple #[.pointer (some ⟨t, 0, none⟩), .pointer (some ⟨d, 0, none⟩)]) ∧ PairAt W F t d 10 w' := by
  obtain ⟨MA, hMA⟩ : ∃ MA, madeA N D G = MA := ⟨_, rfl⟩
  have HMN := Lib.hid (fun (i : Nat) (hi : i < 3) => made_n N D G hi)
  have HMD := Lib.hid (fun (i : Nat) (hi : i < 3) => made_d N D G hi)
  have HMG := Lib.hid (fun (i : Nat) (hi : i < 3) => made_g N D G hi)
  rw [hMA] at HMN HMD HMG
  rw [hMA]
  clear hMA
  have h1 := h.alloc (.cells MA 73)
  obtain ⟨b1, hb1⟩ : ∃ b1, w.heap.size = b1 := ⟨_, rfl⟩
  obtain ⟨w1, hw1⟩ : ∃ w1, w.alloc (.cells MA 73) = w1 := ⟨_, rfl⟩
  rw [hb1, hw1] at h1
  have H1 := Lib.hid h1
  clear h h1
  go_enter Try.func25, Try.ntmps25
  go_upto_region 1 with fail
  (try rw [hw1])
  (try rw [hb1])
  clear hw1 hb1
  go_wp2_with fail
  with_reducible refine Calls.mono (new_any H1.out) ?_
  rintro e w2 ⟨t, rfl, h2⟩
  obtain ⟨Y, h3, back⟩ := h2.focus
  have HBK := Lib.hid back
  have H3 := Lib.hid h3
  clear h2 h3 back H1
  go_wp2_with fail
  with_reducible refine Calls.mono (newR_any H3.out) ?_
  rintro e w3 ⟨d, rfl, h4⟩
  have H4 : Hid (PairAt W (pts b1 (.cells MA 73) * F) t d 0 w3) := Lib.hid ⟨0, newS, newR, Y, rfl, Nat.le_refl _, h4, HBK.out⟩
  clear h4 HBK H3
  go_wp2_with fail
  go_loopg [6] 3 (fun gg s6 wx => ∃ i : Nat, i ≤ 3 ∧ gg = 3 - i ∧ s6 = .int .i64 i ∧ PairAt W (pts b1 (.cells MA 73) * F) t d 0 wx)
  case atStart => exact ⟨0, by omega, rfl, rfl, H4.out⟩
  case round =>
    obtain ⟨i, hi, rfl, rfl, hx⟩ := hrel
    have H0 := Lib.hid hx
    clear hx H4
    by_cases hlt : i < 3
    · have i1 : (i : Int) < 3 := by omega
      have c1 := H0.out.sat.cell (HMN.out i hlt)
      skip
      go_wp2_with fail
      with_reducible refine Calls.mono (pair_t 1 ((i : Int) + 1) (N i) 0 0 0 0 0 H0.out) ?_
      rintro e x1 ⟨Ex1, rfl, hx⟩
      have Hx1 := Lib.hid hx
      clear hx
      clear H0 c1
      have c1 := Hx1.out.sat.cell (HMD.out i hlt)
      go_wp2_with fail
      with_reducible refine Calls.mono (pair_t 2 ((i : Int) + 1) (D i) 0 0 0 0 0 Hx1.out) ?_
      rintro e x2 ⟨Ex2, rfl, hx⟩
      have Hx2 := Lib.hid hx
      clear hx
      clear Hx1 c1
      have hg := HMG.out i hlt
      generalize G i = gi at hg
      obtain ⟨ga, gb, gc, gd, ge⟩ := gi
      simp only at hg
      obtain ⟨g1, g2, g3, g4, g5⟩ := hg
      have HG1 := Lib.hid g1
      have HG2 := Lib.hid g2
      have HG3 := Lib.hid g3
      have HG4 := Lib.hid g4
      have HG5 := Lib.hid g5
      clear g1 g2 g3 g4 g5
      (have c1 := Hx2.out.sat.cell HG1.out; have c2 := Hx2.out.sat.cell HG2.out; have c3 := Hx2.out.sat.cell HG3.out; have c4 := Hx2.out.sat.cell HG4.out; have c5 := Hx2.out.sat.cell HG5.out)
      go_wp2_with fail
      with_reducible refine Calls.mono (pair_t 3 ((i : Int) + 1) 0 ga gb gc gd ge Hx2.out) ?_
      rintro e x3 ⟨Ex3, rfl, hx⟩
      have Hx3 := Lib.hid hx
      clear hx
      clear Hx2 c1 c2 c3 c4 c5
      have c1 := Hx3.out.sat.cell (HMN.out i hlt)
      go_wp2_with fail
      with_reducible refine Calls.mono (pair_l1 (N i) hlt Hx3.out) ?_
      rintro e x4 ⟨Ex4, rfl, hx⟩
      have Hx4 := Lib.hid hx
      clear hx
      clear Hx3 c1
      have c1 := Hx4.out.sat.cell (HMD.out i hlt)
      go_wp2_with fail
      with_reducible refine Calls.mono (pair_l2 (D i) hlt Hx4.out) ?_
      rintro e x5 ⟨Ex5, rfl, hx⟩
      have Hx5 := Lib.hid hx
      clear hx
      clear Hx4 c1
      (have c1 := Hx5.out.sat.cell HG1.out; have c2 := Hx5.out.sat.cell HG2.out; have c3 := Hx5.out.sat.cell HG3.out; have c4 := Hx5.out.sat.cell HG4.out; have c5 := Hx5.out.sat.cell HG5.out)
      go_wp2_with fail
      with_reducible refine Calls.mono (pair_l3 ga gb gc gd ge hlt Hx5.out) ?_
      rintro e x6 ⟨Ex6, rfl, hx⟩
      have Hx6 := Lib.hid hx
      clear hx
      clear Hx5 c1 c2 c3 c4 c5 HG1 HG2 HG3 HG4 HG5
      go_wp2
      go_roundg (3 - (i + 1))
      case measure => omega
      case rel => exact ⟨i + 1, by omega, rfl, by go_num, Hx6.out⟩
    · obtain rfl : i = 3 := by omega
      clear hlt hi HMN HMD HMG
      obtain ⟨b7, hb7⟩ : ∃ b7, wr.heap.size = b7 := ⟨_, rfl⟩
      obtain ⟨w7, hw7⟩ : ∃ w7, wr.alloc (.cells nm4A 9) = w7 := ⟨_, rfl⟩
      have h7 := H0.out.less.alloc (.cells nm4A 9)
      rw [hb7, hw7] at h7
      have H7 := Lib.hid h7
      clear h7 H0
      go_upto_region 13 with fail
      (try rw [hw7])
      (try rw [hb7])
      clear hw7 hb7
      go_wp2_with fail
      go_loopg [8] 4 (fun gg s8 wx => ∃ i : Nat, i ≤ 4 ∧ gg = 4 - i ∧ s8 = .int .i64 i ∧ PairAt W (pts b7 (.cells nm4A 9) * F) t d i wx)
      case atStart => exact ⟨0, by omega, rfl, rfl, H7.out⟩
      case round =>
        obtain ⟨i, hi, rfl, rfl, hx⟩ := hrel
        have H0 := Lib.hid hx
        clear hx H7
        by_cases hlt : i < 4
        · have i1 : (i : Int) < 4 := by omega
          obtain ⟨HK, hk1, hk2⟩ := nm4_at hlt
          generalize nm4 i = kk at HK hk1 hk2
          have hmo : MeanOk ⟨1, 0, 0, 0, kk⟩ := .inl ⟨rfl, rfl, rfl, rfl, hk2⟩
          have HKK := Lib.hid HK
          have HK1 := Lib.hid hk1
          have HMO := Lib.hid hmo
          clear HK hk1 hk2 hmo
          go_upto_region 16 with fail
          have hc0 := (⟨_, H0.out.sat.drew⟩ : ∃ X, Sat W (pts b7 (.cells nm4A 9) * X) _)
          have HC0 := Lib.hid hc0
          clear hc0
          refine wp_region_C (fun w' => ∃ X, Sat W (pts b7 (.cells nm4A 9) * X) w') (by kernel_rfl) ?_
          refine wpC_take (i := 0) (v := ?_) rfl (by kernel_rfl) (by kernel_rfl) (by kernel_rfl) (fun _ _ _ h => h) (by rfl) ?_ ?_
          rotate_left 1
          · intro w hw; go_simp; try with_reducible rfl
          refine wpC_take (i := 1) (v := ?_) rfl (by kernel_rfl) (by kernel_rfl) (by kernel_rfl) (fun _ _ _ h => h) (by rfl) ?_ ?_
          rotate_left 1
          · intro w hw; go_simp; try with_reducible rfl
          refine wpC_take (i := 2) (v := ?_) rfl (by kernel_rfl) (by kernel_rfl) (by kernel_rfl) (fun _ _ _ h => h) (by rfl) ?_ ?_
          rotate_left 1
          · intro w hw; go_simp; try with_reducible rfl
          refine wpC_take (i := 3) (v := ?_) rfl (by kernel_rfl) (by kernel_rfl) (by kernel_rfl) (fun _ _ _ h => h) (by rfl) ?_ ?_
          rotate_left 1
          · intro w hw; go_simp; try with_reducible rfl
          refine wpC_take (i := 4) (v := ?_) rfl (by kernel_rfl) (by kernel_rfl) (by kernel_rfl) (fun _ _ _ h => h) (by rfl) ?_ ?_
          rotate_left 1
          · intro w hw; (obtain ⟨X, hw⟩ := hw; have c0 := hw.cell HKK.out; go_simp; try with_reducible rfl)
          refine wpC_take (i := 5) (v := ?_) rfl (by kernel_rfl) (by kernel_rfl) (by kernel_rfl) (fun _ _ _ h => h) (by rfl) ?_ ?_
          rotate_left 1
          · intro w hw; go_simp; try with_reducible rfl
          refine wpC_take (i := 6) (v := ?_) rfl (by kernel_rfl) (by kernel_rfl) (by kernel_rfl) (fun _ _ _ h => h) (by rfl) ?_ ?_
          rotate_left 1
          · intro w hw; go_simp; try with_reducible rfl
          refine wpC_take (i := 7) (v := ?_) rfl (by kernel_rfl) (by kernel_rfl) (by kernel_rfl) (fun _ _ _ h => h) (by rfl) ?_ ?_
          rotate_left 1
          · intro w hw; go_simp; try with_reducible rfl
          refine wpC_take (i := 8) (v := ?_) rfl (by kernel_rfl) (by kernel_rfl) (by kernel_rfl) (fun _ _ _ h => h) (by rfl) ?_ ?_
          rotate_left 1
          · intro w hw; (obtain ⟨X, hw⟩ := hw; have c0 := hw.cell HKK.out; go_simp; try with_reducible rfl)
          refine wpC_take (i := 9) (v := ?_) rfl (by kernel_rfl) (by kernel_rfl) (by kernel_rfl) (fun _ _ _ h => h) (by rfl) ?_ ?_
          rotate_left 1
          · intro w hw; go_simp; try with_reducible rfl
          refine wpC_one (i := 10) rfl (by kernel_rfl) (HC0.out) (fun K hK => ?_)
          go_simp
          refine Calls.mono (pair_dt kk 1 0 0 0 kk HK1.out H0.out.drew) ?_
          rintro e y1 ⟨EE, rfl, h8⟩
          have Hy1 := Lib.hid h8
          have HC8 := Lib.hid (show ∃ X, Sat W (pts b7 (.cells nm4A 9) * X) y1 from ⟨_, h8.sat⟩)
          clear h8 HC0
          go_simp
          refine hK _ _ ?_
          clear hK K
          refine wpC_done (by kernel_rfl) (HC8.out) ?_
          clear HC8
          clear H0
          go_upto_region 17 with fail
          have hc0 := (⟨_, Hy1.out.sat.drew⟩ : ∃ X, Sat W (pts b7 (.cells nm4A 9) * X) _)
          have HC0 := Lib.hid hc0
          clear hc0
          refine wp_region_C (fun w' => ∃ X, Sat W (pts b7 (.cells nm4A 9) * X) w') (by kernel_rfl) ?_
          refine wpC_take (i := 0) (v := ?_) rfl (by kernel_rfl) (by kernel_rfl) (by kernel_rfl) (fun _ _ _ h => h) (by rfl) ?_ ?_
          rotate_left 1
          · intro w hw; go_simp; try with_reducible rfl
          refine wpC_take (i := 1) (v := ?_) rfl (by kernel_rfl) (by kernel_rfl) (by kernel_rfl) (fun _ _ _ h => h) (by rfl) ?_ ?_
          rotate_left 1
          · intro w hw; go_simp; try with_reducible rfl
          refine wpC_take (i := 2) (v := ?_) rfl (by kernel_rfl) (by kernel_rfl) (by kernel_rfl) (fun _ _ _ h => h) (by rfl) ?_ ?_
          rotate_left 1
          · intro w hw; go_simp; try with_reducible rfl
          refine wpC_take (i := 3) (v := ?_) rfl (by kernel_rfl) (by kernel_rfl) (by kernel_rfl) (fun _ _ _ h => h) (by rfl) ?_ ?_
          rotate_left 1
          · intro w hw; go_simp; try with_reducible rfl
          refine wpC_take (i := 4) (v := ?_) rfl (by kernel_rfl) (by kernel_rfl) (by kernel_rfl) (fun _ _ _ h => h) (by rfl) ?_ ?_
          rotate_left 1
          · intro w hw; (obtain ⟨X, hw⟩ := hw; have c0 := hw.cell HKK.out; go_simp; try with_reducible rfl)
          refine wpC_take (i := 5) (v := ?_) rfl (by kernel_rfl) (by kernel_rfl) (by kernel_rfl) (fun _ _ _ h => h) (by rfl) ?_ ?_
          rotate_left 1
          · intro w hw; go_simp; try with_reducible rfl
          refine wpC_take (i := 6) (v := ?_) rfl (by kernel_rfl) (by kernel_rfl) (by kernel_rfl) (fun _ _ _ h => h) (by rfl) ?_ ?_
          rotate_left 1
          · intro w hw; go_simp; try with_reducible rfl
          refine wpC_take (i := 7) (v := ?_) rfl (by kernel_rfl) (by kernel_rfl) (by kernel_rfl) (fun _ _ _ h => h) (by rfl) ?_ ?_
          rotate_left 1
          · intro w hw; go_simp; try with_reducible rfl
          refine wpC_take (i := 8) (v := ?_) rfl (by kernel_rfl) (by kernel_rfl) (by kernel_rfl) (fun _ _ _ h => h) (by rfl) ?_ ?_
          rotate_left 1
          · intro w hw; (obtain ⟨X, hw⟩ := hw; have c0 := hw.cell HKK.out; go_simp; try with_reducible rfl)
          refine wpC_take (i := 9) (v := ?_) rfl (by kernel_rfl) (by kernel_rfl) (by kernel_rfl) (fun _ _ _ h => h) (by rfl) ?_ ?_
          rotate_left 1
          · intro w hw; go_simp; try with_reducible rfl
          refine wpC_one (i := 10) rfl (by kernel_rfl) (HC0.out) (fun K hK => ?_)
          go_simp
          refine Calls.mono (pair_dr kk 1 0 0 0 kk HMO.out (by omega) Hy1.out.drew) ?_
          rintro e y2 ⟨rfl, h8⟩
          have Hy2 := Lib.hid h8
          have HC8 := Lib.hid (show ∃ X, Sat W (pts b7 (.cells nm4A 9) * X) y2 from ⟨_, h8.sat⟩)
          clear h8 HC0
          go_simp
          refine hK _ _ ?_
          clear hK K
          refine wpC_done (by kernel_rfl) (HC8.out) ?_
          clear HC8
          clear Hy1 HKK HK1 HMO
          go_wp2
          go_roundg (4 - (i + 1))
          case measure => omega
          case rel => exact ⟨i + 1, by omega, rfl, by go_num, Hy2.out⟩
        · obtain rfl : i = 4 := by omega
          clear hlt hi
          obtain ⟨b9, hb9⟩ : ∃ b9, wr.heap.size = b9 := ⟨_, rfl⟩
          obtain ⟨w9, hw9⟩ : ∃ w9, wr.alloc (.cells sh4A 9) = w9 := ⟨_, rfl⟩
          have h9 := H0.out.less.alloc (.cells sh4A 9)
          rw [hb9, hw9] at h9
          have H9 := Lib.hid h9
          clear h9 H0
          go_upto_region 19 with fail
          (try rw [hw9])
          (try rw [hb9])
          clear hw9 hb9
          go_wp2_with fail
          go_loopg [10] 4 (fun gg s10 wx => ∃ i : Nat, i ≤ 4 ∧ gg = 4 - i ∧ s10 = .int .i64 i ∧ PairAt W (pts b9 (.cells sh4A 9) * F) t d (4 + i) wx)
          case atStart => exact ⟨0, by omega, rfl, rfl, H9.out⟩
          case round =>
            obtain ⟨i, hi, rfl, rfl, hx⟩ := hrel
            have H0 := Lib.hid hx
            clear hx H9
            by_cases hlt : i < 4
            · have i1 : (i : Int) < 4 := by omega
              obtain ⟨HK, hk1⟩ := sh4_at hlt
              generalize sh4 i = kk at HK hk1
              have HKK := Lib.hid HK
              have HK1 := Lib.hid hk1
              have HMO := Lib.hid (show MeanOk ⟨4, (i : Int) + 1, 1, 0, ⟨#[]⟩⟩ from .inr (.inr ⟨rfl, by simp only; omega, by simp only; omega, by simp only; omega, by simp only; omega, rfl, rfl⟩))
              clear HK hk1
              have c1 := H0.out.sat.cell HKK.out
              go_wp2_with fail
              with_reducible refine Calls.mono (pair_dt kk 4 ((i : Int) + 1) 1 0 ⟨#[]⟩ HK1.out H0.out) ?_
              rintro e z1 ⟨Ez1, rfl, hx⟩
              have Hz1 := Lib.hid hx
              clear hx
              clear H0 c1
              have c1 := Hz1.out.sat.cell HKK.out
              go_wp2_with fail
              with_reducible refine Calls.mono (pair_dr kk 4 ((i : Int) + 1) 1 0 ⟨#[]⟩ HMO.out (by omega) Hz1.out) ?_
              rintro e z2 ⟨rfl, hx⟩
              have Hz2 := Lib.hid hx
              clear hx Hz1 c1 HKK HK1 HMO
              go_wp2
              go_roundg (4 - (i + 1))
              case measure => omega
              case rel => exact ⟨i + 1, by omega, rfl, by go_num, Hz2.out⟩
            · obtain rfl : i = 4 := by omega
              have H1 := Lib.hid H0.out.less
              clear hlt hi H0
              go_wp2_with fail
              with_reducible refine Calls.mono (pair_dt ⟨#[99, 104]⟩ 3 0 65 11 ⟨#[]⟩ (by decide) H1.out) ?_
              rintro e z1 ⟨E1, rfl, hx⟩
              have Hz1 := Lib.hid hx
              clear hx H1
              go_wp2_with fail
              with_reducible refine Calls.mono (pair_dr ⟨#[99, 104]⟩ 3 0 65 11 ⟨#[]⟩ mean_ch (by omega) Hz1.out) ?_
              rintro e z2 ⟨rfl, hx⟩
              have Hz2 := Lib.hid hx
              clear hx Hz1
              go_wp2_with fail
              with_reducible refine Calls.mono (pair_dt ⟨#[126]⟩ 4 2 2 0 ⟨#[]⟩ (by decide) Hz2.out) ?_
              rintro e z3 ⟨E3, rfl, hx⟩
              have Hz3 := Lib.hid hx
              clear hx Hz2
              go_wp2_with fail
              with_reducible refine Calls.mono (pair_dr ⟨#[126]⟩ 4 2 2 0 ⟨#[]⟩ mean_tie (by omega) Hz3.out) ?_
              rintro e z4 ⟨rfl, hx⟩
              have Hz4 := Lib.hid hx
              clear hx Hz3
              go_wp2
              go_ret2
              exact ⟨t, d, rfl, Hz4.out⟩
end Go.Proofs.Yticljfpippbkkaa
