import Derived.Test.YticljfpippbkkaaMNumR
/-
  Int and Register. Conditions: those that each theorem names.
-/
namespace Go.Proofs.Yticljfpippbkkaa
open Go.RowKit Go.Sp
variable {W w w' : World} {A : HProp} {bx bs bt N : Nat} {L : List Tok} {S : TabS}

/-- a list in block bs, a table in block bt -/
def LtAt (W : World) (A : HProp) (bs bt : Nat) (L : List Tok) (N : Nat) (S : TabS) (w : World) : Prop :=
  ∃ Y, LsAt W (A * Y) bs L w ∧ ∀ A' w', Sat W (A' * Y) w' → TabAt W A' bt N S w'
theorem LtAt.tab (h : LtAt W A bs bt L N S w) : ∃ Z, TabAt W Z bt N S w ∧ ∀ w', TabAt W Z bt N S w' → LtAt W A bs bt L N S w' := by
  obtain ⟨Y, h1, h2⟩ := h
  obtain ⟨Y2, h3, back⟩ := h1.focus
  refine ⟨A * Y2, h2 _ _ (h3.of_eq (by ac_rfl)), fun w' h => ?_⟩
  obtain ⟨Y3, h4, back3⟩ := h.focus
  exact ⟨Y3, back _ _ (h4.of_eq (by ac_rfl)), back3⟩
theorem LtAt.focus (h : LtAt W A bs bt L N S w) : ∃ Y, Sat W (A * Y) w ∧ ∀ A' w', Sat W (A' * Y) w' → LtAt W A' bs bt L N S w' := by
  obtain ⟨Y, h1, h2⟩ := h
  obtain ⟨Y2, h3, back⟩ := h1.focus
  exact ⟨Y * Y2, h3.of_eq (by ac_rfl), fun A' w' h => ⟨Y, back _ _ (h.of_eq (by ac_rfl)), h2⟩⟩
theorem LtAt.ext (h : LtAt W A bs bt L N S w) (k : Ext w w') : LtAt W A bs bt L N S w' := by
  obtain ⟨Y, h1, back⟩ := h.focus
  exact back _ _ (h1.ext k)
theorem LtAt.sat (h : LtAt W A bs bt L N S w) : Sat W A w := by
  obtain ⟨Y, h1, _⟩ := h.focus
  exact h1.l
theorem LtAt.of_eq {B : HProp} (h : LtAt W A bs bt L N S w) (e : A = B) : LtAt W B bs bt L N S w := e ▸ h
theorem LtAt.sc (h : LtAt W A bs bt L N S w) : ScAt W A w.heap.size bs bt L N S (w.alloc (scO bs bt)) := by
  obtain ⟨Y, h1, h2⟩ := h
  exact ⟨Y, h1.alloc (scO bs bt), h2⟩
theorem ScAt.lt (h : ScAt W A bx bs bt L N S w) : LtAt W A bs bt L N S w := by
  obtain ⟨Y, h1, h2⟩ := h
  exact ⟨Y, h1.less, h2⟩
theorem ltget_any (c i : Int) (h : LtAt W A bs bt L N S w) : Calls Try.prog 45 #[.pointer (some ⟨bt, 0, none⟩), .int .i64 c, .int .i64 i] w fun e w' => ∃ a n k, e = .returned (.tuple #[valA (getV S c i) (.slice a n k), .int .i64 (wrongE c i)]) ∧ LtAt W A bs bt L N S w' := by
  obtain ⟨Z, h1, back⟩ := h.tab
  refine (get_all c i h1).mono fun e w' ⟨u, he, hw⟩ => ?_
  obtain ⟨a, k, hu⟩ := (rowT_rd hw.sat).val
  exact ⟨a, _, k, by rw [he, hu], back _ hw.less⟩

set_option maxRecDepth 100000 in
set_option maxHeartbeats 4000000 in
theorem nothing_no (b : Nat) (w : World) : Calls Try.prog 31 #[srcV b] w fun e w' => e = .returned (.bool false) ∧ w = w' := by
  have hta : (Instr.typeAssert (srcV b) 80 23 true).run Try.prog w = .ok (.tuple #[.pointer (some ⟨b, 0, none⟩), .bool true]) w := by kernel_rfl
  go_enter Try.func31, Try.ntmps31
  go_wp2
  go_ret
  exact ⟨rfl, rfl⟩
set_option maxRecDepth 100000 in
set_option maxHeartbeats 4000000 in
theorem open_any (h : LtAt W A bs bt L N S w) : Calls Try.prog 28 #[srcV bs, .pointer (some ⟨bt, 0, none⟩)] w fun e w' => ∃ bx, e = .returned (.tuple #[.pointer (some ⟨bx, 0, none⟩), .int .i64 0]) ∧ ScAt W A bx bs bt L N S w' := by
  have HG := Lib.hid (ltget_any 1 0 h)
  rw [show wrongE 1 0 = 0 from rfl] at HG
  obtain ⟨⟨n, ⟨g1, g2, g3, g4, g5⟩, toks⟩, hg⟩ : ∃ g, getV S 1 0 = g := ⟨_, rfl⟩
  rw [hg] at HG
  clear h hg
  go_enter Try.func28, Try.ntmps28
  go_wp2_with fail
  with_reducible refine Calls.mono (nothing_no bs w) ?_
  rintro e w1 ⟨rfl, rfl⟩
  go_wp2_with fail
  with_reducible refine Calls.mono HG.out ?_
  rintro e w2 ⟨ua, un, uk, rfl, h2⟩
  have H2 := Lib.hid (h2.ext ((Ext.refl _).alloc (o := .cells #[.int .i64 n, .int .i64 g1, .int .i64 g2, .int .i64 g3, .int .i64 g4, .int .i64 g5, .slice ua un uk] 59))).sc
  clear h2 HG
  unfold valA
  simp only
  go_wp2
  refine bodyPost_ret (v := .tuple #[.pointer (some ⟨w2.heap.size + 1, 0, none⟩), .int .i64 0]) (by unfold results; go_simp) rfl ⟨_, rfl, ?_⟩
  simpa using H2.out
set_option maxRecDepth 100000 in
set_option maxHeartbeats 4000000 in
theorem int_any (hl : L.length ≤ 2000000) (h : LtAt W A bs bt L N S w) : Calls Try.prog 16 #[srcV bs, .pointer (some ⟨bt, 0, none⟩)] w fun e w' => e = .returned (.tuple #[.int .i64 (integerM S L).1, .int .i64 (integerM S L).2.1]) ∧ LtAt W A bs bt (integerM S L).2.2 N S w' := by
  have HO := Lib.hid (open_any h)
  obtain ⟨⟨i1, i2, i3⟩, hi⟩ : ∃ i, integerM S L = i := ⟨_, rfl⟩
  rw [hi]
  have HII := Lib.hid hi
  clear h hi
  go_enter Try.func16, Try.ntmps16
  go_wp2_with fail
  with_reducible refine Calls.mono HO.out ?_
  rintro e w1 ⟨bx, rfl, h1⟩
  have HI := Lib.hid (integer_any hl h1)
  clear h1 HO
  rw [HII.out] at HI
  go_wp2_with fail
  with_reducible refine Calls.mono HI.out ?_
  rintro e w2 ⟨rfl, h2⟩
  have H2 := Lib.hid h2.lt
  clear h2 HI
  go_wp2
  exact bodyPost_ret (v := .tuple #[.int .i64 i1, .int .i64 i2]) (by unfold results; go_simp) rfl ⟨rfl, H2.out⟩
set_option maxRecDepth 100000 in
set_option maxHeartbeats 4000000 in
theorem reg_any (hl : L.length ≤ 2000000) (h : LtAt W A bs bt L N S w) : Calls Try.prog 24 #[srcV bs, .pointer (some ⟨bt, 0, none⟩)] w fun e w' =>
    e = .returned (.tuple #[.int .i64 (registerM S L).1, .int .i64 (registerM S L).2.1, .bool (registerM S L).2.2.1, .int .i64 (registerM S L).2.2.2.1]) ∧ LtAt W A bs bt (registerM S L).2.2.2.2 N S w' := by
  have HO := Lib.hid (open_any h)
  obtain ⟨⟨i1, i2, i3, i4, i5⟩, hi⟩ : ∃ i, registerM S L = i := ⟨_, rfl⟩
  rw [hi]
  have HII := Lib.hid hi
  clear h hi
  go_enter Try.func24, Try.ntmps24
  go_wp2_with fail
  with_reducible refine Calls.mono HO.out ?_
  rintro e w1 ⟨bx, rfl, h1⟩
  have HI := Lib.hid (register_any hl h1)
  clear h1 HO
  rw [HII.out] at HI
  go_wp2_with fail
  with_reducible refine Calls.mono HI.out ?_
  rintro e w2 ⟨rfl, h2⟩
  have H2 := Lib.hid h2.lt
  clear h2 HI
  go_wp2
  exact bodyPost_ret (v := .tuple #[.int .i64 i1, .int .i64 i2, .bool i3, .int .i64 i4]) (by unfold results; go_simp) rfl ⟨rfl, H2.out⟩

end Go.Proofs.Yticljfpippbkkaa
