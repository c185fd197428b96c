/-
  The law CodesLines, walked. Conditions: those that each theorem names.
-/
import Derived.Test.YtkfobimigiaknaaDoorCodX
namespace Go.Proofs.YtkfobimigiaknaaDoor
open Go.RowKit Go.Sp
variable {W w w' : World} {F F' : HProp}

theorem allF_len (C : List Int) (endl : Int) : ∀ (n : Nat) (R : Rs) (acc : List Tok), acc.length ≤ 20000 → (allF C endl n R acc).1.length ≤ 20000 := by
  intro n
  induction n with
  | zero => intro R acc _; simp [allF]
  | succ n ih =>
    intro R acc h
    rw [allF]
    split
    · exact h
    · split
      · simp
      · split
        · simp
        · exact ih _ _ (by simp; omega)
theorem allM_len (C : List Int) (endl : Int) (t : List UInt8) : (allM C endl t).1.length ≤ 20000 := by
  unfold allM
  split
  · simp
  · exact allF_len C endl _ _ _ (by simp)

set_option maxRecDepth 1000000 in
set_option maxHeartbeats 8000000 in
theorem lines_any (C : List Int) (hC : C.length = 256) (endl : Int) (one two : List UInt8) (h1 : one.length ≤ 140737488351232) (h2 : two.length ≤ 140737488351232) (h : Sat W F w) :
    Calls Tryd.prog 5 #[(.string ⟨one.toArray⟩), (.string ⟨two.toArray⟩), codesV C, .int .i64 endl] w fun e w' => e = .returned (.bool true) ∧ Sat W F w' := by
  obtain ⟨i0, hi, hz0, hz1, hz2⟩ := info_parts3 info_tok
  have HI := Lib.hid hi
  have HZ0 := Lib.hid hz0
  have HZ1 := Lib.hid hz1
  have HZ2 := Lib.hid hz2
  clear hi hz0 hz1 hz2
  have h0 := h.alloc (codesO C 22)
  have H0 := Lib.hid h0
  have hblk := h0.blk
  have HC := Lib.hid hC
  have HL := Lib.hid (fun w' (h : Sat W F w') => live_any h)
  have cat1 : (⟨one.toArray⟩ : ByteArray) ++ ⟨#[10]⟩ = ⟨(one ++ [10]).toArray⟩ := by
    apply ByteArray.ext
    simp
  have cat2 : (⟨(one ++ [10]).toArray⟩ : ByteArray) ++ ⟨two.toArray⟩ = ⟨(one ++ [10] ++ two).toArray⟩ := by
    apply ByteArray.ext
    simp
  have HA1 := Lib.hid (fun (F' : HProp) (w' : World) (h : Sat W F' w') => all_any C hC endl (one ++ [10]) h)
  have HA2 := Lib.hid (fun (F' : HProp) (w' : World) (h : Sat W F' w') => all_any C hC endl two h)
  have HA3 := Lib.hid (fun (F' : HProp) (w' : World) (h : Sat W F' w') => all_any C hC endl (one ++ [10] ++ two) h)
  obtain ⟨⟨la, ea⟩, hra⟩ : ∃ r, allM C endl (one ++ [10]) = r := ⟨_, rfl⟩
  obtain ⟨⟨lb, eb⟩, hrb⟩ : ∃ r, allM C endl two = r := ⟨_, rfl⟩
  obtain ⟨⟨lc, ec⟩, hrc⟩ : ∃ r, allM C endl (one ++ [10] ++ two) = r := ⟨_, rfl⟩
  have hla : la.length ≤ 20000 := by have := allM_len C endl (one ++ [10]); rwa [hra] at this
  have hlb : lb.length ≤ 20000 := by have := allM_len C endl two; rwa [hrb] at this
  have HLC := Lib.hid (show lc.length ≤ 20000 by have := allM_len C endl (one ++ [10] ++ two); rwa [hrc] at this)
  rw [hra] at HA1
  rw [hrb] at HA2
  rw [hrc] at HA3
  have HLA := Lib.hid (fun (ha : ea = 0) (hb : eb = 0) => lines_all (C := C) (endl := endl) (by rw [hra, ha]) (by rw [hrb, hb]))
  rw [hrc] at HLA
  have s1 := str_size one
  have s2 := str_size two
  have s3 := str_size (one ++ [10])
  rw [List.length_append, List.length_singleton] at s3
  obtain ⟨n1, hn1⟩ : ∃ n, one.length = n := ⟨_, rfl⟩
  obtain ⟨n2, hn2⟩ : ∃ n, two.length = n := ⟨_, rfl⟩
  rw [hn1] at s1 s3 h1 HLA
  rw [hn2] at s2 h2 HLA
  generalize (⟨(one ++ [10] ++ two).toArray⟩ : ByteArray) = S3 at *
  generalize (⟨(one ++ [10]).toArray⟩ : ByteArray) = S1 at *
  generalize (⟨one.toArray⟩ : ByteArray) = So at *
  generalize (⟨two.toArray⟩ : ByteArray) = St at *
  obtain ⟨bc, hbc⟩ : ∃ bc, w.heap.size = bc := ⟨_, rfl⟩
  rw [hbc] at H0 hblk
  clear h h0 hC hra hrb hrc hn1 hn2
  go_enter Tryd.func5, Tryd.ntmps5
  go_wp2_with fail
  refine wp_load_row 22 (.tmp 6) (by rfl) bc (by rfl) _ _ _ _ hblk Tryd.underlying22 (by rfl) ?_ ?_
  · rw [size_codes]; simp [HC.out]
  clear hblk hbc
  go_wp2_with fail
  refine Calls.mono (HA1.out _ _ H0.out) ?_
  rintro e w1 ⟨va, rfl, h1'⟩
  have H1 := Lib.hid h1'
  have hblk := h1'.r.blk
  clear h1'
  go_wp2_with fail
  refine wp_load_row 22 (.tmp 6) (by rfl) bc (by rfl) _ _ _ _ hblk Tryd.underlying22 (by rfl) ?_ ?_
  · rw [size_codes]; simp [HC.out]
  clear hblk
  go_wp2_with fail
  refine Calls.mono (HA2.out _ _ H1.out) ?_
  rintro e w2 ⟨vb, rfl, h2'⟩
  have H2 := Lib.hid h2'
  have hblk := h2'.r.r.blk
  clear h2'
  go_wp2_with fail
  refine wp_load_row 22 (.tmp 6) (by rfl) bc (by rfl) _ _ _ _ hblk Tryd.underlying22 (by rfl) ?_ ?_
  · rw [size_codes]; simp [HC.out]
  clear hblk
  go_wp2_with fail
  refine Calls.mono (HA3.out _ _ H2.out) ?_
  rintro e w3 ⟨vc, rfl, h3'⟩
  have H3 := Lib.hid h3'
  obtain ⟨va', ka, rfl, hka⟩ := (rowT_rd h3'.r.r).capd
  obtain ⟨vb', kb, rfl, hkb⟩ := (rowT_rd h3'.r).capd
  obtain ⟨vc', kc, rfl, hkc⟩ := (rowT_rd h3').capd
  clear h3' cat1 cat2
  have b1 : n1 ≤ 140737488351232 := h1
  have b2 : n2 ≤ 140737488351232 := h2
  by_cases hea : ea = 0
  · subst hea
    by_cases heb : eb = 0
    · subst heb
      have hs := HLA.out rfl rfl
      clear HLA
      rcases hs with hs | ⟨hs, hs2⟩
      · obtain ⟨rfl, rfl⟩ := Prod.mk.inj hs
        have HRA := Lib.hid (rowT_rd H3.out.r.r)
        have HRB := Lib.hid (rowT_rd H3.out.r)
        have HRC := Lib.hid (rowT_rd H3.out)
        have hx0 := ((H3.out.alloc (.cells #[] 31)).row_whole 0 (size := 3) (by simp [maxLen]) (by simp))
        have HX0 := Lib.hid hx0
        clear hs hx0
        go_wp2_with (first
          | (go_at_call 16; refine Calls.mono (num_any _ _) ?_; rintro e w' ⟨rfl, rfl⟩)
          | (at_builtin; refine wpList_append_rd rfl _ _ 25 rfl i0 _ 32 Tryd.underlying25 HI.out HZ0.out HZ1.out HZ2.out rfl (by omega) rfl HX0.out _ la.length (flat la) rfl (HRA.out.ext (Ext.refl _).alloc).1 (flat_one la) ?_ ?_ ?_))
        · simp [maxLen]; omega
        · omega
        intro v' w4 h6
        have h6' : Sat W (row v' la.length 31 3 (flat la) * _) w4 := rowT_app (acc := []) (X := la) h6 (by simp)
        have H6 := Lib.hid h6'
        have hrb := (rowT_rd h6'.r.r).1
        have HRB2 := Lib.hid hrb
        clear h6 h6' hrb
        go_wp2_with (at_builtin; refine wpList_append_rd rfl _ _ 25 rfl i0 _ 32 Tryd.underlying25 HI.out HZ0.out HZ1.out HZ2.out rfl (by omega) rfl H6.out _ lb.length (flat lb) rfl HRB2.out (flat_one lb) ?_ ?_ ?_)
        · simp [maxLen]; omega
        · omega
        intro v2 w5 h7
        have h8 := rowT_app (acc := la) (X := lb) h7 rfl
        have hsm := same_any (la ++ lb) (la ++ lb) _ v2 _ (rowT_rd h8.r) (rowT_rd h8)
        rw [decide_eq_true rfl] at hsm
        have HSM := Lib.hid hsm
        have H8 := Lib.hid h8.r.r.r.r.r
        clear h7 h8 hsm
        go_wp2_with fail
        refine Calls.mono HSM.out ?_
        rintro e w' ⟨rfl, q, rfl⟩
        go_wp2_with fail
        refine Calls.mono (HL.out _ H8.out.drewN) ?_
        rintro e w6 ⟨rfl, h9⟩
        go_wp2
        go_ret
        exact ⟨rfl, h9⟩
      · obtain ⟨rfl, rfl⟩ := Prod.mk.inj hs
        have hps : (65536 : Int) ≤ (n1 : Int) + (n2 : Int) ∨ (¬ (65536 : Int) ≤ (n1 : Int) + (n2 : Int) ∧ (20000 : Int) < (la.length : Int) + (lb.length : Int)) := by omega
        clear hs hs2
        rcases hps with j1 | ⟨j1, j2⟩
        all_goals
          go_wp2_with (go_at_call 16; refine Calls.mono (num_any _ _) ?_; rintro e w' ⟨rfl, rfl⟩)
          refine Calls.mono (HL.out _ H3.out.r.r.r.r) ?_
          rintro e w4 ⟨rfl, h4⟩
          go_wp2
          go_ret
          exact ⟨rfl, h4⟩
    · have q2 : (eb != 0) = true := by simpa using heb
      clear HLA heb
      go_wp2_with (go_at_call 16; refine Calls.mono (num_any _ _) ?_; rintro e w' ⟨rfl, rfl⟩)
      refine Calls.mono (HL.out _ H3.out.r.r.r.r) ?_
      rintro e w4 ⟨rfl, h4⟩
      go_wp2
      go_ret
      exact ⟨rfl, h4⟩
  · have q1 : (ea != 0) = true := by simpa using hea
    clear HLA hea
    go_wp2_with (go_at_call 16; refine Calls.mono (num_any _ _) ?_; rintro e w' ⟨rfl, rfl⟩)
    refine Calls.mono (HL.out _ H3.out.r.r.r.r) ?_
    rintro e w4 ⟨rfl, h4⟩
    go_wp2
    go_ret
    exact ⟨rfl, h4⟩

end Go.Proofs.YtkfobimigiaknaaDoor
