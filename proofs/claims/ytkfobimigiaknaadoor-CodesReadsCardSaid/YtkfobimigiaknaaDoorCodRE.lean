/-
  The reference's more: a line is begun. Conditions: those that each theorem names.
-/
import Derived.Test.YtkfobimigiaknaaDoorCodRD
namespace Go.Proofs.YtkfobimigiaknaaDoor
open Go.RowKit Go.Sp
variable {W w w' : World} {F F' : HProp}

theorem trim_pre (l : List UInt8) (c : UInt8) : Lib.trimRightB l c = l.take (Lib.trimRightB l c).length := by
  refine List.prefix_iff_eq_take.1 ?_
  unfold Lib.trimRightB
  have h := List.reverse_prefix.2 (List.dropWhile_suffix (l := l.reverse) (· == c))
  simpa using h

set_option maxRecDepth 100000 in
theorem moreR_yes {R : Rs} {b : Nat} (endl : Int) (_hl : R.left = []) (e1 : R.stopped = false) (e2 : R.ended = false) (e3 : R.text ≠ []) (ht : R.text.length ≤ 65536) (hn : R.number ≤ 1000000000) (h : RefAt W F b R w) :
    Calls Tryd.prog 32 #[.pointer (some ⟨b, 0, none⟩), .int .i64 endl] w fun e w' => e = .returned (.bool true) ∧ RefAt W F b (beginM endl R).2 w' := by
  obtain ⟨i0, hi, hz0, hz1, hz2⟩ := info_parts3B info_u8B
  have HI := Lib.hid hi
  have HZ0 := Lib.hid hz0
  have HZ1 := Lib.hid hz1
  have HZ2 := Lib.hid hz2
  clear hi hz0 hz1 hz2
  obtain ⟨he, vl, vL, v0, ls, k, h1, h2, hs⟩ := h
  rw [linesL_cons _ e3] at h2
  have HB := Lib.hid (beginM_yes (endl := endl) e1 e2 e3)
  have hcl := cutAt_len 10 R.text
  obtain ⟨g, c, rfl, hc, hk, hd, hv0, htl⟩ := tail_cons h1 h2
  obtain ⟨l, hl1⟩ : ∃ l, (cutAt 10 R.text).1 = l := ⟨_, rfl⟩
  obtain ⟨l2, hl2⟩ : ∃ l, (cutAt 10 R.text).2.1 = l := ⟨_, rfl⟩
  rw [hl1, hl2] at HB hcl
  rw [hl1] at hk
  rw [hl2] at hd htl hc
  have c4 : w.cell? ⟨b, 4, none⟩ = some (.bool false) := by
    have : w.cell? ⟨b, 4, none⟩ = some (.bool (R.stopped || R.ended)) := hs.cell rfl
    rw [e1, e2] at this; exact this
  have c0 : w.cell? ⟨b, 0, none⟩ = some (.slice (some ⟨g, k, none⟩) ((linesL l2).length + 1) c) := by rw [← hl2]; exact hs.cell rfl
  have c1 : w.cell? ⟨b, 1, none⟩ = some (.int .i64 R.number) := hs.cell rfl
  have f0 := hs.free (i := 0)
  have f1 := hs.free (i := 1)
  have f2 := hs.free (i := 2)
  have f3 := hs.free (i := 3)
  have lb := hs.lt
  have hg : w.cell? ⟨g, k, none⟩ = some (.string ⟨l.toArray⟩) := by
    obtain ⟨a', cap', q1, q2⟩ := hs.r.r.row_val
    obtain ⟨cap, rfl⟩ := hv0
    simp only [Value.slice.injEq] at q1
    have hkl := (List.getElem?_eq_some_iff.1 hk)
    obtain ⟨g', q3, q4⟩ := q2 k _ (strsV_get ls k hkl.1)
    rw [← q1.1] at q3
    cases q3
    rw [q4, hkl.2]
  have hll : l.length ≤ 65536 := by omega
  have hsz : (⟨l.toArray⟩ : ByteArray).size = l.length := str_size l
  have HS := Lib.hid hs
  have htl' : ∀ o c', (linesL l2).length ≤ c' → ((linesL l2).length ≠ 0 → o = k + 1) → tailOf v0 ls.length (k + 1) (.slice (some ⟨g, o, none⟩) (linesL l2).length c') :=
    fun o c' a b => htl o c' a (fun hne => b (fun h0 => hne (List.eq_nil_of_length_eq_zero h0)))
  have HT := Lib.hid (And.intro hd htl')
  have HL := Lib.hid (And.intro hl1 hl2)
  clear hs hd htl htl' hl1 hl2 h1 h2 hk hv0 he
  generalize (linesL l2).length = m at *
  have i1 : (0 : Int) < (m : Int) + 1 := by omega
  go_enter Tryd.func32, Tryd.ntmps32
  go_upto_block 0 with fail
  all_goals
    go_cut [5, 6] from 7 to 83 (fun s5 s6 wx => s5 = (.string ⟨l.toArray⟩) ∧ s6 = .int .i64 (Lib.trimRightB l 32).length ∧ ∃ o c' : Nat, m ≤ c' ∧ (m ≠ 0 → o = k + 1) ∧ wx = w.setCell ⟨b, 0, none⟩ (.slice (some ⟨g, o, none⟩) m c'))
    case first => as_aux_lemma =>
      go_wp2_with fail
      all_goals
        go_loopg [6] l.length (fun (n : Nat) s6 wx => n ≤ l.length ∧ s6 = .int .i64 (n : Int) ∧ (∀ (j : Nat) (d : UInt8), n ≤ j → l[j]? = some d → d = (32 : UInt8)) ∧ ∃ o c' : Nat, m ≤ c' ∧ (m ≠ 0 → o = k + 1) ∧ wx = w.setCell ⟨b, 0, none⟩ (.slice (some ⟨g, o, none⟩) m c'))
        case atStart =>
          refine ⟨Nat.le_refl _, rfl, fun j d hj hd => (by rw [List.getElem?_eq_none hj] at hd; cases hd), _, _, ?_, ?_, rfl⟩ <;> omega
        case round =>
          obtain ⟨hk, rfl, hcc, o, c', ho1, ho2, rfl⟩ := hrel
          obtain ⟨n, hnn⟩ : ∃ n, n = gk := ⟨_, rfl⟩
          subst hnn
          have HC := Lib.hid hcc
          clear hcc
          by_cases h0 : 0 < n
          · have hkl : n - 1 < l.length := by omega
            have h1 : n - 1 < (⟨l.toArray⟩ : ByteArray).size := by rw [hsz]; omega
            have hb0 : (⟨l.toArray⟩ : ByteArray)[n - 1]'h1 = l[n - 1] := by
              have := Lib.getElem_mk l (n - 1) h1
              rw [List.getElem?_eq_getElem hkl] at this
              exact (Option.some.inj this).symm
            have HB2 := Lib.hid (show l[n - 1]? = some l[n - 1] from List.getElem?_eq_getElem hkl)
            generalize l[n - 1] = d at *
            have i2 : (0 : Int) < (n : Int) := by omega
            have i3 : 0 ≤ (n : Int) - 1 := by omega
            have i4 : (n : Int) - 1 < (l.length : Int) := by omega
            have i5 : ((n : Int) - 1).toNat = n - 1 := by omega
            by_cases heq : d = 32
            · have hq : ((d.toNat : Int) == 32) = true := by simp [heq]
              go_wp2
              go_roundg (n - 1)
              case measure => omega
              case rel =>
                refine ⟨by omega, by go_num, fun j x hj hx => ?_, o, c', ho1, ho2, rfl⟩
                by_cases e : j = n - 1
                · subst e
                  rw [HB2.out] at hx
                  cases hx; exact heq
                · exact HC.out j x (by omega) hx
            · have hq : ((d.toNat : Int) == 32) = false := by
                rw [beq_eq_false_iff_ne]
                intro h
                exact heq (UInt8.toNat_inj.1 (by have : d.toNat = 32 := by exact_mod_cast h
                                                 simpa using this))
              have HT2 := Lib.hid (show Lib.trimRightB l 32 = l.take n from Lib.trimRightB_take l 32 n hk HC.out (fun x _ hx => by rw [HB2.out] at hx; cases hx; exact heq))
              clear heq
              go_wp2
              go_meet
              exact ⟨rfl, by rw [HT2.out, List.length_take, Nat.min_eq_left hk], o, c', ho1, ho2, rfl⟩
          · have hk0 : n = 0 := by omega
            subst hk0
            have HT2 := Lib.hid (show Lib.trimRightB l 32 = l.take 0 from Lib.trimRightB_take l 32 0 hk HC.out (fun x h _ => by omega))
            go_wp2
            go_meet
            exact ⟨rfl, by rw [HT2.out]; rfl, o, c', ho1, ho2, rfl⟩
    case rest => as_aux_lemma =>
      obtain ⟨rfl, rfl, o, c', ho1, ho2, rfl⟩ := hcut
      have HS1 := Lib.hid (HS.out.set (i := 0) (v := .slice (some ⟨g, o, none⟩) m c'))
      have HT4 := Lib.hid (trim_len l 32)
      obtain ⟨l4, hl4⟩ : ∃ l4, Lib.trimRightB l 32 = l4 := ⟨_, rfl⟩
      have hpre : l4 = l.take l4.length := by rw [← hl4]; exact trim_pre l 32
      have hx1 : (⟨l.toArray⟩ : ByteArray).extract 0 l4.length = ⟨l4.toArray⟩ := by rw [Lib.extract_mk]; simp [← hpre]
      have hle : l4.length ≤ l.length := by rw [← hl4]; exact HT4.out
      rw [hl4]
      have HL4 := Lib.hid (And.intro hl4 hpre)
      clear hl4 hpre
      have HTL := Lib.hid (And.intro (HT.out.2 o c' ho1 ho2) HT.out.1)
      obtain ⟨a4, k4, w2, hcv, hs2⟩ := Sat.conv l4 HS1.out.rot.r (by omega)
      have HS2 := Lib.hid hs2
      clear c0 c1 c4 f0 f1 f2 f3 lb
      have c1 : w2.cell? ⟨b, 1, none⟩ = some (.int .i64 R.number) := hs2.r.cell rfl
      have c2 : w2.cell? ⟨b, 2, none⟩ = some vL := hs2.r.cell rfl
      have c3 : w2.cell? ⟨b, 3, none⟩ = some (.int .i64 R.state) := hs2.r.cell rfl
      have f1 := hs2.r.free (i := 1)
      have f2 := hs2.r.free (i := 2)
      have f3 := hs2.r.free (i := 3)
      have lb := hs2.r.lt
      clear hs2 ho1 ho2
      by_cases hen : 0 ≤ endl ∧ endl ≤ 255
      · obtain ⟨en1, en2⟩ := hen
        have HLN := Lib.hid (show lineM endl l = l4 ++ [UInt8.ofNat endl.toNat] by rw [lineM, if_pos ⟨en1, en2⟩, HL4.out.1])
        have HEN := Lib.hid (show ((UInt8.ofNat endl.toNat).toNat : Int) = endl by simp [UInt8.toNat_ofNat']; omega)
        have hwr : IntKind.u8.wrap endl = endl := IntWalk.u8_in _ (by omega)
        have HA := Lib.hid (((HS2.out.rot.set (i := 2) (v := .slice a4 l4.length k4)).allocD (o := .cells #[.int .u8 endl] 5)).rot)
        go_wp2_with (at_builtin; refine wpList_append_M rfl _ _ 53 rfl i0 Tryd.underlying53 HI.out HZ0.out HZ1.out HZ2.out rfl HA.out ⟨w2.heap.size, 0, none⟩ 1 (UInt8.ofNat endl.toNat) rfl ?_ ?_ ?_)
        · rw [HEN.out]; go_simp
        · omega
        intro v5 w4 h6
        have H6 := Lib.hid h6
        clear c1 c2 c3 f1 f2 f3 lb
        have c2 : w4.cell? ⟨b, 2, none⟩ = some (.slice a4 l4.length k4) := h6.r.cell rfl
        have c3 : w4.cell? ⟨b, 3, none⟩ = some (.int .i64 R.state) := h6.r.cell rfl
        have c1 : w4.cell? ⟨b, 1, none⟩ = some (.int .i64 R.number) := h6.r.cell rfl
        have f1 := h6.r.free (i := 1)
        have f2 := h6.r.free (i := 2)
        have f3 := h6.r.free (i := 3)
        have lb := h6.r.lt
        obtain ⟨a5, k5, rfl, -⟩ := h6.rowM_val
        rw [List.length_append, List.length_singleton] at H6
        clear h6
        go_wp2
        go_ret
        refine ⟨rfl, ?_⟩
        rw [HB.out, HLN.out]
        exact ⟨fun h => absurd (e2.symm.trans h) (by simp), _, .slice a5 (l4.length + 1) k5, v0, ls, k + 1, HTL.out.1, HTL.out.2, ((((H6.out.rot.set (i := 2)).set (i := 1)).set (i := 3)).of_eq (by simp only [rfO, rfC, e1, e2]; rfl))⟩
      · have HLN := Lib.hid (show lineM endl l = l4 by rw [lineM, if_neg hen, HL4.out.1])
        have HA := Lib.hid (HS2.out.rot.set (i := 2) (v := .slice a4 l4.length k4))
        have hcs : endl < 0 ∨ (0 ≤ endl ∧ 255 < endl) := by omega
        clear hen
        rcases hcs with hcs | ⟨hcs, hcs'⟩
        · have en1 : ¬ 0 ≤ endl := by omega
          go_wp2
          go_ret
          refine ⟨rfl, ?_⟩
          rw [HB.out, HLN.out]
          exact ⟨fun h => absurd (e2.symm.trans h) (by simp), _, .slice a4 l4.length k4, v0, ls, k + 1, HTL.out.1, HTL.out.2, ((HA.out.set (i := 1)).set (i := 3)).of_eq (by simp only [rfO, rfC, e1, e2]; rfl)⟩
        · have en1 : ¬ endl ≤ 255 := by omega
          go_wp2
          go_ret
          refine ⟨rfl, ?_⟩
          rw [HB.out, HLN.out]
          exact ⟨fun h => absurd (e2.symm.trans h) (by simp), _, .slice a4 l4.length k4, v0, ls, k + 1, HTL.out.1, HTL.out.2, ((HA.out.set (i := 1)).set (i := 3)).of_eq (by simp only [rfO, rfC, e1, e2]; rfl)⟩
end Go.Proofs.YtkfobimigiaknaaDoor
