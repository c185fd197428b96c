/-
  The laws CodesLetters, CodesNil, walked. Conditions: those that each theorem names.
-/
import Derived.Test.YtkfobimigiaknaaDoorCodP
namespace Go.Proofs.YtkfobimigiaknaaDoor
open Go.RowKit Go.Sp
variable {W w w' : World} {F F' : HProp}

set_option maxRecDepth 1000000 in
set_option maxHeartbeats 4000000 in
theorem good_any (C : List Int) (hC : C.length = 256) (h : Sat W F w) : Calls Tryd.prog 18 #[codesV C] w fun e w' => e = .returned (.bool (goodC C)) ∧ Sat W F w' := by
  have H0 := Lib.hid (h.alloc (codesO C 22))
  have HC := Lib.hid hC
  clear h hC
  obtain ⟨r, hr⟩ : ∃ r, goodC C = r := ⟨_, rfl⟩
  rw [hr]
  have HR := Lib.hid hr
  clear hr
  obtain ⟨bc, hbc⟩ : ∃ bc, w.heap.size = bc := ⟨_, rfl⟩
  rw [hbc] at H0
  have HBC := Lib.hid hbc
  go_enter Tryd.func18, Tryd.ntmps18
  go_wp2_with fail
  clear hbc
  go_loopg [3] 256 (fun g s3 wx => ∃ k : Nat, k ≤ 256 ∧ g = 256 - k ∧ s3 = .int .i64 k ∧ goodC (C.drop k) = goodC C ∧ Sat W (pts bc (codesO C 22) * F) wx)
  case atStart => exact ⟨0, by omega, rfl, rfl, rfl, H0.out⟩
  case round =>
    obtain ⟨k, hk, rfl, rfl, hg, hx⟩ := hrel
    have HG := Lib.hid hg
    have HX := Lib.hid hx
    clear hg hx
    by_cases hlt : k < 256
    · have i1 : (k : Int) < 256 := by omega
      have i2 : (0 : Int) ≤ (k : Int) := by omega
      have hkl : k < C.length := by rw [HC.out]; exact hlt
      have HGD := Lib.hid (goodC_drop C k hkl)
      have k0 : wr.cell? ⟨bc, k, none⟩ = some (.int .i64 C[k]) := HX.out.cell (by simp [hkl])
      have lb := HX.out.lt
      generalize C[k] = x at *
      clear hkl
      by_cases hx : 0 ≤ x ∧ x ≤ 15
      · have j1 : ¬ x < 0 := by omega
        have j2 : ¬ 15 < x := by omega
        have HG2 := Lib.hid (show goodC (C.drop (k + 1)) = goodC C by rw [← HG.out, HGD.out]; simp [hx])
        clear hx
        go_wp2
        go_roundg (256 - (k + 1))
        case measure => omega
        case rel => exact ⟨k + 1, by omega, rfl, by go_num, HG2.out, HX.out⟩
      · have HG2 := Lib.hid (show r = false by rw [← HR.out, ← HG.out, HGD.out]; simp [hx])
        have hxs : x < 0 ∨ (¬ x < 0 ∧ 15 < x) := by omega
        clear hx
        rcases hxs with j1 | ⟨j1, j2⟩
        all_goals
          go_wp2
          go_ret
          rw [HG2.out]
          exact ⟨rfl, HX.out.r⟩
    · have hk2 : 256 = k := by omega
      subst hk2
      have HG2 := Lib.hid (show r = true by rw [← HR.out, ← HG.out, List.drop_of_length_le (by rw [HC.out]; exact Nat.le_refl _)]; rfl)
      go_wp2
      go_ret
      rw [HG2.out]
      exact ⟨rfl, HX.out.r⟩

set_option maxRecDepth 1000000 in
set_option maxHeartbeats 8000000 in
theorem letters_any (C : List Int) (hC : C.length = 256) (text : List UInt8) (h : Sat W F w) : Calls Tryd.prog 6 #[(.string ⟨text.toArray⟩), codesV C] w fun e w' => e = .returned (.bool true) ∧ Sat W F w' := by
  obtain ⟨i0, hi, hz0, hz1, hz2⟩ := info_parts3 info_tok
  have HI := Lib.hid hi
  have HZ0 := Lib.hid hz0
  have HZ1 := Lib.hid hz1
  have HZ2 := Lib.hid hz2
  clear hi hz0 hz1 hz2
  have h0 := h.alloc (codesO C 22)
  have hblk := h0.blk
  have HGD := Lib.hid (good_any C hC h0)
  have HC := Lib.hid hC
  have HL := Lib.hid (fun w' (h : Sat W F w') => live_any h)
  have HA := Lib.hid (fun (F' : HProp) (w' : World) (h : Sat W F' w') => all_any C hC (-1) text h)
  have hsz : (⟨text.toArray⟩ : ByteArray).size = text.length := str_size text
  have HGET := Lib.hid (fun (i : Nat) (h : i < (⟨text.toArray⟩ : ByteArray).size) => Lib.getElem_mk text i h)
  obtain ⟨gd, hgd⟩ : ∃ gd, goodC C = gd := ⟨_, rfl⟩
  rw [hgd] at HGD
  obtain ⟨n, hn⟩ : ∃ n, text.length = n := ⟨_, rfl⟩
  rw [hn] at hsz
  have HN := Lib.hid hn
  have HG := Lib.hid hgd
  generalize (⟨text.toArray⟩ : ByteArray) = s at *
  obtain ⟨bc, hbc⟩ : ∃ bc, w.heap.size = bc := ⟨_, rfl⟩
  rw [hbc] at HGD hblk
  clear h h0 hC hgd hn
  go_enter Tryd.func6, Tryd.ntmps6
  go_wp2_with fail
  clear hbc
  refine wp_load_row 22 (.tmp 3) (by rfl) bc (by rfl) _ _ _ _ hblk Tryd.underlying22 (by rfl) ?_ ?_
  · rw [size_codes]; simp [HC.out]
  clear hblk
  go_wp2_with fail
  refine Calls.mono HGD.out ?_
  rintro e w1 ⟨rfl, h1⟩
  have H1 := Lib.hid h1
  clear h1
  by_cases hgn : gd = true ∧ n ≤ 20000
  · obtain ⟨rfl, hn2⟩ := hgn
    have i1 : ¬ (20000 : Int) < (n : Int) := by omega
    go_wp2_with fail
    go_loopg [5, 6] n (fun g s5 s6 wx => ∃ i : Nat, i ≤ n ∧ g = n - i ∧ s6 = .int .i64 i ∧ (∀ c ∈ text.take i, plainC C c) ∧ Sat W (rowT s5 (lettersT C (text.take i)) * (pts bc (codesO C 22) * F)) wx)
    case atStart => exact ⟨0, by omega, rfl, rfl, by simp, (Sat.row_nil (e := 31) (size := 3) H1.out)⟩
    case round =>
      obtain ⟨i, hi, rfl, rfl, hp, hx⟩ := hrel
      have HP := Lib.hid hp
      have HX := Lib.hid hx
      obtain ⟨va, vc, rfl, hvc⟩ := (rowT_rd hx).capd
      have lbc := hx.r.lt
      clear hp hx
      by_cases hlt : i < n
      · have j1 : (i : Int) < (n : Int) := by omega
        have hit : i < text.length := by rw [HN.out]; exact hlt
        have hget : s[i]'(by omega) = text[i] := by
          have := HGET.out i (by omega)
          rw [List.getElem?_eq_getElem hit] at this
          exact (Option.some.inj this).symm
        obtain ⟨c, hc⟩ : ∃ c, text[i] = c := ⟨_, rfl⟩
        have HTK := Lib.hid (show text.take (i + 1) = text.take i ++ [c] by rw [List.take_succ_eq_append_getElem hit, hc])
        have k0 := codes_cell HX.out.r HC.out c
        have hc8 : (c.toNat : Int) < 256 := by have := c.toNat_lt; omega
        have HTL := Lib.hid (show (lettersT C (text.take i)).length = i by simp [lettersT]; omega)
        have hlen : (lettersT C (text.take i)).length = i := HTL.out
        rw [hlen] at hvc
        clear hlen
        rw [hc] at hget
        have HCT := Lib.hid (show codeAt C c = codeAt C c from rfl)
        by_cases hpl : plainC C c
        · obtain ⟨p1, p2, p3⟩ := hpl
          have HPL := Lib.hid (show ∀ d ∈ text.take (i + 1), plainC C d by
            intro d hd
            rw [HTK.out, List.mem_append, List.mem_singleton] at hd
            rcases hd with hd | rfl
            · exact HP.out d hd
            · exact ⟨p1, p2, p3⟩)
          have q10 : ((c.toNat : Int) == 10) = false := by
            rw [beq_eq_false_iff_ne]; intro h; exact p2 (UInt8.toNat_inj.1 (by exact_mod_cast h))
          have q32 : ((c.toNat : Int) == 32) = false := by
            rw [beq_eq_false_iff_ne]; intro h; exact p3 (UInt8.toNat_inj.1 (by exact_mod_cast h))
          have HLT := Lib.hid (show lettersT C (text.take (i + 1)) = lettersT C (text.take i) ++ [charT (codeAt C c) c] by rw [HTK.out]; simp [lettersT])
          obtain ⟨k, hk⟩ : ∃ k, codeAt C c = k := ⟨_, rfl⟩
          rw [hk] at k0 HLT p1
          have hps : ((k != 11) = false) ∨ ((k != 11) = true ∧ (k != 12) = false) := by
            rcases p1 with rfl | rfl
            · left; rfl
            · right; exact ⟨rfl, rfl⟩
          clear hk p1 p2 p3 hc
          rcases hps with r1 | ⟨r1, r2⟩
          all_goals
            go_wp2_with (at_builtin; refine wpList_append_sep rfl _ _ 25 rfl i0 _ 32 Tryd.underlying25 HI.out HZ0.out HZ1.out HZ2.out rfl rfl HX.out.allocD ⟨wr.heap.size, 0, none⟩ 1 1 [.int .i64 k, .int .u8 c.toNat, .string ByteArray.empty] rfl rfl ?_ ?_ ?_ ?_ ?_)
            · intro j u hj; exact hj
            · simp [Value.oneCell']
            · rw [HTL.out]; simp [maxLen]; omega
            · rw [HTL.out]; omega
            intro v' w4 h6
            have H6 := Lib.hid (rowT_snoc (acc := lettersT C (text.take i)) (t := charT k c) h6 rfl rfl)
            clear h6
            go_wp2
            go_roundg (n - (i + 1))
            case measure => omega
            case rel => exact ⟨i + 1, by omega, rfl, by go_num, HPL.out, by rw [HLT.out]; exact H6.out⟩
        · have hps : ((codeAt C c != 11) = true ∧ (codeAt C c != 12) = true) ∨ ((((codeAt C c != 11) = false) ∨ ((codeAt C c != 11) = true ∧ (codeAt C c != 12) = false)) ∧ (((c.toNat : Int) == 10) = true ∨ (((c.toNat : Int) == 10) = false ∧ ((c.toNat : Int) == 32) = true))) := by
            by_cases a1 : codeAt C c = 11
            · right
              refine ⟨.inl (by simp [a1]), ?_⟩
              by_cases a2 : c = 10
              · subst a2; left; rfl
              · by_cases a3 : c = 32
                · subst a3; right; exact ⟨rfl, rfl⟩
                · exact absurd ⟨.inl a1, a2, a3⟩ hpl
            · by_cases a4 : codeAt C c = 12
              · right
                refine ⟨.inr ⟨by simp [a1], by simp [a4]⟩, ?_⟩
                by_cases a2 : c = 10
                · subst a2; left; rfl
                · by_cases a3 : c = 32
                  · subst a3; right; exact ⟨rfl, rfl⟩
                  · exact absurd ⟨.inr a4, a2, a3⟩ hpl
              · left; exact ⟨by simpa using a1, by simpa using a4⟩
          obtain ⟨k, hk⟩ : ∃ k, codeAt C c = k := ⟨_, rfl⟩
          rw [hk] at k0 hps
          clear hk hpl hc
          rcases hps with ⟨r1, r2⟩ | ⟨r1 | ⟨r1, r2⟩, r3 | ⟨r3, r4⟩⟩
          all_goals
            go_wp2_with fail
            refine Calls.mono (HL.out _ HX.out.r.r) ?_
            rintro e w2 ⟨rfl, h2⟩
            go_wp2
            go_ret
            exact ⟨rfl, h2⟩
      · have hin : n = i := by omega
        subst hin
        have htk : text.take n = text := List.take_of_length_le (by rw [HN.out]; exact Nat.le_refl _)
        have hp := HP.out
        have hx := HX.out
        rw [htk] at hp hx
        have hll : (lettersT C (text.take n)).length = (lettersT C text).length := by rw [htk]
        have ha := HA.out _ _ hx
        rw [letters_all HG.out text hp (by rw [HN.out]; exact hn2)] at ha
        rw [hll]
        have HA2 := Lib.hid ha
        have hblk := hx.r.blk
        have HLL := Lib.hid (show (lettersT C text).length ≤ 20000 by simp [lettersT]; have := HN.out; omega)
        clear htk hp hx ha hll HX HA lbc hvc
        generalize lettersT C text = LT at *
        go_wp2_with fail
        refine wp_load_row 22 (.tmp 3) (by rfl) bc (by rfl) _ _ _ _ hblk Tryd.underlying22 (by rfl) ?_ ?_
        · rw [size_codes]; simp [HC.out]
        clear hblk
        go_wp2_with fail
        refine Calls.mono HA2.out ?_
        rintro e w2 ⟨v2, rfl, h2⟩
        have H2 := Lib.hid h2.r.r.r
        have hsm := same_any LT LT v2 (.slice va LT.length vc) _ (rowT_rd h2) (rowT_rd h2.r)
        rw [decide_eq_true rfl] at hsm
        have HSM := Lib.hid hsm
        clear h2 hsm
        go_wp2_with (go_at_call 16; refine Calls.mono (num_any _ _) ?_; rintro e w' ⟨rfl, rfl⟩)
        refine Calls.mono HSM.out ?_
        rintro e w3 ⟨rfl, q, rfl⟩
        go_wp2_with fail
        refine Calls.mono (HL.out _ H2.out.drewN) ?_
        rintro e w4 ⟨rfl, h4⟩
        go_wp2
        go_ret
        exact ⟨rfl, h4⟩
  · have hps : (gd = false) ∨ (gd = true ∧ (20000 : Int) < (n : Int)) := by
      cases gd
      · exact .inl rfl
      · right; exact ⟨rfl, by simp at hgn; omega⟩
    clear hgn
    rcases hps with rfl | ⟨rfl, i1⟩
    all_goals
      go_wp2_with fail
      refine Calls.mono (HL.out _ H1.out.r) ?_
      rintro e w2 ⟨rfl, h2⟩
      go_wp2
      go_ret
      exact ⟨rfl, h2⟩

end Go.Proofs.YtkfobimigiaknaaDoor
