import Derived.Test.YticljfpippbkkaaMNA
import Derived.Laws.RangeString
import Derived.Laws.Runes
import Derived.Lib.TrimByte
import Derived.Deep.LoopGhost
import Derived.Deep.DeepCutAuto
import Derived.Deep.CutBlock
import Derived.Test.YticljfpippbkkaaMNKW
/-
  The document's keywords. Conditions: those that each theorem names.
-/
namespace Go.Proofs.Yticljfpippbkkaa
open Go.RowKit Go.Sp
variable {W w w' : World} {A : HProp}

def lowB (c : UInt8) : Bool := decide (97 ≤ c.toNat) && decide (c.toNat ≤ 122)
def wordB (l : List UInt8) : Bool := l.all lowB && (decide (1 ≤ l.length) && decide (l.length ≤ 20))
theorem all_of {l : List UInt8} {p : UInt8 → Bool} (h : ∀ i (hi : i < l.length), p l[i] = true) : l.all p = true := by
  rw [List.all_eq_true]
  intro x hx
  obtain ⟨i, hi, rfl⟩ := List.getElem_of_mem hx
  exact h i hi
theorem all_no {l : List UInt8} {p : UInt8 → Bool} {i : Nat} (hi : i < l.length) (h : p l[i] = false) : l.all p = false := by
  rw [List.all_eq_false]
  exact ⟨l[i], List.getElem_mem hi, by rw [h]; decide⟩

set_option maxRecDepth 100000 in
set_option maxHeartbeats 4000000 in
theorem refword_any (l : List UInt8) (hlen : l.length ≤ 2000000) (w : World) : Calls Try.prog 33 #[(.string ⟨l.toArray⟩)] w fun e w' => e = .returned (.bool (wordB l)) ∧ w = w' := by
  have hsz : (⟨l.toArray⟩ : ByteArray).size = l.length := by simp [ByteArray.size]
  have HGET := Lib.hid (fun (i : Nat) (h : i < (⟨l.toArray⟩ : ByteArray).size) => Lib.getElem_mk l i h)
  obtain ⟨n, hn⟩ : ∃ n, l.length = n := ⟨_, rfl⟩
  rw [hn] at hsz hlen
  have HN := Lib.hid hn
  obtain ⟨r, hr⟩ : ∃ r, wordB l = r := ⟨_, rfl⟩
  rw [hr]
  have HR := Lib.hid hr
  generalize (⟨l.toArray⟩ : ByteArray) = s at *
  clear hn hr
  go_enter Try.func33, Try.ntmps33
  go_wp2_with fail
  go_loopg [3] n (fun gg s3 wx => ∃ k : Nat, k ≤ n ∧ gg = n - k ∧ s3 = .int .i64 k ∧ (∀ i (hi : i < l.length), i < k → lowB l[i] = true) ∧ wx = w)
  case atStart => exact ⟨0, by omega, rfl, by go_num, fun i _ h => by omega, rfl⟩
  case round =>
    obtain ⟨k, hk, hg, rfl, hall, rfl⟩ := hrel
    have HA := Lib.hid hall
    clear hall
    by_cases hlt : k < n
    · have hkl : k < l.length := by rw [HN.out]; exact hlt
      obtain ⟨c, hc⟩ : ∃ c, l[k] = c := ⟨_, rfl⟩
      have hget : s[k]'(by omega) = c := by
        have := HGET.out k (by omega)
        rw [List.getElem?_eq_getElem hkl, hc] at this
        exact (Option.some.inj this).symm
      have HC := Lib.hid hc
      have i1 : (k : Int) < (n : Int) := by omega
      clear hc
      by_cases h1 : 97 ≤ c.toNat
      · have j1 : (97 : Int) ≤ (c.toNat : Int) := by omega
        by_cases h2 : c.toNat ≤ 122
        · have j2 : (c.toNat : Int) ≤ 122 := by omega
          have HA2 := Lib.hid (show ∀ i (hi : i < l.length), i < k + 1 → lowB l[i] = true from fun i hi h => by
            by_cases he : i = k
            · subst he; rw [HC.out]; simp [lowB, h1, h2]
            · exact HA.out i hi (by omega))
          clear h1 h2 HA HC hkl
          go_wp2
          go_roundg (n - (k + 1))
          case measure => omega
          case rel => exact ⟨k + 1, by omega, rfl, by go_num, HA2.out, rfl⟩
        · have j2 : ¬ (c.toNat : Int) ≤ 122 := by omega
          have HF := Lib.hid (show r = false by rw [← HR.out, wordB, all_no hkl (by rw [HC.out]; simp [lowB, h2])]; rfl)
          clear h1 h2 HA HC hkl
          go_wp2
          go_ret
          exact ⟨by rw [HF.out]; rfl, rfl⟩
      · have j1 : ¬ (97 : Int) ≤ (c.toNat : Int) := by omega
        have HF := Lib.hid (show r = false by rw [← HR.out, wordB, all_no hkl (by rw [HC.out]; simp [lowB, h1])]; rfl)
        clear h1 HA HC hkl
        go_wp2
        go_ret
        exact ⟨by rw [HF.out]; rfl, rfl⟩
    · have hkn : n = k := by omega
      subst hkn
      have HT := Lib.hid (show r = (decide (1 ≤ n) && decide (n ≤ 20)) by
        rw [← HR.out, wordB, all_of (fun i hi => HA.out i hi (by rw [← HN.out]; exact hi)), HN.out]; rfl)
      by_cases h1 : 1 ≤ n
      · have j1 : (1 : Int) ≤ (n : Int) := by omega
        by_cases h2 : n ≤ 20
        · have j2 : (n : Int) ≤ 20 := by omega
          have HF := Lib.hid (show r = true by rw [HT.out]; simp [h1, h2])
          clear h1 h2 HT
          go_wp2
          go_ret
          exact ⟨by rw [HF.out]; rfl, rfl⟩
        · have j2 : ¬ (n : Int) ≤ 20 := by omega
          have HF := Lib.hid (show r = false by rw [HT.out]; simp [h2])
          clear h1 h2 HT
          go_wp2
          go_ret
          exact ⟨by rw [HF.out]; rfl, rfl⟩
      · have j1 : ¬ (1 : Int) ≤ (n : Int) := by omega
        have HF := Lib.hid (show r = false by rw [HT.out]; simp [h1])
        clear h1 HT
        go_wp2
        go_ret
        exact ⟨by rw [HF.out]; rfl, rfl⟩

abbrev rlO (v : Value) (sh : Bool) : Obj := .cells #[v, .bool sh] 48
set_option maxRecDepth 100000 in
theorem refblank_any (x : Tok) (w : World) : Calls Try.prog 51 #[x.val] w fun e w' => e = .returned (.bool (blankB x)) ∧ Ext w w' := by
  have h1 := (Sat.start w).alloc x.box
  have HX := Lib.hid h1.r.toExt
  clear h1
  go_enter Try.func51, Try.ntmps51
  go_wp2
  go_ret
  exact ⟨rfl, HX.out⟩
theorem blanksM_cons {x : Tok} {l : List Tok} (h : blankB x = true) : blanksM (x :: l) = blanksM l := by rw [blanksM, if_pos h]
theorem blanksM_not {x : Tok} {l : List Tok} (h : blankB x = false) : blanksM (x :: l) = x :: l := by rw [blanksM, if_neg (by rw [h]; decide)]

set_option maxRecDepth 100000 in
set_option maxHeartbeats 4000000 in
theorem refskip_any {b k m cap : Nat} {a : Option Addr} {sh : Bool} {L : List Tok} (hm : L.length = m) (hk : k ≤ m) (hc : m ≤ cap) (h : Sat W (pts b (rlO (.slice a m cap) sh) * A) w) :
    Calls Try.prog 52 #[.pointer (some ⟨b, 0, none⟩), .int .i64 k] w fun e w' => e = .returned (.tuple #[]) ∧ ∃ v', (∀ w', RdT w' (.slice a m cap) L → RdT w' v' (L.drop k)) ∧ Sat W (pts b (rlO v' sh) * A) w' := by
  have hd := fun (w' : World) (h : RdT w' (.slice a m cap) L) => RdT.dropI h (m := k) (by omega)
  have c0 := h.cell (i := 0) rfl
  have f0 := h.free (i := 0)
  have lb := h.lt
  have H := Lib.hid h
  have HD := Lib.hid hd
  have i1 : (k : Int) ≤ (m : Int) := by omega
  have i2 : (m : Int) ≤ (cap : Int) := by omega
  clear h hd
  by_cases he : cap = k
  · have et : (cap = k) = True := by simp [he]
    have HS := Lib.hid (H.out.set (i := 0) (v := .slice a (m - k) (cap - k)))
    have HD2 := Lib.hid (show ∀ w' : World, RdT w' (.slice a m cap) L → RdT w' (.slice a (m - k) (cap - k)) (L.drop k) from fun w' h => by
      have := HD.out w' h
      simpa [sliced, he] using this)
    clear HD he
    go_enter Try.func52, Try.ntmps52
    go_wp2
    exact bodyPost_end (v := .tuple #[]) (by unfold results; go_simp) rfl ⟨rfl, _, HD2.out, HS.out⟩
  · have et : (cap = k) = False := by simp [he]
    have HS := Lib.hid (H.out.set (i := 0) (v := .slice (a.map (·.add (k * 3))) (m - k) (cap - k)))
    have HD2 := Lib.hid (show ∀ w' : World, RdT w' (.slice a m cap) L → RdT w' (.slice (a.map (·.add (k * 3))) (m - k) (cap - k)) (L.drop k) from fun w' h => by
      have := HD.out w' h
      simpa [sliced, he] using this)
    clear HD he
    go_enter Try.func52, Try.ntmps52
    go_wp2
    exact bodyPost_end (v := .tuple #[]) (by unfold results; go_simp) rfl ⟨rfl, _, HD2.out, HS.out⟩
theorem sub32 (c : UInt8) : IntKind.u8.wrap ((c.toNat : Int) - 32) = ((c - 97 + 65).toNat : Int) := by
  have H : ∀ n : Nat, n < 256 → IntKind.u8.wrap ((n : Int) - 32) = (((UInt8.ofNat n) - 97 + 65).toNat : Int) := by decide +kernel
  have := H c.toNat c.toNat_lt
  simpa using this
set_option maxRecDepth 100000 in
set_option maxHeartbeats 8000000 in
theorem refkey_any {b : Nat} {v : Value} {sh : Bool} {L : List Tok} {wd : List UInt8} (hw : wd.length ≤ 1000) (hl : L.length ≤ 2000000) {Pr : World → Prop} (hp : ∀ w', Sat W A w' → Pr w') (hv : ∀ w', Pr w' → RdT w' v L) (h : Sat W (pts b (rlO v sh) * A) w) :
    Calls Try.prog 34 #[.pointer (some ⟨b, 0, none⟩), (.string ⟨wd.toArray⟩)] w fun e w' => e = .returned (.bool (keyM wd L).isSome) ∧ ∃ v' sh', (∀ w', Pr w' → RdT w' v' ((keyM wd L).getD L)) ∧ Sat W (pts b (rlO v' sh') * A) w' := by
  have hsz : (⟨wd.toArray⟩ : ByteArray).size = wd.length := by simp [ByteArray.size]
  have HGET := Lib.hid (fun (i : Nat) (h : i < (⟨wd.toArray⟩ : ByteArray).size) => Lib.getElem_mk wd i h)
  obtain ⟨n, hn⟩ : ∃ n, wd.length = n := ⟨_, rfl⟩
  rw [hn] at hsz hw
  have HN := Lib.hid hn
  obtain ⟨m, hm⟩ : ∃ m, L.length = m := ⟨_, rfl⟩
  have HM := Lib.hid hm
  rw [hm] at hl
  obtain ⟨r, hr⟩ : ∃ r, keyM wd L = r := ⟨_, rfl⟩
  rw [hr]
  have HR := Lib.hid hr
  obtain ⟨a, cap, hva, hcap⟩ := (hv _ (hp _ h.r)).capd
  rw [hm] at hva hcap
  have HCAP := Lib.hid hcap
  subst hva
  have HV := Lib.hid hv
  have HPR := Lib.hid hp
  have H := Lib.hid h
  generalize (⟨wd.toArray⟩ : ByteArray) = s at *
  clear hn hr hm h hv hp hcap
  go_enter Try.func34, Try.ntmps34
  go_wp2_with fail
  go_loopg [5] m (fun gg s5 wx => ∃ i : Nat, i ≤ m ∧ gg = m - i ∧ s5 = .int .i64 i ∧ blanksM L = blanksM (L.drop i) ∧ Sat W (pts b (rlO (.slice a m cap) sh) * A) wx)
  case atStart => exact ⟨0, by omega, rfl, by go_num, rfl, H.out⟩
  case round =>
    obtain ⟨i, hi, hg, rfl, hb, hx⟩ := hrel
    have HB := Lib.hid hb
    have HX := Lib.hid hx
    have c0 := hx.cell (i := 0) rfl
    have lb := hx.lt
    clear hb hx H
    by_cases hlt : i < m
    · have hil : i < L.length := by rw [HM.out]; exact hlt
      obtain ⟨g, o, hga, hat, hgl⟩ := (HM.out ▸ HV.out _ (HPR.out _ HX.out.r) : RdT wr (.slice a m cap) L).at hil
      subst hga
      obtain ⟨⟨xc, xk, xn⟩, hxt⟩ : ∃ x, L[i] = x := ⟨_, rfl⟩
      rw [hxt] at hat
      have a0 := hat.c0
      have a1 := hat.c1
      have a2 := hat.c2
      have HD := Lib.hid (show L.drop i = ⟨xc, xk, xn⟩ :: L.drop (i + 1) by rw [List.drop_eq_getElem_cons hil, hxt])
      have i1 : (i : Int) < (m : Int) := by omega
      have HBK := Lib.hid (refblank_any ⟨xc, xk, xn⟩ wr)
      clear hat hxt hil
      obtain ⟨bb, hbb⟩ : ∃ bb, blankB ⟨xc, xk, xn⟩ = bb := ⟨_, rfl⟩
      rw [hbb] at HBK
      have HBB := Lib.hid hbb
      clear hbb
      go_wp2_with fail
      with_reducible refine Calls.mono HBK.out ?_
      rintro e w1 ⟨rfl, x1⟩
      have HX2 := Lib.hid (HX.out.ext x1)
      clear x1 HBK HX c0 lb a0 a1 a2 hgl
      cases bb
      · have HB2 := Lib.hid (show blanksM L = L.drop i by rw [HB.out, HD.out, blanksM_not HBB.out])
        clear HB HD HBB
        go_wp2_with fail
        generalize (some (⟨g, o, none⟩ : Addr)) = a at *
        have HK0 := Lib.hid (show r = keyGo wd (L.drop i) by rw [← HR.out, keyM, HB2.out])
        clear HB2 HR
        go_loopg [6] n (fun gg s6 wx => ∃ k : Nat, k ≤ n ∧ gg = n - k ∧ s6 = .int .i64 k ∧ r = keyGo (wd.drop k) (L.drop (i + k)) ∧ i + k ≤ m ∧ Sat W (pts b (rlO (.slice a m cap) sh) * A) wx)
        case atStart => exact ⟨0, by omega, rfl, by go_num, HK0.out, by omega, HX2.out⟩
        case round =>
          obtain ⟨k, hk, hg, rfl, hb, hik, hx⟩ := hrel
          have HB3 := Lib.hid hb
          have HX3 := Lib.hid hx
          have c0 := hx.cell (i := 0) rfl
          have c1 := hx.cell (i := 1) rfl
          have f1 := hx.free (i := 1)
          have lb := hx.lt
          clear hb hx HX2 HK0
          by_cases hkn : k < n
          · have hkl : k < wd.length := by rw [HN.out]; exact hkn
            obtain ⟨c, hc⟩ : ∃ c, wd[k] = c := ⟨_, rfl⟩
            have hget : s[k]'(by omega) = c := by
              have := HGET.out k (by omega)
              rw [List.getElem?_eq_getElem hkl, hc] at this
              exact (Option.some.inj this).symm
            have HW := Lib.hid (show wd.drop k = c :: wd.drop (k + 1) by rw [List.drop_eq_getElem_cons hkl, hc])
            have i2 : (k : Int) < (n : Int) := by omega
            have e1 : (i : Int) + (k : Int) = ((i + k : Nat) : Int) := by omega
            obtain ⟨p, hp⟩ : ∃ p, i + k = p := ⟨_, rfl⟩
            rw [hp] at HB3 e1 hik
            have HP := Lib.hid hp
            clear hc hkl hp
            by_cases hpm : p < m
            · skip
              have hil : p < L.length := by rw [HM.out]; exact hpm
              obtain ⟨g, o, hga, hat, hgl⟩ := (HM.out ▸ HV.out _ (HPR.out _ HX3.out.r) : RdT wr (.slice a m cap) L).at hil
              subst hga
              obtain ⟨⟨xc, xk, xn⟩, hxt⟩ : ∃ x, L[p] = x := ⟨_, rfl⟩
              rw [hxt] at hat
              have a0 := hat.c0
              have a1 := hat.c1
              have a2 := hat.c2
              have HD := Lib.hid (show L.drop p = ⟨xc, xk, xn⟩ :: L.drop (p + 1) by rw [List.drop_eq_getElem_cons hil, hxt])
              have i1 : (p : Int) < (m : Int) := by omega
              clear hat hxt hil
              go_upto_region 11 with fail
              obtain ⟨b7, hb7⟩ : ∃ b7, wr.heap.size = b7 := ⟨_, rfl⟩
              have h7 := HX3.out.alloc (Tok.box ⟨xc, xk, xn⟩)
              obtain ⟨w2, hw2⟩ : ∃ w2, wr.alloc (Tok.box ⟨xc, xk, xn⟩) = w2 := ⟨_, rfl⟩
              rw [hw2, hb7] at h7
              rw [show wr.alloc (.cells #[.int .i64 xc, .int .u8 xk.toNat, .string xn] 28) = w2 from hw2, hb7]
              have d0 := h7.cell (i := 0) rfl
              have d1 := h7.cell (i := 1) rfl
              have ld := h7.lt
              have HX4 := Lib.hid h7.r
              clear h7 hw2 hb7 a0 a1 a2 c0 c1 f1 lb HX3 hgl
              obtain ⟨d, hd⟩ : ∃ d, c - 97 + 65 = d := ⟨_, rfl⟩
              have s1 : IntKind.u8.wrap ((c.toNat : Int) - 32) = d.toNat := by rw [← hd]; exact sub32 c
              have s2 : ((c.toNat : Int) - 32) % 256 = d.toNat := by rw [← s1]; rfl
              have HC := Lib.hid hd
              clear hd
              have hgood : (xc = 11 ∨ xc = 12) → (xk = c ∨ xk = d) → r = keyGo (wd.drop (k + 1)) (L.drop (p + 1)) := fun h1 h2 => by
                rw [HB3.out, HW.out, HD.out, keyGo, if_pos ⟨h1, by rw [HC.out]; exact h2⟩]
              have hbad : ¬ ((xc = 11 ∨ xc = 12) ∧ (xk = c ∨ xk = d)) → r = none := fun h => by
                rw [HB3.out, HW.out, HD.out, keyGo, if_neg (by rw [HC.out]; exact h)]
              have hne : ∀ x y : UInt8, ¬ x = y → ((x.toNat : Int) != (y.toNat : Int)) = true ∧ ¬ (x.toNat : Int) = (y.toNat : Int) := fun x y h => by
                have h2 : ¬ (x.toNat : Int) = (y.toNat : Int) := fun h3 => h (UInt8.toNat_inj.1 (by omega))
                exact ⟨by simpa using h2, h2⟩
              have hcat : ((xc != 11) = false ∧ (xc = 11 ∨ xc = 12)) ∨ (((xc != 11) = true ∧ (xc != 12) = false) ∧ ¬ xc = 11 ∧ (xc = 11 ∨ xc = 12)) ∨ (((xc != 11) = true ∧ (xc != 12) = true) ∧ (¬ xc = 11 ∧ ¬ xc = 12)) := by
                by_cases h1 : xc = 11
                · exact .inl ⟨by simp [h1], .inl h1⟩
                · by_cases h2 : xc = 12
                  · exact .inr (.inl ⟨⟨by simp [h1], by simp [h2]⟩, h1, .inr h2⟩)
                  · exact .inr (.inr ⟨⟨by simp [h1], by simp [h2]⟩, h1, h2⟩)
              rcases hcat with ⟨q1, hc1⟩ | ⟨⟨q1, q2⟩, n1, hc1⟩ | ⟨⟨q1, q2⟩, n1, n2⟩
              case inr.inr =>
                have HN0 := Lib.hid (hbad fun h => h.1.elim n1 n2)
                clear hgood hbad hne HB3 HC HW HD
                go_wp2
                go_quiet (fail)
                go_wp2
                go_ret
                rw [HN0.out]
                exact ⟨rfl, _, sh, HV.out, HX4.out.drewN⟩
              all_goals
                have HC1 := Lib.hid hc1
                clear hc1
                by_cases g1 : xk = c
                · have HG := Lib.hid (hgood HC1.out (.inl g1))
                  have g2 : (xk.toNat : Int) = (c.toNat : Int) := by rw [g1]
                  have q3 : ((xk.toNat : Int) != (c.toNat : Int)) = false := by rw [g2]; simp
                  clear hgood hbad hne HB3 HC HW HD g1 HC1
                  go_wp2
                  go_quiet (fail)
                  go_wp2
                  go_roundg (n - (k + 1))
                  case measure => omega
                  case rel => exact ⟨k + 1, by omega, rfl, by go_num, by rw [HG.out, ← HP.out]; rfl, by have := HP.out; omega, HX4.out.drewN⟩
                · by_cases g3 : xk = d
                  · have HG := Lib.hid (hgood HC1.out (.inr g3))
                    obtain ⟨q3, n3⟩ := hne _ _ g1
                    clear hgood hbad hne HB3 HC HW HD g1 HC1
                    subst g3
                    go_wp2
                    go_quiet (fail)
                    go_wp2
                    go_roundg (n - (k + 1))
                    case measure => omega
                    case rel => exact ⟨k + 1, by omega, rfl, by go_num, by rw [HG.out, ← HP.out]; rfl, by have := HP.out; omega, HX4.out.drewN⟩
                  · have HN0 := Lib.hid (hbad fun h => h.2.elim g1 g3)
                    obtain ⟨q3, n3⟩ := hne _ _ g1
                    obtain ⟨q4, n4⟩ := hne _ _ g3
                    clear hgood hbad hne HB3 HC HW HD g1 g3 HC1
                    go_wp2
                    go_quiet (fail)
                    go_wp2
                    go_ret
                    rw [HN0.out]
                    exact ⟨rfl, _, sh, HV.out, HX4.out.drewN⟩
            · skip
              have hpe : p = m := by omega
              subst hpe
              have hd : L.drop p = [] := List.drop_of_length_le (by rw [HM.out]; exact Nat.le_refl _)
              have HN0 := Lib.hid (show r = none by rw [HB3.out, HW.out, hd]; rfl)
              have HX4 := Lib.hid (HX3.out.set (i := 1) (v := .bool true))
              clear hd HB3 HW HX3
              go_wp2
              go_ret
              rw [HN0.out]
              exact ⟨rfl, _, true, HV.out, HX4.out⟩
          · skip
            have hkn2 : n = k := by omega
            subst hkn2
            have HN0 := Lib.hid (show r = some (L.drop (i + n)) by rw [HB3.out, List.drop_of_length_le (by rw [HN.out]; exact Nat.le_refl _)]; rfl)
            have HSK := Lib.hid (refskip_any (k := i + n) HM.out hik HCAP.out HX3.out)
            have e1 : (i : Int) + (n : Int) = ((i + n : Nat) : Int) := by omega
            clear HB3 HX3 c0 c1 f1 lb
            obtain ⟨q, hq⟩ : ∃ q, i + n = q := ⟨_, rfl⟩
            rw [hq] at HN0 HSK e1
            clear hq
            go_wp2_with fail
            with_reducible refine Calls.mono HSK.out ?_
            rintro e w3 ⟨rfl, v', hd, h3⟩
            have HD3 := Lib.hid hd
            have H3 := Lib.hid h3
            clear hd h3 HSK
            go_wp2
            go_ret
            rw [HN0.out]
            exact ⟨rfl, v', sh, fun w' h => HD3.out w' (HV.out w' h), H3.out⟩
      · have HB2 := Lib.hid (show blanksM L = blanksM (L.drop (i + 1)) by rw [HB.out, HD.out, blanksM_cons HBB.out])
        clear HB HD HBB
        go_wp2
        go_roundg (m - (i + 1))
        case measure => omega
        case rel => exact ⟨i + 1, by omega, rfl, by go_num, HB2.out, HX2.out⟩
    · have him : m = i := by omega
      subst him
      have hd : L.drop m = [] := List.drop_of_length_le (by rw [HM.out]; exact Nat.le_refl _)
      have HB2 := Lib.hid (show blanksM L = L.drop m by rw [HB.out, hd]; rfl)
      have HX2 := Lib.hid HX.out
      clear hd HB HX
      go_wp2_with fail
      clear c0 lb
      have HK0 := Lib.hid (show r = keyGo wd (L.drop m) by rw [← HR.out, keyM, HB2.out])
      clear HB2 HR
      go_loopg [6] n (fun gg s6 wx => ∃ k : Nat, k ≤ n ∧ gg = n - k ∧ s6 = .int .i64 k ∧ r = keyGo (wd.drop k) (L.drop (m + k)) ∧ m + k ≤ m ∧ Sat W (pts b (rlO (.slice a m cap) sh) * A) wx)
      case atStart => exact ⟨0, by omega, rfl, by go_num, HK0.out, by omega, HX2.out⟩
      case round =>
        obtain ⟨k, hk, hg, rfl, hb, hik, hx⟩ := hrel
        have HB3 := Lib.hid hb
        have HX3 := Lib.hid hx
        have c0 := hx.cell (i := 0) rfl
        have c1 := hx.cell (i := 1) rfl
        have f1 := hx.free (i := 1)
        have lb := hx.lt
        clear hb hx HX2 HK0
        by_cases hkn : k < n
        · have hkl : k < wd.length := by rw [HN.out]; exact hkn
          obtain ⟨c, hc⟩ : ∃ c, wd[k] = c := ⟨_, rfl⟩
          have hget : s[k]'(by omega) = c := by
            have := HGET.out k (by omega)
            rw [List.getElem?_eq_getElem hkl, hc] at this
            exact (Option.some.inj this).symm
          have HW := Lib.hid (show wd.drop k = c :: wd.drop (k + 1) by rw [List.drop_eq_getElem_cons hkl, hc])
          have i2 : (k : Int) < (n : Int) := by omega
          have e1 : (m : Int) + (k : Int) = ((m + k : Nat) : Int) := by omega
          obtain ⟨p, hp⟩ : ∃ p, m + k = p := ⟨_, rfl⟩
          rw [hp] at HB3 e1 hik
          have HP := Lib.hid hp
          clear hc hkl hp
          by_cases hpm : p < m
          · exact absurd hpm (by have := HP.out; omega)
          · skip
            have hpe : p = m := by omega
            subst hpe
            have hd : L.drop p = [] := List.drop_of_length_le (by rw [HM.out]; exact Nat.le_refl _)
            have HN0 := Lib.hid (show r = none by rw [HB3.out, HW.out, hd]; rfl)
            have HX4 := Lib.hid (HX3.out.set (i := 1) (v := .bool true))
            clear hd HB3 HW HX3
            go_wp2
            go_ret
            rw [HN0.out]
            exact ⟨rfl, _, true, HV.out, HX4.out⟩
        · skip
          have hkn2 : n = k := by omega
          subst hkn2
          have HN0 := Lib.hid (show r = some (L.drop (m + n)) by rw [HB3.out, List.drop_of_length_le (by rw [HN.out]; exact Nat.le_refl _)]; rfl)
          have HSK := Lib.hid (refskip_any (k := m + n) HM.out hik HCAP.out HX3.out)
          have e1 : (m : Int) + (n : Int) = ((m + n : Nat) : Int) := by omega
          clear HB3 HX3 c0 c1 f1 lb
          obtain ⟨q, hq⟩ : ∃ q, m + n = q := ⟨_, rfl⟩
          rw [hq] at HN0 HSK e1
          clear hq
          go_wp2_with fail
          with_reducible refine Calls.mono HSK.out ?_
          rintro e w3 ⟨rfl, v', hd, h3⟩
          have HD3 := Lib.hid hd
          have H3 := Lib.hid h3
          clear hd h3 HSK
          go_wp2
          go_ret
          rw [HN0.out]
          exact ⟨rfl, v', sh, fun w' h => HD3.out w' (HV.out w' h), H3.out⟩
end Go.Proofs.Yticljfpippbkkaa

/-
  NumbersKeys, the walk. Conditions: those that each theorem names.
-/
namespace Go.Proofs.Yticljfpippbkkaa
open Go.RowKit Go.Sp
variable {W w w' : World} {A : HProp} {bs : Nat} {L : List Tok}

theorem wordB_len {l : List UInt8} (h : wordB l = true) : l ≠ [] ∧ l.length ≤ 1000 := by
  simp only [wordB, Bool.and_eq_true, decide_eq_true_eq] at h
  refine ⟨?_, by omega⟩
  rintro rfl
  simp at h
set_option maxRecDepth 100000 in
set_option maxHeartbeats 8000000 in
theorem refKeyword_any {b : Nat} {v : Value} {sh : Bool} {wd : List UInt8} (hwl : wd.length ≤ 2000000) (hl : L.length ≤ 2000000) {Pr : World → Prop} (hp : ∀ w', Sat W A w' → Pr w') (hv : ∀ w', Pr w' → RdT w' v L) (h : Sat W (pts b (rlO v sh) * A) w) :
    Calls Try.prog 20 #[.pointer (some ⟨b, 0, none⟩), (.string ⟨wd.toArray⟩)] w fun e w' => e = .returned (.tuple #[.bool (wordB wd && (keyM wd L).isSome), .int .i64 (if wordB wd = true then 0 else 1)]) ∧ ∃ v' sh', (∀ w', Pr w' → RdT w' v' (if wordB wd = true then (keyM wd L).getD L else L)) ∧ Sat W (pts b (rlO v' sh') * A) w' := by
  have HW := Lib.hid (refword_any wd hwl w)
  have H := Lib.hid h
  have HV := Lib.hid hv
  cases hg : wordB wd
  · rw [hg] at HW
    simp only [Bool.false_and]
    rw [if_neg (by decide), if_neg (by decide)]
    generalize (⟨wd.toArray⟩ : ByteArray) = s at *
    clear h hv hp hg
    go_enter Try.func20, Try.ntmps20
    go_wp2_with fail
    with_reducible refine Calls.mono HW.out ?_
    rintro e w1 ⟨rfl, rfl⟩
    go_wp2
    exact bodyPost_ret (v := .tuple #[.bool false, .int .i64 1]) (by unfold results; go_simp) rfl ⟨rfl, v, sh, HV.out, H.out⟩
  · have HK := Lib.hid (refkey_any (wordB_len hg).2 hl hp hv h)
    rw [hg] at HW
    simp only [Bool.true_and, if_true]
    generalize (keyM wd L).isSome = r at *
    generalize (⟨wd.toArray⟩ : ByteArray) = s at *
    clear h hv hp hg
    go_enter Try.func20, Try.ntmps20
    go_wp2_with fail
    with_reducible refine Calls.mono HW.out ?_
    rintro e w1 ⟨rfl, rfl⟩
    go_wp2_with fail
    with_reducible refine Calls.mono HK.out ?_
    rintro e w2 ⟨rfl, v', sh', h3, h4⟩
    have H3 := Lib.hid h3
    have H4 := Lib.hid h4
    clear h3 h4 HK
    go_wp2
    exact bodyPost_ret (v := .tuple #[.bool r, .int .i64 0]) (by unfold results; go_simp) rfl ⟨rfl, v', sh', H3.out, H4.out⟩
set_option maxRecDepth 100000 in
set_option maxHeartbeats 8000000 in
theorem nKeyword_any {wd : List UInt8} (hwl : wd.length ≤ 2000000) (hl : L.length ≤ 2000000) (h : LsAt W A bs L w) :
    Calls Try.prog 19 #[srcV bs, (.string ⟨wd.toArray⟩)] w fun e w' => e = .returned (.tuple #[.bool (wordB wd && (keyM wd L).isSome), .int .i64 (if wordB wd = true then 0 else 1)]) ∧ LsAt W A bs (if wordB wd = true then (keyM wd L).getD L else L) w' := by
  have hsz : (⟨wd.toArray⟩ : ByteArray).size = wd.length := by simp [ByteArray.size]
  have HGET := Lib.hid (fun (i : Nat) (h : i < (⟨wd.toArray⟩ : ByteArray).size) => Lib.getElem_mk wd i h)
  have HKW := Lib.hid (fun (hg : wordB wd = true) => keyword_any (wordB_len hg).1 (wordB_len hg).2 (SrcOk.list (W := W) (A := A) bs) hl h)
  have H := Lib.hid h
  obtain ⟨n, hn⟩ : ∃ n, wd.length = n := ⟨_, rfl⟩
  rw [hn] at hsz hwl
  have HN := Lib.hid hn
  obtain ⟨g, hg⟩ : ∃ g, wordB wd = g := ⟨_, rfl⟩
  rw [hg] at HKW
  rw [hg]
  have HG := Lib.hid hg
  obtain ⟨o, ho⟩ : ∃ o, keyM wd L = o := ⟨_, rfl⟩
  rw [ho] at HKW
  rw [ho]
  generalize (⟨wd.toArray⟩ : ByteArray) = s at *
  clear h hn hg ho
  by_cases hlen : 1 ≤ n ∧ n ≤ 20
  rotate_left
  · have hgf : g = false := by
      rw [← HG.out, wordB, HN.out]
      have : (decide (1 ≤ n) && decide (n ≤ 20)) = false := by
        simp only [Bool.and_eq_false_iff, decide_eq_false_iff_not]
        omega
      rw [this, Bool.and_false]
    subst hgf
    simp only [Bool.false_and]
    rw [if_neg (by decide), if_neg (by decide)]
    clear HKW HG
    by_cases h1 : n < 1
    · have j1 : (n : Int) < 1 := by omega
      clear hlen h1
      go_enter Try.func19, Try.ntmps19
      go_wp2_with fail
      with_reducible refine Calls.mono (nothing_no bs w) ?_
      rintro e w1 ⟨rfl, rfl⟩
      go_wp2
      exact bodyPost_ret (v := .tuple #[.bool false, .int .i64 1]) (by unfold results; go_simp) rfl ⟨rfl, H.out⟩
    · have j1 : ¬ (n : Int) < 1 := by omega
      have j2 : (20 : Int) < (n : Int) := by omega
      clear hlen h1
      go_enter Try.func19, Try.ntmps19
      go_wp2_with fail
      with_reducible refine Calls.mono (nothing_no bs w) ?_
      rintro e w1 ⟨rfl, rfl⟩
      go_wp2
      exact bodyPost_ret (v := .tuple #[.bool false, .int .i64 1]) (by unfold results; go_simp) rfl ⟨rfl, H.out⟩
  · have j1 : ¬ (n : Int) < 1 := by omega
    have j2 : ¬ (20 : Int) < (n : Int) := by omega
    have HL := Lib.hid hlen
    clear hlen
    go_enter Try.func19, Try.ntmps19
    go_wp2_with fail
    with_reducible refine Calls.mono (nothing_no bs w) ?_
    rintro e w1 ⟨rfl, rfl⟩
    go_wp2_with fail
    clear j1 j2
    go_loopg [21] n (fun gg s21 wx => ∃ k : Nat, k ≤ n ∧ gg = n - k ∧ s21 = .int .i64 k ∧ (∀ i (hi : i < wd.length), i < k → lowB wd[i] = true) ∧ wx = w)
    case atStart => exact ⟨0, by omega, rfl, by go_num, fun i _ h => by omega, rfl⟩
    case round =>
      obtain ⟨k, hk, hgg, rfl, hall, rfl⟩ := hrel
      have HA := Lib.hid hall
      clear hall
      by_cases hlt : k < n
      · have hkl : k < wd.length := by rw [HN.out]; exact hlt
        obtain ⟨c, hc⟩ : ∃ c, wd[k] = c := ⟨_, rfl⟩
        have hget : s[k]'(by omega) = c := by
          have := HGET.out k (by omega)
          rw [List.getElem?_eq_getElem hkl, hc] at this
          exact (Option.some.inj this).symm
        have HC := Lib.hid hc
        have i1 : (k : Int) < (n : Int) := by omega
        clear hc
        by_cases h1 : 97 ≤ c.toNat
        · have j1 : (97 : Int) ≤ (c.toNat : Int) := by omega
          by_cases h2 : c.toNat ≤ 122
          · have j2 : (c.toNat : Int) ≤ 122 := by omega
            have HA2 := Lib.hid (show ∀ i (hi : i < wd.length), i < k + 1 → lowB wd[i] = true from fun i hi h => by
              by_cases he : i = k
              · subst he; rw [HC.out]; simp [lowB, h1, h2]
              · exact HA.out i hi (by omega))
            clear h1 h2 HA HC hkl
            go_wp2
            go_roundg (n - (k + 1))
            case measure => omega
            case rel => exact ⟨k + 1, by omega, rfl, by go_num, HA2.out, rfl⟩
          · have j2 : ¬ (c.toNat : Int) ≤ 122 := by omega
            have hf : g = false := by rw [← HG.out, wordB, all_no hkl (by rw [HC.out]; simp [lowB, h2])]; rfl
            subst hf
            clear h1 h2 HA HC hkl HKW HG
            go_wp2
            exact bodyPost_ret (v := .tuple #[.bool false, .int .i64 1]) (by unfold results; go_simp) rfl ⟨rfl, H.out⟩
        · have j1 : ¬ (97 : Int) ≤ (c.toNat : Int) := by omega
          have hf : g = false := by rw [← HG.out, wordB, all_no hkl (by rw [HC.out]; simp [lowB, h1])]; rfl
          subst hf
          clear h1 HA HC hkl HKW HG
          go_wp2
          exact bodyPost_ret (v := .tuple #[.bool false, .int .i64 1]) (by unfold results; go_simp) rfl ⟨rfl, H.out⟩
      · have hkn : n = k := by omega
        subst hkn
        have hT : g = true := by
          rw [← HG.out, wordB, all_of (fun i hi => HA.out i hi (by rw [← HN.out]; exact hi)), HN.out]
          have := HL.out
          simp [this]
        subst hT
        have HK := Lib.hid (HKW.out rfl)
        clear HKW HG HA
        obtain ⟨r, hr⟩ : ∃ r, o.isSome = r := ⟨_, rfl⟩
        rw [hr] at HK
        have HR := Lib.hid hr
        clear hr
        go_wp2_with fail
        with_reducible refine Calls.mono HK.out ?_
        rintro e w2 ⟨rfl, h3⟩
        have H3 := Lib.hid h3
        clear h3 HK
        go_wp2
        exact bodyPost_ret (v := .tuple #[.bool r, .int .i64 0]) (by unfold results; go_simp) rfl ⟨by rw [HR.out], H3.out⟩

set_option maxRecDepth 100000 in
set_option maxHeartbeats 4000000 in
theorem left_any {b : Nat} {v : Value} {sh : Bool} {M : List Tok} (hl : L.length ≤ 2000000) (hv : ∀ w', Sat W A w' → RdT w' v M) (h : LsAt W (pts b (rlO v sh) * A) bs L w) :
    Calls Try.prog 21 #[.pointer (some ⟨bs, 0, none⟩), .pointer (some ⟨b, 0, none⟩)] w fun e w' => e = .returned (.bool (decide (L = M))) ∧ Sat W A w' := by
  obtain ⟨C, hC⟩ : ∃ C : World → Prop, C = fun w' => ∃ X, Sat W (pts b (rlO v sh) * X) w' := ⟨_, rfl⟩
  have HC := Lib.hid (show ∀ w', C w' → w'.cell? ⟨b, 0, none⟩ = some v ∧ b < w'.heap.size from fun w' h => by
    rw [hC] at h
    obtain ⟨X, h⟩ := h
    exact ⟨h.cell rfl, h.lt⟩)
  have HC2 := Lib.hid (show ∀ X w', Sat W (pts b (rlO v sh) * X) w' → C w' from fun X w' h => by rw [hC]; exact ⟨X, h⟩)
  obtain ⟨Y, h1, back⟩ := h.focus
  obtain ⟨va, vc, hvv⟩ := (hv w h1.l.r).val
  have hdr := h.drew
  obtain ⟨W9, hW9⟩ : ∃ W9, w.drew = W9 := ⟨_, rfl⟩
  rw [hW9] at hdr
  have HR := Lib.hid (lsrest_any hl hdr)
  have H9 := Lib.hid hdr.sat
  have HV := Lib.hid hv
  clear h h1 back hC hdr
  subst hvv
  go_enter Try.func21, Try.ntmps21
  go_upto_region 1 with fail
  refine wp_region_C C (by kernel_rfl) ?_
  rw [hW9]
  clear hW9
  refine wpC_take (i := 0) (v := ?_) rfl (by kernel_rfl) (by kernel_rfl) (by kernel_rfl) (fun _ _ _ h => h) (by rfl) ?_ ?_
  rotate_left 1
  · intro w hw; go_simp; try with_reducible rfl
  refine wpC_take (i := 2) (v := ?_) rfl (by kernel_rfl) (by kernel_rfl) (by kernel_rfl) (fun _ _ _ h => h) (by rfl) ?_ ?_
  rotate_left 1
  · intro w hw; go_simp; try with_reducible rfl
  refine wpC_take (i := 3) (v := ?_) rfl (by kernel_rfl) (by kernel_rfl) (by kernel_rfl) (fun _ _ _ h => h) (by rfl) ?_ ?_
  rotate_left 1
  · intro w hw; go_simp; try with_reducible rfl
  refine wpC_take (i := 4) (v := ?_) rfl (by kernel_rfl) (by kernel_rfl) (by kernel_rfl) (fun _ _ _ h => h) (by rfl) ?_ ?_
  rotate_left 1
  · intro w hw; go_simp; try with_reducible rfl
  refine wpC_take (i := 5) (v := ?_) rfl (by kernel_rfl) (by kernel_rfl) (by kernel_rfl) (fun _ _ _ h => h) (by rfl) ?_ ?_
  rotate_left 1
  · intro w hw; (obtain ⟨c0, lb⟩ := HC.out w hw; go_simp; try with_reducible rfl)
  refine wpC_one (i := 1) rfl (by kernel_rfl) (HC2.out _ _ H9.out) (fun K hK => ?_)
  go_simp
  with_reducible refine Calls.mono HR.out ?_
  rintro e w1 ⟨u, rfl, h2⟩
  have hs := h2.sat
  obtain ⟨ua, uc, hu⟩ := (rowT_rd hs).val
  subst hu
  have HS := Lib.hid (sameT_any L M _ _ w1 (rowT_rd hs) (HV.out _ hs.r.r))
  have H2 := Lib.hid hs.r
  clear h2 hs HR H9
  with_reducible refine hK _ _ ?_
  clear hK K
  refine wpC_one (i := 6) rfl (by kernel_rfl) (HC2.out _ _ H2.out) (fun K hK => ?_)
  go_simp
  with_reducible refine Calls.mono HS.out ?_
  rintro e w2 ⟨rfl, q, hq⟩
  have H3 := Lib.hid (show Sat W (pts b (rlO (.slice va M.length vc) sh) * A) w2 from hq ▸ H2.out.drewN)
  clear hq H2 HS
  with_reducible refine hK _ _ ?_
  clear hK K
  refine wpC_one (i := 7) rfl (by kernel_rfl) (HC2.out _ _ H3.out) (fun K hK => ?_)
  go_simp
  with_reducible refine hK _ _ ?_
  clear hK K
  refine wpC_done (by kernel_rfl) (HC2.out _ _ H3.out) ?_
  go_simp
  go_wp2
  go_ret
  exact ⟨rfl, H3.out.r⟩

set_option maxRecDepth 100000 in
set_option maxHeartbeats 8000000 in
theorem keys_ext {v : Value} {wd : List UInt8} (hv : RdT W v L) (hl : L.length ≤ 1048576) (hwl : wd.length ≤ 1048576) :
    Calls Try.prog 5 #[v, (.string ⟨wd.toArray⟩)] W fun e w' => e = .returned (.bool true) ∧ Ext W w' := by
  obtain ⟨i0, hi, hz0, hz1, hz2⟩ := info_parts3 info_tok
  have HI := Lib.hid hi
  have HZ0 := Lib.hid hz0
  have HZ1 := Lib.hid hz1
  have HZ2 := Lib.hid hz2
  have HVX := Lib.hid (show ∀ w', Sat W (own W) w' → RdT w' v L from fun w' h => hv.ext h.toExt)
  have HLI := Lib.hid (glist_any (v := v) (L := L) (A := own W) HVX.out (by omega) (Sat.start W))
  obtain ⟨va, vc, hvv⟩ := hv.val
  subst hvv
  obtain ⟨k, hk⟩ : ∃ k, L.length = k := ⟨_, rfl⟩
  have HK := Lib.hid hk
  rw [hk] at HLI hl
  rw [hk]
  obtain ⟨g, hg⟩ : ∃ g, wordB wd = g := ⟨_, rfl⟩
  obtain ⟨r, hr⟩ : ∃ r, (keyM wd L).isSome = r := ⟨_, rfl⟩
  obtain ⟨M, hM⟩ : ∃ M, (if wordB wd = true then (keyM wd L).getD L else L) = M := ⟨_, rfl⟩
  obtain ⟨z, hz⟩ : ∃ z : Int, (if wordB wd = true then (0 : Int) else 1) = z := ⟨_, rfl⟩
  have hML : M.length ≤ 2000000 := by
    rw [← hM]
    split
    · cases hkm : keyM wd L with
      | none => simp only [Option.getD_none]; omega
      | some l => have := keyM_len hkm; simp only [Option.getD_some]; omega
    · omega
  have HNK := Lib.hid (fun (A : HProp) (bs : Nat) (w : World) (h : LsAt W A bs L w) => nKeyword_any (wd := wd) (by omega) (by omega) h)
  have HRK := Lib.hid (fun (A : HProp) (b : Nat) (v : Value) (sh : Bool) (w : World) (Pr : World → Prop) (hp : ∀ w', Sat W A w' → Pr w') (hv : ∀ w', Pr w' → RdT w' v L) (h : Sat W (pts b (rlO v sh) * A) w) => refKeyword_any (wd := wd) (by omega) (by omega) hp hv h)
  simp only [hM, hz] at HNK HRK
  simp only [hg, hr] at HNK HRK
  have HML := Lib.hid hML
  generalize (⟨wd.toArray⟩ : ByteArray) = s at *
  clear hv hi hz0 hz1 hz2 hk hg hr hM hz hML hwl
  go_enter Try.func5, Try.ntmps5
  go_wp2_with fail
  with_reducible refine Calls.mono HLI.out ?_
  rintro e w1 ⟨bs, rfl, h1⟩
  obtain ⟨Y, h2, back⟩ := h1.focus
  have BACK := Lib.hid back
  have H := Lib.hid (row_empty h2)
  have hrd := HVX.out _ (row_empty h2).r.l
  rw [HK.out] at hrd
  have HRD := Lib.hid hrd
  clear h1 h2 back hrd HLI
  go_wp2_with (at_builtin; refine wpList_append_rd rfl _ _ 22 rfl i0 _ 32 Try.underlying22 HI.out HZ0.out HZ1.out HZ2.out rfl (by omega) rfl H.out (.slice va k vc) L.length (flat L) rfl HRD.out.1 (flat_one L) (by have := HK.out; simp [maxLen]; omega) (by have := HK.out; omega) ?_)
  intro v1 w2 h3
  obtain ⟨v1a, v1c, hv1⟩ : ∃ a c, v1 = .slice a L.length c := (rowT_rd (show Sat W (rowT v1 L * (own W * Y)) w2 by unfold rowT; simpa using h3)).val
  subst hv1
  have h4 := (show Sat W (rowT (.slice v1a L.length v1c) L * (own W * Y)) w2 by unfold rowT; simpa using h3).alloc (rlO (.slice v1a L.length v1c) false)
  obtain ⟨b, hb⟩ : ∃ b, w2.heap.size = b := ⟨_, rfl⟩
  obtain ⟨w3, hw3⟩ : ∃ w3, w2.alloc (rlO (.slice v1a L.length v1c) false) = w3 := ⟨_, rfl⟩
  rw [hb, hw3] at h4
  have h5 := BACK.out (pts b (rlO (.slice v1a L.length v1c) false) * (rowT (.slice v1a L.length v1c) L * own W)) w3 (h4.of_eq (by ac_rfl))
  have HNK2 := Lib.hid (HNK.out _ _ _ h5)
  rw [HK.out] at hw3
  clear h3 h4 h5 BACK H HRD HNK
  rw [HK.out]
  go_upto_region 3 with fail
  (try rw [hw3])
  (try rw [hb])
  clear hw3 hb
  go_wp2_with fail
  with_reducible refine Calls.mono HNK2.out ?_
  rintro e w4 ⟨rfl, h6⟩
  obtain ⟨Y2, h7, back2⟩ := h6.focus
  have BACK2 := Lib.hid back2
  have HRK2 := Lib.hid (HRK.out ((rowT (.slice v1a L.length v1c) L * own W) * Y2) b _ _ w4 (Sat W (rowT (.slice v1a L.length v1c) L * own W)) (fun w' h => h.l) (fun w' h => rowT_rd h) (h7.of_eq (by ac_rfl)))
  rw [HK.out] at HRK2
  clear h6 h7 back2 HNK2 HRK
  go_wp2_with fail
  with_reducible refine Calls.mono HRK2.out ?_
  rintro e w5 ⟨rfl, v2, sh2, hv2, h8⟩
  have h9 := BACK2.out (pts b (rlO v2 sh2) * (rowT (.slice v1a L.length v1c) L * own W)) w5 (h8.of_eq (by rw [HK.out]; ac_rfl))
  have HLF := Lib.hid (left_any HML.out (M := M) (v := v2) (sh := sh2) (A := rowT (.slice v1a L.length v1c) L * own W) (by rw [HK.out]; exact hv2) h9)
  rw [show decide (M = M) = true by simp] at HLF
  clear h8 h9 BACK2 HRK2
  go_wp2_with fail
  with_reducible refine Calls.mono (num_any _ _) ?_
  rintro e w6 ⟨rfl, rfl⟩
  go_wp2_with fail
  with_reducible refine Calls.mono HLF.out ?_
  rintro e w7 ⟨rfl, h10⟩
  have HKN := Lib.hid (nknows_any h10)
  clear h10 HLF
  go_wp2_with fail
  with_reducible refine Calls.mono HKN.out ?_
  rintro e w8 ⟨rfl, h11⟩
  have H11 := Lib.hid h11.r.toExt
  clear h11 HKN
  go_wp2
  go_ret
  exact ⟨rfl, H11.out⟩
end Go.Proofs.Yticljfpippbkkaa
