
/-
  Strings: where a byte stands first, a cut there, the blanks at the end struck. Conditions: those that each theorem names.
-/
import Derived.Test.YtpcdbeicpmjooaaDoorTok
import Derived.Test.YtpcdbeicpmjooaaDoorTail
import Derived.Lib.Bytealg
import Derived.Lib.TrimByte
import Derived.Deep.LoopGhost
namespace Go.Proofs.YtpcdbeicpmjooaaDoor
open Go.RowKit Go.Sp
variable {W w w' : World} {F : HProp}

theorem str_size (l : List UInt8) : (⟨l.toArray⟩ : ByteArray).size = l.length := by simp [ByteArray.size]

theorem run_index_ext (s : ByteArray) (c : UInt8) (w : World) : (callFunc 64 #[.string s, .int .u8 c.toNat]).run Tryd.prog w = .ok (.value (.int .i64 (Lib.indexByte s.data.toList c))) w := by
  rw [run_callFunc_extern Tryd.func64 (by kernel_rfl) (by kernel_rfl) (by kernel_rfl) (e := Extern.BytealgIndexByte.indexByte) (by kernel_rfl), run_indexByte_string]
  simp [Result.andThen, Lib.firstIdx_eq]

theorem indexByte_any (s : ByteArray) (c : UInt8) (w : World) : Calls Tryd.prog 55 #[.string s, .int .u8 c.toNat] w fun e w' => e = .returned (.int .i64 (Lib.indexByte s.data.toList c)) ∧ w = w' := by
  have hr := fun w => run_index_ext s c w
  generalize Lib.indexByte s.data.toList c = r at *
  go_enter Tryd.func55, Tryd.ntmps55
  go_wp2
  go_ret
  exact ⟨rfl, rfl⟩

theorem index_any (s : ByteArray) (c : UInt8) (w : World) : Calls Tryd.prog 46 #[.string s, .string ⟨#[c]⟩] w fun e w' => e = .returned (.int .i64 (Lib.indexByte s.data.toList c)) ∧ w = w' := by
  have hc := indexByte_any s c
  have h1 : (⟨#[c]⟩ : ByteArray).size = 1 := rfl
  have h2 : ((⟨#[c]⟩ : ByteArray)[0]'Nat.zero_lt_one) = c := rfl
  by_cases hs : [c] = s.toList
  · have hb : ([c] == s.toList) = true := by simpa using hs
    have HI := Lib.hid (show Lib.indexByte s.data.toList c = 0 by rw [← Lib.toList_data, ← hs]; simp [Lib.indexByte])
    clear hc hs
    go_enter Tryd.func46, Tryd.ntmps46
    go_wp2
    go_ret
    exact ⟨by rw [HI.out]; rfl, rfl⟩
  · have hb : ([c] == s.toList) = false := by simpa using hs
    generalize Lib.indexByte s.data.toList c = r at *
    have HC := Lib.hid hc
    clear hc hs
    go_enter Tryd.func46, Tryd.ntmps46
    go_wp2_with (go_at_call 55; refine Calls.mono (HC.out _) ?_; rintro e w' ⟨rfl, rfl⟩)
    go_ret
    exact ⟨rfl, rfl⟩

/-- the bytes ahead of the first c, those behind it, was it there? -/
def cutAt (c : UInt8) : List UInt8 → List UInt8 × List UInt8 × Bool
  | [] => ([], [], false)
  | b :: l => if b = c then ([], l, true) else (b :: (cutAt c l).1, (cutAt c l).2.1, (cutAt c l).2.2)

theorem cutAt_index (c : UInt8) : ∀ l : List UInt8, ((cutAt c l).2.2 = false ∧ Lib.indexByte l c = -1 ∧ cutAt c l = (l, [], false)) ∨
    ∃ k : Nat, k < l.length ∧ Lib.indexByte l c = k ∧ cutAt c l = (l.take k, l.drop (k + 1), true) := by
  intro l
  induction l with
  | nil => exact .inl ⟨rfl, rfl, rfl⟩
  | cons b l ih =>
    by_cases h : b = c
    · right
      exact ⟨0, by simp, by simp [Lib.indexByte, h], by simp [cutAt, h]⟩
    · rcases ih with ⟨h1, h2, h3⟩ | ⟨k, h1, h2, h3⟩
      · left
        refine ⟨by simp [cutAt, h, h1], by simp [Lib.indexByte, h, h2], by simp [cutAt, h, h3]⟩
      · right
        refine ⟨k + 1, by simpa using h1, ?_, by simp [cutAt, h, h3]⟩
        have hne : ((k : Int) == -1) = false := by rw [beq_eq_false_iff_ne]; omega
        simp only [Lib.indexByte, h2]
        simp [h]

theorem cut_any (l : List UInt8) (c : UInt8) (w : World) (hl : l.length ≤ 4000000000) :
    Calls Tryd.prog 37 #[(.string ⟨l.toArray⟩), .string ⟨#[c]⟩] w fun e w' => e = .returned (.tuple #[(.string ⟨((cutAt c l).1).toArray⟩), (.string ⟨((cutAt c l).2.1).toArray⟩), .bool (cutAt c l).2.2]) ∧ ∃ q, w.drewN q = w' := by
  have HI := Lib.hid (index_any ⟨l.toArray⟩ c w)
  rcases cutAt_index c l with ⟨-, h2, h3⟩ | ⟨k, h1, h2, h3⟩
  · rw [h2] at HI
    rw [h3]
    have hz : ¬ (0 : Int) ≤ -1 := by omega
    clear h2 h3
    go_enter Tryd.func37, Tryd.ntmps37
    go_wp2_with (go_at_call 46; refine Calls.mono HI.out ?_; rintro e w' ⟨rfl, rfl⟩)
    go_ret3
    exact ⟨rfl, 0, rfl⟩
  · rw [h2] at HI
    rw [h3]
    have hz : (0 : Int) ≤ (k : Int) := by omega
    have hsz : (⟨l.toArray⟩ : ByteArray).size = l.length := str_size l
    have hc1 : (⟨#[c]⟩ : ByteArray).size = 1 := rfl
    have hx1 : (⟨l.toArray⟩ : ByteArray).extract 0 k = ⟨(l.take k).toArray⟩ := by rw [Lib.extract_mk]; simp
    have hx2 : (⟨l.toArray⟩ : ByteArray).extract (k + 1) l.length = ⟨(l.drop (k + 1)).toArray⟩ := by rw [Lib.extract_mk, List.take_of_length_le (by simp)]
    generalize (⟨l.toArray⟩ : ByteArray) = s at *
    generalize (⟨(l.take k).toArray⟩ : ByteArray) = s1 at *
    generalize (⟨(l.drop (k + 1)).toArray⟩ : ByteArray) = s2 at *
    generalize hn : l.length = n at *
    have HN := Lib.hid hn
    have hk1 : (k : Int) ≤ (n : Int) := by omega
    have hk2 : (k : Int) + 1 ≤ (n : Int) := by omega
    have hk3 : (0 : Int) ≤ (k : Int) + 1 := by omega
    have hk4 : ((k : Int) + 1).toNat = k + 1 := by omega
    have hw : IntKind.i64.wrap ((k : Int) + 1) = (k : Int) + 1 := IntWalk.i64_in _ (by omega)
    clear hn h2 h3
    go_enter Tryd.func37, Tryd.ntmps37
    go_wp2_with (go_at_call 46; refine Calls.mono HI.out ?_; rintro e w' ⟨rfl, rfl⟩)
    go_quiet (fail)
    go_wp2
    go_ret3
    exact ⟨rfl, nq, rfl⟩

set_option maxRecDepth 100000 in
theorem cutS_any (l : List UInt8) (c : UInt8) (w : World) (hl : l.length ≤ 4000000000) :
    Calls Tryd.prog 34 #[(.string ⟨l.toArray⟩), .string ⟨#[c]⟩] w fun e w' => e = .returned (.tuple #[(.string ⟨((cutAt c l).1).toArray⟩), (.string ⟨((cutAt c l).2.1).toArray⟩), .bool (cutAt c l).2.2]) ∧ ∃ q, w.drewN q = w' := by
  have HC := Lib.hid (cut_any l c w hl)
  generalize (cutAt c l) = r at *
  obtain ⟨x, y, z⟩ := r
  simp only at HC ⊢
  clear hl
  generalize (⟨l.toArray⟩ : ByteArray) = s at *
  generalize (⟨x.toArray⟩ : ByteArray) = s1 at *
  generalize (⟨y.toArray⟩ : ByteArray) = s2 at *
  go_enter Tryd.func34, Tryd.ntmps34
  go_wp2_with fail
  refine Calls.mono HC.out ?_
  rintro e w' ⟨rfl, q, rfl⟩
  go_wp2
  go_ret3
  exact ⟨rfl, q, rfl⟩

theorem trimByte_any (l : List UInt8) (c : UInt8) (w : World) (hs : l.length ≤ 4000000000) : Calls Tryd.prog 38 #[(.string ⟨l.toArray⟩), .int .u8 c.toNat] w fun e w' => e = .returned ((.string ⟨(Lib.trimRightB l c).toArray⟩)) ∧ w = w' := by
  go_enter Tryd.func38, Tryd.ntmps38
  go_wp2
  go_loopg [0] l.length (fun g v wx => g ≤ l.length ∧ v = (.string ⟨(l.take g).toArray⟩) ∧ (∀ (j : Nat) b, g ≤ j → l[j]? = some b → b = c) ∧ w = wx)
  case atStart =>
    refine ⟨Nat.le_refl _, by rw [List.take_length], fun j b hj hb => ?_, rfl⟩
    rw [List.getElem?_eq_none hj] at hb; cases hb
  case round =>
    obtain ⟨hk, rfl, hc, rfl⟩ := hrel
    obtain ⟨k, hkk⟩ : ∃ k, k = gk := ⟨_, rfl⟩
    subst hkk
    have HC := Lib.hid hc
    clear hc
    by_cases h0 : 0 < k
    · have hkl : k - 1 < l.length := by omega
      have hts : (⟨(l.take k).toArray⟩ : ByteArray).size = k := by rw [str_size, List.length_take]; omega
      have hx1 : (⟨(l.take k).toArray⟩ : ByteArray).extract 0 (k - 1) = ⟨(l.take (k - 1)).toArray⟩ := by
        rw [Lib.extract_mk]
        simp [List.take_take]
      have h1 : k - 1 < (⟨(l.take k).toArray⟩ : ByteArray).size := by rw [hts]; omega
      have hb0 : (⟨(l.take k).toArray⟩ : ByteArray)[k - 1]'h1 = l[k - 1] := by
        have := Lib.getElem_mk (l.take k) (k - 1) h1
        rw [List.getElem?_take, if_pos (by omega), List.getElem?_eq_getElem hkl] at this
        exact (Option.some.inj this).symm
      generalize ht : (⟨(l.take k).toArray⟩ : ByteArray) = t at *
      have HB := Lib.hid (show l[k - 1]? = some l[k - 1] from List.getElem?_eq_getElem hkl)
      generalize l[k - 1] = b at *
      have HTT := Lib.hid ht
      clear ht
      have i1 : (0 : Int) < (k : Int) := by omega
      have i2 : 0 ≤ (k : Int) - 1 := by omega
      have i2' : 1 ≤ (k : Int) := by omega
      have i3 : (k : Int) - 1 < (k : Int) := by omega
      have i4 : ((k : Int) - 1).toNat = k - 1 := by omega
      have i5 : (k : Int) - 1 ≤ (k : Int) := by omega
      by_cases heq : b = c
      · have hq : ((b.toNat : Int) == (c.toNat : Int)) = true := by simp [heq]
        have HE := Lib.hid heq
        clear heq
        go_wp2
        go_roundg (k - 1)
        case measure => omega
        case rel =>
          refine ⟨by omega, rfl, fun j d hj hd => ?_, rfl⟩
          by_cases e : j = k - 1
          · subst e
            rw [HB.out] at hd
            cases hd; exact HE.out
          · exact HC.out j d (by omega) hd
      · have hq : ((b.toNat : Int) == (c.toNat : Int)) = false := by
          rw [beq_eq_false_iff_ne]
          intro h
          exact heq (UInt8.toNat_inj.1 (by exact_mod_cast h))
        have HE := Lib.hid heq
        clear heq
        have HT := Lib.hid (show Lib.trimRightB l c = l.take k from Lib.trimRightB_take l c k hk HC.out (fun d _ hd => by rw [HB.out] at hd; cases hd; exact HE.out))
        go_wp2
        go_ret
        exact ⟨by rw [HT.out, HTT.out]; rfl, rfl⟩
    · have hk0 : k = 0 := by omega
      subst hk0
      have HT := Lib.hid (show Lib.trimRightB l c = l.take 0 from Lib.trimRightB_take l c 0 hk HC.out (fun d h _ => by omega))
      go_wp2
      go_ret
      exact ⟨by rw [HT.out]; rfl, rfl⟩

end Go.Proofs.YtpcdbeicpmjooaaDoor
