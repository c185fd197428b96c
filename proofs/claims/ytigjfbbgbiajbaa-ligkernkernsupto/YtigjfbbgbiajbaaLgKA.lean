/-
  Words whose neighbours meet kerns only: what Run makes of them. Conditions: those that each theorem names.
-/
import Derived.Test.YtigjfbbgbiajbaaLgX
namespace Go.Proofs.Ytigjfbbgbiajbaa
open Go.RowKit Go.Sp
variable {w W : World} {x : FV} {F : Fnt} {A : HProp}

/-- between the first n bytes of the word all steps are kerns -/
def KernStep (F : Fnt) (word : List UInt8) (n : Nat) : Prop := ∀ j, j + 1 < n → ∀ s, findM F (word.getD j 0).toNat (word.getD (j + 1) 0).toNat = some s → 128 ≤ s.op.toNat
def spP (F : Fnt) (word : List UInt8) : Nat → List Pc
  | 0 => []
  | j + 1 => match findM F (word.getD j 0).toNat (word.getD (j + 1) 0).toNat with
    | none => []
    | some s => [⟨8, 0, 0, kernOf F s⟩]
def wantP (F : Fnt) (word : List UInt8) : Nat → List Pc
  | 0 => []
  | k + 1 => wantP F word k ++ (spP F word k ++ [plainP (word.getD k 0)])
def MkIn (m : Mk) : Prop := m.c ≠ -1 ∧ m.c ≠ 256
theorem mkW_in (c : UInt8) : MkIn (mkW c) := by
  have := u8i c
  unfold MkIn
  simp only [mkW]
  omega
theorem kern_go {word : List UInt8} (h : KernStep F word word.length) (l : List UInt8) : ∀ (D : List Mk) (c : UInt8) (k : Nat), word.drop k = c :: l → (∀ m ∈ D, MkIn m) → D.map pieceM ++ [plainP c] = wantP F word (k + 1) →
    (goM F D (mkW c) (l.map mkW)).map pieceM = wantP F word word.length ∧ GoOk F (mkW c) (l.map mkW) ∧ (∀ m ∈ goM F D (mkW c) (l.map mkW), MkIn m) ∧ (goM F D (mkW c) (l.map mkW)).length ≤ D.length + 2 * l.length + 1 := by
  induction l with
  | nil =>
    intro D c k hd hD hw
    have hk : word.length = k + 1 := by have := congrArg List.length hd; simp only [List.length_drop, List.length_cons, List.length_nil] at this; omega
    simp only [List.map_nil, goM, GoOk]
    refine ⟨by rw [List.map_append, hk, ← hw, List.map_singleton, plain_piece], trivial, fun m hm => ?_, by simp⟩
    rcases List.mem_append.1 hm with h1 | h1
    · exact hD m h1
    · rw [List.mem_singleton.1 h1]; exact mkW_in c
  | cons d l ih =>
    intro D c k hd hD hw
    have hlen : word.length = k + 1 + (l.length + 1) := by have := congrArg List.length hd; simp only [List.length_drop, List.length_cons] at this; omega
    have hd2 : word.drop (k + 1) = d :: l := by
      have := congrArg List.tail hd
      rwa [List.tail_drop, List.tail_cons] at this
    have gc : word.getD k 0 = c := by
      have h1 : (word.drop k)[0]? = some c := by rw [hd]; rfl
      rw [List.getElem?_drop] at h1
      rw [List.getD_eq_getElem?_getD]
      simpa using congrArg (·.getD 0) h1
    have gd : word.getD (k + 1) 0 = d := by
      have h1 : (word.drop (k + 1))[0]? = some d := by rw [hd2]; rfl
      rw [List.getElem?_drop] at h1
      rw [List.getD_eq_getElem?_getD]
      simpa using congrArg (·.getD 0) h1
    have hks := h k (by omega)
    rw [gc, gd] at hks
    have hsp : spP F word (k + 1) = match findM F c.toNat d.toNat with
      | none => []
      | some s => [⟨8, 0, 0, kernOf F s⟩] := by
      show (match findM F (word.getD k 0).toNat (word.getD (k + 1) 0).toNat with
        | none => []
        | some s => [(⟨8, 0, 0, kernOf F s⟩ : Pc)]) = _
      rw [gc, gd]
    have hwn : wantP F word (k + 1 + 1) = wantP F word (k + 1) ++ (spP F word (k + 1) ++ [plainP d]) := by
      rw [show wantP F word (k + 1 + 1) = wantP F word (k + 1) ++ (spP F word (k + 1) ++ [plainP (word.getD (k + 1) 0)]) from rfl, gd]
    rw [List.map_cons]
    show ((goM F (D ++ (stepM F (mkW c) (mkW d)).dropLast) ((stepM F (mkW c) (mkW d)).getLastD mk0) (l.map mkW)).map pieceM = _) ∧ ((∀ s, findM F (mkW c).c (mkW d).c = some s → s.op.toNat < 128 → s.op.toNat = 0) ∧ GoOk F ((stepM F (mkW c) (mkW d)).getLastD mk0) (l.map mkW)) ∧ (∀ m ∈ goM F (D ++ (stepM F (mkW c) (mkW d)).dropLast) ((stepM F (mkW c) (mkW d)).getLastD mk0) (l.map mkW), MkIn m) ∧ (goM F (D ++ (stepM F (mkW c) (mkW d)).dropLast) ((stepM F (mkW c) (mkW d)).getLastD mk0) (l.map mkW)).length ≤ _
    have hfc : findM F (mkW c).c (mkW d).c = findM F c.toNat d.toNat := rfl
    cases hf : findM F c.toNat d.toNat with
    | none =>
      have hs : stepM F (mkW c) (mkW d) = [mkW c, mkW d] := by unfold stepM; rw [hfc, hf]
      obtain ⟨i1, i2, i3, i4⟩ := ih (D ++ [mkW c]) d (k + 1) hd2 (fun m hm => by
        rcases List.mem_append.1 hm with h1 | h1
        · exact hD m h1
        · rw [List.mem_singleton.1 h1]; exact mkW_in c) (by rw [List.map_append, List.map_singleton, plain_piece, hw, hwn, hsp, hf, List.nil_append])
      rw [hs, hfc, hf]
      refine ⟨i1, ⟨fun s hs => (by cases hs), i2⟩, i3, ?_⟩
      have i5 : (goM F (D ++ [mkW c]) (mkW d) (l.map mkW)).length ≤ _ := i4
      simp only [List.length_append, List.length_singleton] at i5
      show (goM F (D ++ [mkW c]) (mkW d) (l.map mkW)).length ≤ _
      simp only [List.length_cons]
      omega
    | some s =>
      have h128 := hks s hf
      have hs : stepM F (mkW c) (mkW d) = [mkW c, ⟨-2, 0, false, kernOf F s, true⟩, mkW d] := by unfold stepM; rw [hfc, hf]; simp only [if_pos h128]
      obtain ⟨i1, i2, i3, i4⟩ := ih (D ++ [mkW c, ⟨-2, 0, false, kernOf F s, true⟩]) d (k + 1) hd2 (fun m hm => by
        rcases List.mem_append.1 hm with h1 | h1
        · exact hD m h1
        · simp only [List.mem_cons, List.not_mem_nil, or_false] at h1
          rcases h1 with rfl | rfl
          · exact mkW_in c
          · exact ⟨by show (-2 : Int) ≠ -1; decide, by show (-2 : Int) ≠ 256; decide⟩) (by
        rw [List.map_append, hwn, hsp, hf, ← hw]
        simp only [List.map_cons, List.map_nil, plain_piece, List.append_assoc, List.cons_append, List.nil_append]
        rfl)
      rw [hs, hfc, hf]
      refine ⟨i1, ⟨fun s' hs' hlt => ?_, i2⟩, i3, ?_⟩
      · cases hs'; omega
      · have i5 : (goM F (D ++ [mkW c, ⟨-2, 0, false, kernOf F s, true⟩]) (mkW d) (l.map mkW)).length ≤ _ := i4
        simp only [List.length_append, List.length_cons, List.length_nil] at i5
        show (goM F (D ++ [mkW c, ⟨-2, 0, false, kernOf F s, true⟩]) (mkW d) (l.map mkW)).length ≤ _
        simp only [List.length_cons]
        omega
theorem kern_run {word : List UInt8} (h : KernStep F word word.length) : (runM F word).map pieceM = wantP F word word.length ∧ RunOk F word ∧ (∀ m ∈ runM F word, MkIn m) ∧ (runM F word).length ≤ 2 * word.length := by
  cases word with
  | nil => exact ⟨rfl, trivial, fun m hm => (by cases hm), Nat.zero_le _⟩
  | cons c l =>
    obtain ⟨h1, h2, h3, h4⟩ := kern_go h l [] c 0 rfl (fun m hm => (by cases hm)) rfl
    exact ⟨h1, h2, h3, by show (goM F [] (mkW c) (l.map mkW)).length ≤ _; simp only [List.length_nil, List.length_cons] at h4 ⊢; omega⟩
theorem krun_any {wv : Value} {word : List UInt8} (h : RdF w x F) (hw : RdL byteC 1 w wv word) (he : lcheckE F = 0) (hth : ∀ c ∈ word, (thereM F c.toNat).isSome = true) (hlen : word.length ≤ 1000) (hgo : KernStep F word word.length) :
    Calls Try.prog 10 #[F.val x, wv, .bool false, .bool false] w fun e w' => ∃ u, e = .returned (.tuple #[u, .int .i64 0]) ∧ Sat w (rowP u (wantP F word word.length) * own w) w' := by
  obtain ⟨h1, h2, h3, h4⟩ := kern_run hgo
  have hr := lrun_any h hw he hth (by omega) h2 h3 (by omega)
  rwa [h1] at hr
end Go.Proofs.Ytigjfbbgbiajbaa
