/-
  Plain words: no step between neighbours; what Run makes of them. Conditions: those that each theorem names.
-/
import Derived.Test.YtigjfbbgbiajbaaLgW
namespace Go.Proofs.Ytigjfbbgbiajbaa
open Go.RowKit Go.Sp
variable {w W : World} {x : FV} {F : Fnt} {A : HProp}

def NoPair (F : Fnt) : Mk → List Mk → Prop
  | _, [] => True
  | m, y :: l => findM F m.c y.c = none ∧ NoPair F y l
theorem plain_go (l : List Mk) : ∀ (D : List Mk) (m : Mk), NoPair F m l → goM F D m l = D ++ m :: l ∧ GoOk F m l := by
  induction l with
  | nil => intro D m _; exact ⟨rfl, trivial⟩
  | cons y l ih =>
    intro D m h
    obtain ⟨h1, h2⟩ := h
    have hs : stepM F m y = [m, y] := by unfold stepM; rw [h1]
    obtain ⟨i1, i2⟩ := ih (D ++ [m]) y h2
    refine ⟨?_, ?_⟩
    · unfold goM
      rw [hs]
      show goM F (D ++ [m]) y l = _
      rw [i1, List.append_assoc]
      rfl
    · unfold GoOk
      rw [hs, h1]
      exact ⟨fun s hs => (by cases hs), (ih [] y h2).2⟩
/-- between the bytes k and k + 1 of the word there is no step -/
def NoStep (F : Fnt) (word : List UInt8) (n : Nat) : Prop := ∀ j, j + 1 < n → findM F (word.getD j 0).toNat (word.getD (j + 1) 0).toNat = none
theorem NoStep.pair (c : UInt8) (l : List UInt8) (h : NoStep F (c :: l) (l.length + 1)) : NoPair F (mkW c) (l.map mkW) := by
  induction l generalizing c with
  | nil => trivial
  | cons d l ih =>
    refine ⟨h 0 (by simp), ih d fun j hj => ?_⟩
    have := h (j + 1) (by simp only [List.length_cons]; omega)
    simpa using this
theorem plain_run {word : List UInt8} (h : NoStep F word word.length) : runM F word = word.map mkW ∧ RunOk F word := by
  cases word with
  | nil => exact ⟨rfl, trivial⟩
  | cons c l =>
    obtain ⟨h1, -⟩ := plain_go (F := F) (l.map mkW) [] (mkW c) (NoStep.pair c l h)
    obtain ⟨-, h2⟩ := plain_go (F := F) (l.map mkW) [] (mkW c) (NoStep.pair c l h)
    exact ⟨by rw [show runM F (c :: l) = goM F [] (mkW c) (l.map mkW) from rfl, h1]; rfl, h2⟩
def plainP (c : UInt8) : Pc := ⟨1, c.toNat, 1, 0⟩
theorem plain_piece (c : UInt8) : pieceM (mkW c) = plainP c := by
  have := u8i c
  show (⟨1, (c.toNat : Int) % 256, 1, 0⟩ : Pc) = ⟨1, c.toNat, 1, 0⟩
  rw [Int.emod_eq_of_lt (by omega) (by omega)]
theorem prun_any {wv : Value} {word : List UInt8} (h : RdF w x F) (hw : RdL byteC 1 w wv word) (he : lcheckE F = 0) (hth : ∀ c ∈ word, (thereM F c.toNat).isSome = true) (hlen : word.length ≤ 2000) (hgo : NoStep F word word.length) :
    Calls Try.prog 10 #[F.val x, wv, .bool false, .bool false] w fun e w' => ∃ u, e = .returned (.tuple #[u, .int .i64 0]) ∧ Sat w (rowP u (word.map plainP) * own w) w' := by
  obtain ⟨h1, h2⟩ := plain_run hgo
  have hr := lrun_any h hw he hth hlen h2 (fun m hm => by
    rw [h1] at hm
    obtain ⟨c, -, rfl⟩ := List.mem_map.1 hm
    have := u8i c
    simp only [mkW]
    omega) (by rw [h1, List.length_map]; exact hlen)
  rwa [h1, List.map_map, show pieceM ∘ mkW = plainP from funext plain_piece] at hr
end Go.Proofs.Ytigjfbbgbiajbaa
