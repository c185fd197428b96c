
/-
  The plain law of LogsBack: letters and signs, told as text and read again. Conditions: none; no program in sight.
-/
import Derived.Test.YtpcdbeicpmjooaaDoorCodO
import Derived.Test.YtpcdbeicpmjooaaDoorLogS
namespace Go.Proofs.YtpcdbeicpmjooaaDoor
open Go.RowKit Go.Sp

def goodB (c : UInt8) : Prop := 32 < c.toNat ∧ c.toNat < 127 ∧ (codeAt plainL c = 11 ∨ codeAt plainL c = 12)

theorem good_plain {c : UInt8} (h : goodB c) : plainC plainL c := by
  refine ⟨h.2.2, ?_, ?_⟩
  · rintro rfl; have := h.1; simp at this
  · rintro rfl; have := h.1; simp at this

set_option maxRecDepth 100000 in
theorem plain_good : goodC plainL = true := by decide +kernel

theorem good_shown {c : UInt8} (h : goodB c) : shownB c = [c] := by
  have h1 := h.1
  have h2 := h.2.1
  rw [shownB, if_neg (by omega), if_neg]
  rintro (rfl | h)
  · simp at h2
  · omega

theorem good_token {c : UInt8} (h : goodB c) : tokenB plainL (charT (codeAt plainL c) c) = [c] := by
  have hc := h.2.2
  rw [tokenB, charT]
  simp only
  rw [if_neg (by omega), if_pos (by omega), good_shown h]

theorem good_text (bs : List UInt8) (h : ∀ c ∈ bs, goodB c) : textB plainL (lettersT plainL bs) = bs := by
  induction bs with
  | nil => rfl
  | cons c bs ih =>
    have e : textB plainL (lettersT plainL (c :: bs)) = tokenB plainL (charT (codeAt plainL c) c) ++ textB plainL (lettersT plainL bs) := by simp [textB, lettersT]
    rw [e, ih fun d hd => h d (by simp [hd]), good_token (h c (by simp))]
    rfl

/-- where there is room, the text is whole -/
theorem cutM_whole (C : List Int) (most : Int) : ∀ (L : List Tok) (out : List UInt8), ((out.length + (textB C L).length : Nat) : Int) ≤ most → cutM C most L out = out ++ textB C L := by
  intro L
  induction L with
  | nil => intro out _; simp [cutM, textB]
  | cons t L ih =>
    intro out h
    have e : textB C (t :: L) = tokenB C t ++ textB C L := by simp [textB]
    rw [e, List.length_append] at h
    rw [cutM, if_neg (by omega), ih _ (by rw [List.length_append]; omega), e, List.append_assoc]

theorem good_cut (bs : List UInt8) (h : ∀ c ∈ bs, goodB c) (hl : bs.length ≤ 20000) : cutM plainL 1073741824 (lettersT plainL bs) [] = bs := by
  rw [cutM_whole _ _ _ _ (by rw [good_text bs h]; simp; omega), good_text bs h]; rfl

theorem good_all (bs : List UInt8) (h : ∀ c ∈ bs, goodB c) (hl : bs.length ≤ 20000) : allM plainL (-1) bs = (lettersT plainL bs, 0) :=
  letters_all plain_good bs (fun c hc => good_plain (h c hc)) hl

end Go.Proofs.YtpcdbeicpmjooaaDoor
