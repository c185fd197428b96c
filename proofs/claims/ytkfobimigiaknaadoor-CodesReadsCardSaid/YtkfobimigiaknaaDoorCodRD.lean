/-
  The reference's more. Conditions: those that each theorem names.
-/
import Derived.Test.YtkfobimigiaknaaDoorCodRC
namespace Go.Proofs.YtkfobimigiaknaaDoor
open Go.RowKit Go.Sp
variable {W w w' : World} {F F' : HProp}

/-- no line is left -/
theorem tail_none {v0 vl : Value} {ls : List (List UInt8)} {k : Nat} (h : tailOf v0 ls.length k vl) (hd : ls.drop k = []) : ∃ a c, vl = .slice a 0 c := by
  have h0 : ls.length - k = 0 := by have := congrArg List.length hd; simpa using this
  obtain ⟨_, ⟨_, rfl, _⟩ | ⟨g, o, cap, c, _, rfl, _, _⟩⟩ := h
  · exact ⟨_, _, rfl⟩
  · exact ⟨some ⟨g, o, none⟩, c, by rw [h0]⟩

/-- the first line that is left, and what is then left -/
theorem tail_cons {v0 vl : Value} {ls rest : List (List UInt8)} {l : List UInt8} {k : Nat} (h : tailOf v0 ls.length k vl) (hd : ls.drop k = l :: rest) :
    ∃ g c, vl = .slice (some ⟨g, k, none⟩) (rest.length + 1) c ∧ rest.length + 1 ≤ c ∧ ls[k]? = some l ∧ ls.drop (k + 1) = rest ∧ (∃ cap, v0 = .slice (some ⟨g, 0, none⟩) ls.length cap) ∧
      ∀ o c', rest.length ≤ c' → (rest ≠ [] → o = k + 1) → tailOf v0 ls.length (k + 1) (.slice (some ⟨g, o, none⟩) rest.length c') := by
  have hlen : ls.length - k = rest.length + 1 := by have := congrArg List.length hd; simpa using this
  have hk : ls[k]? = some l := by
    have := congrArg (fun x => x[0]?) hd
    simpa using this
  have hd1 : ls.drop (k + 1) = rest := by
    have := congrArg (List.drop 1) hd
    simpa [List.drop_drop] using this
  obtain ⟨hk0, ⟨_, rfl, h0⟩ | ⟨g, o, cap, c, rfl, rfl, hc, ho⟩⟩ := h
  · omega
  · have e := ho (by omega)
    subst e
    refine ⟨g, c, by rw [hlen], by omega, hk, hd1, ⟨cap, rfl⟩, fun o' c' h1 h2 => ⟨by omega, .inr ⟨g, o', cap, c', rfl, ?_, by omega, fun h3 => h2 ?_⟩⟩⟩
    · have : ls.length - (o + 1) = rest.length := by omega
      rw [this]
    · rintro rfl
      simp at hlen
      omega

theorem moreR_no {R : Rs} {b : Nat} (endl : Int) (hl : R.left = []) (h0 : R.stopped = true ∨ R.ended = true ∨ R.text = []) (h : RefAt W F b R w) :
    Calls Tryd.prog 32 #[.pointer (some ⟨b, 0, none⟩), .int .i64 endl] w fun e w' => e = .returned (.bool false) ∧ RefAt W F b { R with ended := true } w' := by
  obtain ⟨he, vl, vL, v0, ls, k, h1, h2, hs⟩ := h
  have c4 : w.cell? ⟨b, 4, none⟩ = some (.bool (R.stopped || R.ended)) := hs.cell rfl
  have c0 : w.cell? ⟨b, 0, none⟩ = some vl := hs.cell rfl
  have f4 := hs.free (i := 4)
  have lb := hs.lt
  have hb : (R.stopped || true) = true := by cases R.stopped <;> rfl
  have HF := Lib.hid (show RefAt W F b { R with ended := true } (w.setCell ⟨b, 4, none⟩ (.bool true)) from ⟨fun _ => hl, vl, vL, v0, ls, k, h1, h2, (hs.set (i := 4) (v := .bool true)).of_eq (by simp only [rfO, rfC, hb]; rfl)⟩)
  by_cases hf : (R.stopped || R.ended) = true
  · rw [hf] at c4
    clear hs h1 h2 h0 hf hb
    go_enter Tryd.func32, Tryd.ntmps32
    go_wp2
    go_ret
    exact ⟨rfl, HF.out⟩
  · have hf' : (R.stopped || R.ended) = false := by simpa using hf
    rw [hf'] at c4
    have ht : R.text = [] := by
      simp only [Bool.or_eq_true, not_or, Bool.not_eq_true] at hf
      rcases h0 with h0 | h0 | h0
      · rw [hf.1] at h0; cases h0
      · rw [hf.2] at h0; cases h0
      · exact h0
    rw [ht, linesL_nil] at h2
    obtain ⟨a, c, rfl⟩ := tail_none h1 h2
    clear hs h1 h2 h0 hf hf' hb ht
    go_enter Tryd.func32, Tryd.ntmps32
    go_wp2
    go_ret
    exact ⟨rfl, HF.out⟩

end Go.Proofs.YtkfobimigiaknaaDoor
