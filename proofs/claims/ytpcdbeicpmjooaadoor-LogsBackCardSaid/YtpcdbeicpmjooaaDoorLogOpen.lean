
/-
  Arguments opened: strings, lists of strings, lists of codes. Conditions: none.
-/
import Derived.Test.YtpcdbeicpmjooaaDoorLogG
import Derived.ChangeSame
import Derived.OpenShut
import Derived.ShutString
import Derived.SliceStrings
import Derived.Lib.SmallJoins
namespace Go.Proofs.YtpcdbeicpmjooaaDoor
open Go.RowKit Go.Sp Go.ChangeShapes Go.WideShapes

section
variable {H : Type} {enc : TypeId × Value → H} {W : World} {base : Nat} {spare : Nat → Bool} {held : Bool}

set_option maxRecDepth 100000 in
theorem open_text {v : Value} {d : DataW H} {p : List MemPlace} {b0 : Nat} {r : Reach} (hv : Value.okWide Tryd.prog W r b0 9 v) (h : DataW.Trod enc Tryd.prog W base spare held 9 v d p) :
    ∃ l : List UInt8, v = (.string ⟨l.toArray⟩) ∧ d = .lit (.string l) := by
  obtain ⟨s, rfl, rfl, _⟩ := Go.ChangeMaps.open_string Tryd.underlying9 hv h
  exact ⟨s.data.toList, rfl, rfl⟩

set_option maxRecDepth 100000 in
theorem open_codes {v : Value} {d : DataW H} {p : List MemPlace} {b0 : Nat} {r : Reach} (hv : Value.okWide Tryd.prog W r b0 22 v) (h : DataW.Trod enc Tryd.prog W base spare held 22 v d p) :
    ∃ C : List Int, v = codesV C ∧ C.length = 256 := by
  have hcs : ∃ cs, v = .agg cs := by
    simp only [Value.okWide, Tryd.underlying22] at hv
    obtain ⟨cs, h1, _⟩ := hv
    exact ⟨cs, h1⟩
  obtain ⟨cs, rfl⟩ := hcs
  obtain ⟨fuel, hf⟩ := h
  obtain ⟨xs, m, rfl, hx, hlen, hn, hel⟩ := DataW.trod_array Tryd.underlying22 hf
  have e1 : Tryd.prog.cellsOf 3 = 1 := by kernel_rfl
  have e2 : Tryd.prog.cellsOf 22 = 256 := by kernel_rfl
  rw [e2] at hlen
  have hl : cs.toList.length = 256 := hlen
  have each : ∀ i, ∃ z : Int, i < 256 → cs.toList[i]? = some (.int .i64 z) := by
    intro i
    by_cases hi : i < 256
    · have h1 := hel i hi
      rw [e1, Nat.mul_one, List.getElem?_eq_getElem (by omega)] at h1
      obtain ⟨z, h2, _, _⟩ := DataW.trod_int Tryd.underlying3 h1
      refine ⟨z, fun _ => ?_⟩
      have h3 : (List.take 1 (List.drop i cs.toList))[0]? = some (.int .i64 z) := by
        have : List.take 1 (List.drop i cs.toList) = [.int .i64 z] := h2
        rw [this]; rfl
      simpa [List.getElem?_take, List.getElem?_drop] using h3
    · exact ⟨0, fun h => absurd h hi⟩
  obtain ⟨f, hf2⟩ := Classical.axiomOfChoice each
  refine ⟨(List.range 256).map f, ?_, by simp⟩
  congr 1
  apply Array.ext'
  apply List.ext_getElem?
  intro i
  by_cases hi : i < 256
  · rw [hf2 i hi]
    simp [hi]
  · rw [List.getElem?_eq_none (by omega)]
    simp [hi]

end
end Go.Proofs.YtpcdbeicpmjooaaDoor
