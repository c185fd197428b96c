
/-
  Arguments opened: strings, lists of strings, lists of codes. Conditions: none.
-/
import Derived.Test.YtlfekbmcegbhoaaDoorLogG
import Derived.ChangeSame
import Derived.OpenShut
import Derived.ShutString
import Derived.SliceStrings
import Derived.Lib.SmallJoins
namespace Go.Proofs.YtlfekbmcegbhoaaDoor
open Go.RowKit Go.Sp Go.ChangeShapes Go.WideShapes

section
variable {H : Type} {enc : TypeId × Value → H} {W : World} {base : Nat} {spare : Nat → Bool} {held : Bool}

theorem open_strs {v : Value} {d : DataW H} {p : List MemPlace} {b0 : Nat} {r : Reach} (hv : Value.okWide Tryd.prog W r b0 32 v) (h : DataW.Trod enc Tryd.prog W base spare held 32 v d p) :
    ∃ L : List (List UInt8), RdS W v L := by
  obtain ⟨fuel, hf⟩ := h
  obtain ⟨a0, n0, c0, rfl⟩ := okWide_slice Tryd.underlying32 hv
  rcases open_strings Tryd.underlying32 Tryd.underlying9 (by kernel_rfl) hf with ⟨e, _⟩ | ⟨a, len, cap, ss, e, hb, hl, hm, hsl, _, hc, _⟩
  · have e2 : Value.slice a0 n0 c0 = .slice none 0 0 := by simpa [Value.cells] using e
    cases e2
    exact ⟨[], rfl, Nat.zero_le _, none, 0, rfl, fun j u hu => by simp at hu⟩
  · have e2 : Value.slice a0 n0 c0 = .slice (some a) len cap := by simpa [Value.cells] using e
    simp only [Value.slice.injEq] at e2
    obtain ⟨rfl, rfl, rfl⟩ := e2
    have hls : n0 ≤ ss.length := by rw [hsl]; split <;> omega
    refine ⟨(ss.take n0).map fun s => s.data.toList, ?_⟩
    have hlen : ((ss.take n0).map fun s => s.data.toList).length = n0 := by simp; omega
    refine ⟨by simp, by rw [hlen]; omega, some a, c0, by rw [hlen], fun j u hu => ?_⟩
    have hj : j < n0 := by
      have := (List.getElem?_eq_some_iff.1 hu).1
      simp at this; omega
    have hcj := hc j (by omega)
    have hu2 : u = .string (ss.getD j ByteArray.empty) := by
      have hjs : j < ss.length := by omega
      simp [hj, hjs] at hu
      rw [← hu]
      simp [List.getD, hjs]
    have hsp : a.spot = none := by
      have := hc 0 (by omega)
      have h0 : W.cell? a = some (.string (ss.getD 0 ByteArray.empty)) := by
        have e0 : a.add 0 = a := by simp [Addr.add]
        rwa [e0] at this
      exact World.cell?_spot h0
    obtain ⟨b, off, spot⟩ := a
    simp only at hsp
    subst hsp
    rw [Addr.add_lit] at hcj
    exact ⟨b, off, rfl, by rw [hcj, hu2]⟩

theorem open_text {v : Value} {d : DataW H} {p : List MemPlace} {b0 : Nat} {r : Reach} (hv : Value.okWide Tryd.prog W r b0 9 v) (h : DataW.Trod enc Tryd.prog W base spare held 9 v d p) :
    ∃ l : List UInt8, v = (.string ⟨l.toArray⟩) ∧ d = .lit (.string l) := by
  obtain ⟨s, rfl, rfl, _⟩ := Go.ChangeMaps.open_string Tryd.underlying9 hv h
  exact ⟨s.data.toList, rfl, rfl⟩

theorem open_codes {v : Value} {d : DataW H} {p : List MemPlace} {b0 : Nat} {r : Reach} (hv : Value.okWide Tryd.prog W r b0 40 v) (h : DataW.Trod enc Tryd.prog W base spare held 40 v d p) :
    ∃ C : List Int, v = codesV C ∧ C.length = 256 := by
  have hcs : ∃ cs, v = .agg cs := by
    simp only [Value.okWide, Tryd.underlying40] at hv
    obtain ⟨cs, h1, _⟩ := hv
    exact ⟨cs, h1⟩
  obtain ⟨cs, rfl⟩ := hcs
  obtain ⟨fuel, hf⟩ := h
  obtain ⟨xs, m, rfl, hx, hlen, hn, hel⟩ := DataW.trod_array Tryd.underlying40 hf
  have e1 : Tryd.prog.cellsOf 3 = 1 := by kernel_rfl
  have e2 : Tryd.prog.cellsOf 40 = 256 := by kernel_rfl
  rw [e2] at hlen
  have hl : cs.toList.length = 256 := hlen
  have each : ∀ i, ∃ z : Int, i < 256 → cs.toList[i]? = some (.int .i64 z) := by
    intro i
    by_cases hi : i < 256
    · have h1 := hel i hi
      rw [e1, Nat.mul_one, List.getElem?_eq_getElem (by omega)] at h1
      obtain ⟨z, h2, _, _⟩ := DataW.trod_int Tryd.underlying3 h1
      refine ⟨z, fun _ => ?_⟩
      have h3 : (List.take 1 (List.drop i cs.toList))[0]? = some (.int .i64 z) := by
        have : List.take 1 (List.drop i cs.toList) = [.int .i64 z] := h2
        rw [this]; rfl
      simpa [List.getElem?_take, List.getElem?_drop] using h3
    · exact ⟨0, fun h => absurd h hi⟩
  obtain ⟨f, hf2⟩ := Classical.axiomOfChoice each
  refine ⟨(List.range 256).map f, ?_, by simp⟩
  congr 1
  apply Array.ext'
  apply List.ext_getElem?
  intro i
  by_cases hi : i < 256
  · rw [hf2 i hi]
    simp [hi]
  · rw [List.getElem?_eq_none (by omega)]
    simp [hi]

end
end Go.Proofs.YtlfekbmcegbhoaaDoor
