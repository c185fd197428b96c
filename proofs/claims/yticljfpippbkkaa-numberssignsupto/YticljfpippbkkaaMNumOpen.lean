import Derived.Test.YticljfpippbkkaaMNKW
import Derived.Deep.Slices
import Derived.Deep.Fields
import Derived.ChangeSame
import Derived.ChangeSlices
import Derived.OpenShut
import Derived.Lib.SmallJoins
/-
  Bytes that come in, opened. Conditions: none.
-/
namespace Go.Proofs.Yticljfpippbkkaa
open Go.RowKit Go.Sp Go.ChangeShapes Go.WideShapes Go.Deep

section
variable {H : Type} {enc : TypeId × Value → H} {W : World} {base : Nat} {spare : Nat → Bool} {held : Bool}

theorem bulk_one {H : Type} (d : DataW H) : 1 ≤ Rows.uptoBulk d := by
  cases d with
  | lit l => cases l <;> simp [Rows.uptoBulk]
  | nil => simp [Rows.uptoBulk]
  | ptr d => simp [Rows.uptoBulk]
  | slice elems spare => simp [Rows.uptoBulk]
  | agg parts => simp [Rows.uptoBulk]
  | iface t d => simp [Rows.uptoBulk]
  | map entries => simp [Rows.uptoBulk]
  | held h => simp [Rows.uptoBulk]
theorem bulk_len {H : Type} (l : List (DataW H)) : l.length ≤ Rows.uptoBulkAll l := by
  induction l with
  | nil => simp [Rows.uptoBulkAll]
  | cons x r ih => have := bulk_one x; simp only [Rows.uptoBulkAll, List.length_cons]; omega

set_option maxRecDepth 100000 in
theorem open_bytes {v : Value} {d : DataW H} {p : List MemPlace} {b0 : Nat} {r : Reach} (hv : Value.okWide Try.prog W r b0 36 v) (h : DataW.Trod enc Try.prog W base spare held 36 v d p) :
    ∃ (l : List UInt8) (a : Option Addr) (cap : Nat), v = .slice a l.length cap ∧ l.length ≤ cap ∧ Rd W v l.length 1 (l.map byteV) ∧ l.length + 1 ≤ Rows.uptoBulk d := by
  obtain ⟨fuel, hf⟩ := h
  obtain ⟨a0, n0, c0, e1⟩ := okWide_slice Try.underlying36 hv
  subst e1
  rcases open_ints Try.underlying36 Try.underlying5 (by kernel_rfl) hf with ⟨he, hx⟩ | ⟨a, len, cap, zs, he, hb, hl, hm, hz, hx, hc, hw⟩
  · have e2 : Value.slice a0 n0 c0 = .slice none 0 0 := by simpa [Value.cells] using he
    simp only [Value.slice.injEq] at e2
    obtain ⟨rfl, rfl, rfl⟩ := e2
    exact ⟨[], none, 0, rfl, Nat.le_refl _, ⟨rfl, Nat.zero_le _, none, 0, rfl, fun j u hu => by simp at hu⟩, bulk_one d⟩
  · have e2 : Value.slice a0 n0 c0 = .slice (some a) len cap := by simpa [Value.cells] using he
    simp only [Value.slice.injEq] at e2
    obtain ⟨rfl, rfl, rfl⟩ := e2
    have hlz : n0 ≤ zs.length := by rw [hz]; split <;> omega
    have hbyte : ∀ z ∈ zs, 0 ≤ z ∧ z < 256 := fun z h => by
      have h1 := hw z h
      have hmn : IntKind.u8.min = 0 := by decide
      have hMx : IntKind.u8.max = 255 := by decide
      simp [Lit.wf] at h1
      omega
    obtain ⟨l, hl2⟩ : ∃ l : List UInt8, l = (zs.take n0).map fun z => UInt8.ofNat z.toNat := ⟨_, rfl⟩
    have hll : l.length = n0 := by rw [hl2, List.length_map, List.length_take]; omega
    refine ⟨l, some a, c0, by rw [hll], by omega, ⟨by simp, by rw [hll]; omega, some a, c0, by rw [hll], fun j u hu => ?_⟩, ?_⟩
    · have hj : j < n0 := by
        have := (List.getElem?_eq_some_iff.1 hu).1
        simpa [hll] using this
      have hjz : j < zs.length := by omega
      have h1 := hc j hjz
      have hsp : a.spot = none := by
        have h00 := hc 0 (by omega)
        rw [show a.add 0 = a by simp [Addr.add]] at h00
        exact World.cell?_spot h00
      obtain ⟨b, off, spot⟩ := a
      simp only at hsp
      subst hsp
      rw [Addr.add_lit] at h1
      refine ⟨b, off, rfl, ?_⟩
      rw [h1]
      have h2 := hbyte _ (List.getElem_mem hjz)
      rw [hl2, List.map_map, List.getElem?_map, List.getElem?_take, if_pos hj, List.getElem?_eq_getElem hjz] at hu
      simp only [Option.map_some, Option.some.injEq, Function.comp_apply] at hu
      rw [← hu, List.getD, List.getElem?_eq_getElem hjz]
      simp only [Option.getD_some, byteV, UInt8.toNat_ofNat']
      congr 2
      omega
    · simp only [Prod.mk.injEq] at hx
      rw [hx.1]
      simp only [Rows.uptoBulk]
      have h1 := bulk_len (lits (H := H) .u8 (zs.take n0))
      have h2 : (lits (H := H) .u8 (zs.take n0)).length = n0 := by simp [lits]; omega
      rw [h2] at h1
      rw [hll]
      omega
end
end Go.Proofs.Yticljfpippbkkaa
