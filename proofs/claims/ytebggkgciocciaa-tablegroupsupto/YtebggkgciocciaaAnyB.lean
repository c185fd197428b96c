
/-
  A region that draws its order, walked once; behind a barrier (an operation b) it may leave the class. Conditions: those of the theorems.
-/
import Derived.Test.YtebggkgciocciaaAnyC
import Derived.StillTail
namespace Go.Sp
open Go
variable {P : Program} {ops : Array Oper} {md : Region.Mode} {b : Nat} {C C' : World → Prop} {Q : Exit → Act → World → Prop}

/-- Whatever order is picked from here on; each world ahead of the operation b is of the class. -/
def wpAnyB (P : Program) (md : Region.Mode) (ops : Array Oper) (b : Nat) (C : World → Prop) (Q : Exit → Act → World → Prop) : Nat → Array Bool → Act → World → Prop
  | 0, listed, a, w => (C w ∨ listed.getD b false = true) ∧ Region.ready md ops listed = [] ∧ Q .normal a w
  | fuel + 1, listed, a, w => (C w ∨ listed.getD b false = true) ∧ (Region.ready md ops listed = [] → Q .normal a w) ∧
    ∀ i ∈ Region.ready md ops listed, wpOp P ops Q i (wpAnyB P md ops b C Q fuel (listed.setIfInBounds i true)) a w

theorem wpAnyB.cls {f : Nat} {listed : Array Bool} {a : Act} {w : World} (h : wpAnyB P md ops b C Q f listed a w) : C w ∨ listed.getD b false = true := by
  cases f with
  | zero => exact h.1
  | succ f => exact h.1

theorem wpAny_of_B : ∀ (f : Nat) (listed : Array Bool) (a : Act) (w : World), wpAnyB P md ops b C Q f listed a w → wpAny P md ops Q f listed a w
  | 0, _, _, _, h => h.2
  | f + 1, _, _, _, h => ⟨h.2.1, fun i hi => wpOp_mono (fun a' w' h' => wpAny_of_B f _ a' w' h') (h.2.2 i hi)⟩

theorem wpB_first {i : Nat} {oi : Oper} {v : Value} (hi : ops[i]? = some oi) (hsel : ∀ (j : Nat) (o : Oper) cs b, ops[j]? = some o → o.op ≠ .select cs b)
    (hQ : ∀ c a w, Q (.panic c) (a.put oi.dst v) w → Q (.panic c) a w) (hib : i ≠ b)
    (I : Array Bool → Prop) (hI : ∀ (listed : Array Bool) (j : Nat) (oj : Oper), I listed → ops[j]? = some oj → (∀ e ∈ oj.after, Region.binds md e = true → e.on ≠ i) → I (listed.setIfInBounds j true))
    (key : ∀ (f : Nat) (listed : Array Bool) (a : Act) (w : World), I listed → wpAnyB P md ops b C Q f (listed.setIfInBounds i true) a w → C' w) :
    ∀ (fuel : Nat) (listed : Array Bool) (a : Act) (w : World),
      (∀ j oj, ops[j]? = some oj → j ≠ i → listed.getD j true = false → (∀ e ∈ oj.after, Region.binds md e = true → e.on ≠ i) → oi.apart ops oj = true) →
      i ∈ Region.ready md ops listed → I listed → YieldsC P ops C' oi v a →
      wpAnyB P md ops b C Q fuel (listed.setIfInBounds i true) (a.put oi.dst v) w → wpAnyB P md ops b C Q (fuel + 1) listed a w := by
  have hcl : ∀ {f : Nat} {listed : Array Bool} {a : Act} {w : World}, wpAnyB P md ops b C Q f (listed.setIfInBounds i true) a w → C w ∨ listed.getD b false = true := by
    intro f listed a w h
    rcases h.cls with h | h
    · exact .inl h
    · rw [getD_set_ne false hib] at h; exact .inr h
  intro fuel
  induction fuel with
  | zero =>
    intro listed a w _ hr hu hy H
    have hC := key _ listed _ w hu H
    refine ⟨hcl H, fun h => (by rw [h] at hr; cases hr), fun j hj => ?_⟩
    by_cases hji : j = i
    · subst hji; exact hy.wpOp hi hC H
    · have := ready_mono hj hji
      rw [H.2.1] at this
      cases this
  | succ fuel ih =>
    intro listed a w hfree hr hu hy H
    have hC := key _ listed _ w hu H
    refine ⟨hcl H, fun h => (by rw [h] at hr; cases hr), fun j hj => ?_⟩
    by_cases hji : j = i
    · subst hji; exact hy.wpOp hi hC H
    · have h1 := H.2.2 j (ready_mono hj hji)
      obtain ⟨hjun, oj, hoj, hall⟩ := mem_ready.1 hj
      have hnot : ∀ e ∈ oj.after, Region.binds md e = true → e.on ≠ i := fun e he hb heq => by
        have h1 := hall e he hb
        have h0 := (mem_ready.1 hr).1
        rw [heq] at h1
        rcases Nat.lt_or_ge i listed.size with h' | h'
        · simp [h'] at h0 h1; rw [h0] at h1; cases h1
        · simp [Array.getElem?_eq_none h'] at h1
      have h2 := wpOp_putC hoj (hfree j oj hoj hji hjun hnot) (fun cs b => hsel i oi cs b hi) (fun cs b => hsel j oj cs b hoj) hQ hy h1
      have hfree' : ∀ k ok, ops[k]? = some ok → k ≠ i → (listed.setIfInBounds j true).getD k true = false →
          (∀ e ∈ ok.after, Region.binds md e = true → e.on ≠ i) → oi.apart ops ok = true := fun k ok hk hki hun hno => by
        refine hfree k ok hk hki ?_ hno
        by_cases hjk : j = k
        · subst hjk; exact hjun
        · rw [getD_set_ne true hjk] at hun; exact hun
      refine wpOp_mono (fun a' w' h3 => ih (listed.setIfInBounds j true) a' w' hfree' (ready_mono hr (Ne.symm hji)) (hI listed j oj hu hoj hnot) h3.1 ?_) h2
      rw [Array.setIfInBounds_comm _ _ hji]
      exact h3.2


/-- An operation that only reads, and for which the barrier waits, is taken first. -/
theorem wpB_take {i : Nat} {oi : Oper} {v : Value} {fuel : Nat} {listed : Array Bool} {a : Act} {w : World} (hi : ops[i]? = some oi)
    (hs : Region.noSelect ops = true) (hf : Region.free md ops listed i = true) (hr : (Region.ready md ops listed).contains i = true) (hq : Region.waitsFor md ops b i = true) (hib : i ≠ b) (hu : listed.getD b false = false)
    (hQ : ∀ c a w, Q (.panic c) (a.put oi.dst v) w → Q (.panic c) a w) (hg : Region.wanted oi (yielded ops a.tmps) = true) (hy : ∀ w, C w → (execOp a.eval oi).run P w = .ok (.value v) w)
    (h : wpAnyB P md ops b C Q fuel (listed.setIfInBounds i true) (a.put oi.dst v) w) : wpAnyB P md ops b C Q (fuel + 1) listed a w := by
  obtain ⟨oq, hoq, e0, he0, hb0, hon0⟩ := Region.waitsFor_spec hq
  refine wpB_first (C' := C) hi (Region.noSelect_spec hs) hQ hib (fun l => l.getD b false = false) (fun l j oj hl hoj hnot => ?_) (fun f l a w hl H => ?_) fuel listed a w (Region.free_spec hi hf) (by simpa using hr) hu (.inl ⟨hg, hy⟩) h
  · have hjb : j ≠ b := by
      rintro rfl
      have : oj = oq := Option.some.inj (hoj.symm.trans hoq)
      subst this
      exact hnot e0 he0 hb0 hon0
    rw [getD_set_ne false hjb]; exact hl
  · rcases H.cls with h | h
    · exact h
    · rw [getD_set_ne false hib, hl] at h; cases h

/-- An operation that looks at no world is taken first. -/
theorem wpB_pure {i : Nat} {oi : Oper} {v : Value} {fuel : Nat} {listed : Array Bool} {a : Act} {w : World} (hi : ops[i]? = some oi)
    (hs : Region.noSelect ops = true) (hf : Region.free md ops listed i = true) (hr : (Region.ready md ops listed).contains i = true) (hib : i ≠ b)
    (hQ : ∀ c a w, Q (.panic c) (a.put oi.dst v) w → Q (.panic c) a w) (hg : Region.wanted oi (yielded ops a.tmps) = true) (hy : ∀ w, (execOp a.eval oi).run P w = .ok (.value v) w)
    (h : wpAnyB P md ops b C Q fuel (listed.setIfInBounds i true) (a.put oi.dst v) w) : wpAnyB P md ops b C Q (fuel + 1) listed a w :=
  wpB_first (C' := fun _ => True) hi (Region.noSelect_spec hs) hQ hib (fun _ => True) (fun _ _ _ _ _ _ => trivial) (fun _ _ _ _ _ _ => trivial) fuel listed a w (Region.free_spec hi hf) (by simpa using hr) trivial (.inl ⟨hg, fun w _ => hy w⟩) h

/-- The one operation that can come next. -/
theorem wpB_one {i : Nat} {o : Oper} {fuel : Nat} {listed : Array Bool} {a : Act} {w : World} (hi : ops[i]? = some o) (hr : Region.ready md ops listed = [i]) (hC : C w ∨ listed.getD b false = true)
    (h : ∀ K : Act → World → Prop, (∀ a w, wpAnyB P md ops b C Q fuel (listed.setIfInBounds i true) a w → K a w) → if Region.wanted o (yielded ops a.tmps) = true then Oper.wp P o a w K Q else K (a.put o.dst undef) w) :
    wpAnyB P md ops b C Q (fuel + 1) listed a w := by
  refine ⟨hC, fun h0 => (by rw [hr] at h0; cases h0), fun j hj => ?_⟩
  rw [hr] at hj
  obtain rfl : j = i := by simpa using hj
  exact wpOp_step hi h
theorem wpB_done {fuel : Nat} {listed : Array Bool} {a : Act} {w : World} (hr : Region.ready md ops listed = []) (hl : listed.getD b false = true) (h : Q .normal a w) : wpAnyB P md ops b C Q fuel listed a w := by
  cases fuel with
  | zero => exact ⟨.inr hl, hr, h⟩
  | succ f => exact ⟨.inr hl, fun _ => h, by rw [hr]; simp⟩
theorem wp_region_B (b : Nat) (C : World → Prop) {id : Nat} {a : Act} {w : World} (hm : P.follows .mixedOrders = true)
    (h : wpAnyB P .any ops b C Q ops.size (Array.replicate ops.size false) a w.drew) : (Code.region id ops true).wp P Q a w :=
  wp_region_any hm (wpAny_of_B _ _ _ _ h)
end Go.Sp
