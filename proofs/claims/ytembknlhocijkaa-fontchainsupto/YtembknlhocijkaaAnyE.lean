
/-
  A region that draws its order, walked once; its last operation may leave the class. Conditions: those of the theorems.
-/
import Derived.Test.YtembknlhocijkaaAnyC
import Derived.StillTail
namespace Go.Sp
open Go
variable {P : Program} {ops : Array Oper} {md : Region.Mode} {C : World → Prop} {Q : Exit → Act → World → Prop}

def allIn (ops : Array Oper) (listed : Array Bool) : Prop := ∀ k, k < ops.size → listed.getD k false = true
def allInB (ops : Array Oper) (listed : Array Bool) : Bool := (List.range ops.size).all fun k => listed.getD k false
theorem allIn_of {listed : Array Bool} (h : allInB ops listed = true) : allIn ops listed := fun k hk => List.all_eq_true.1 h k (List.mem_range.2 hk)

/-- Whatever order is picked from here on; each world on the way is of the class, but for the last one. -/
def wpAnyE (P : Program) (md : Region.Mode) (ops : Array Oper) (C : World → Prop) (Q : Exit → Act → World → Prop) : Nat → Array Bool → Act → World → Prop
  | 0, listed, a, w => (C w ∨ allIn ops listed) ∧ Region.ready md ops listed = [] ∧ Q .normal a w
  | fuel + 1, listed, a, w => (C w ∨ allIn ops listed) ∧ (Region.ready md ops listed = [] → Q .normal a w) ∧
    ∀ i ∈ Region.ready md ops listed, wpOp P ops Q i (wpAnyE P md ops C Q fuel (listed.setIfInBounds i true)) a w

theorem wpAnyE.cls {f : Nat} {listed : Array Bool} {a : Act} {w : World} (h : wpAnyE P md ops C Q f listed a w) : C w ∨ allIn ops listed := by
  cases f with
  | zero => exact h.1
  | succ f => exact h.1

theorem wpAny_of_E : ∀ (f : Nat) (listed : Array Bool) (a : Act) (w : World), wpAnyE P md ops C Q f listed a w → wpAny P md ops Q f listed a w
  | 0, _, _, _, h => h.2
  | f + 1, _, _, _, h => ⟨h.2.1, fun i hi => wpOp_mono (fun a' w' h' => wpAny_of_E f _ a' w' h') (h.2.2 i hi)⟩

theorem wpE_first {i q : Nat} {oi : Oper} {v : Value} (hi : ops[i]? = some oi) (hsel : ∀ (j : Nat) (o : Oper) cs b, ops[j]? = some o → o.op ≠ .select cs b)
    (hQ : ∀ c a w, Q (.panic c) (a.put oi.dst v) w → Q (.panic c) a w) (hq : Region.waitsFor md ops q i = true) :
    ∀ (fuel : Nat) (listed : Array Bool) (a : Act) (w : World),
      (∀ j oj, ops[j]? = some oj → j ≠ i → listed.getD j true = false → (∀ e ∈ oj.after, Region.binds md e = true → e.on ≠ i) → oi.apart ops oj = true) →
      i ∈ Region.ready md ops listed → listed.getD q false = false → YieldsC P ops C oi v a →
      wpAnyE P md ops C Q fuel (listed.setIfInBounds i true) (a.put oi.dst v) w → wpAnyE P md ops C Q (fuel + 1) listed a w := by
  obtain ⟨oq, hoq, e0, he0, hb0, hon0⟩ := Region.waitsFor_spec hq
  have hqs : q < ops.size := (Array.getElem?_eq_some_iff.1 hoq).1
  have hqi : ∀ listed : Array Bool, i ∈ Region.ready md ops listed → listed.getD q false = false → q ≠ i := by
    rintro listed hr hu rfl
    obtain ⟨hun, o, ho, hall⟩ := mem_ready.1 hr
    have : o = oq := Option.some.inj (ho.symm.trans hoq)
    subst this
    have := hall e0 he0 hb0
    rw [hon0] at this
    rw [this] at hu; cases hu
  have key : ∀ (f : Nat) (listed : Array Bool) (a : Act) (w : World), i ∈ Region.ready md ops listed → listed.getD q false = false → wpAnyE P md ops C Q f (listed.setIfInBounds i true) a w → C w := by
    intro f listed a w hr hu h
    rcases h.cls with h | h
    · exact h
    · have h1 := h q hqs
      rw [getD_set_ne false (Ne.symm (hqi listed hr hu))] at h1
      rw [h1] at hu; cases hu
  intro fuel
  induction fuel with
  | zero =>
    intro listed a w _ hr hu hy H
    have hC := key _ listed _ w hr hu H
    refine ⟨.inl hC, fun h => (by rw [h] at hr; cases hr), fun j hj => ?_⟩
    by_cases hji : j = i
    · subst hji; exact hy.wpOp hi hC H
    · have := ready_mono hj hji
      rw [H.2.1] at this
      cases this
  | succ fuel ih =>
    intro listed a w hfree hr hu hy H
    have hC := key _ listed _ w hr hu H
    refine ⟨.inl hC, fun h => (by rw [h] at hr; cases hr), fun j hj => ?_⟩
    by_cases hji : j = i
    · subst hji; exact hy.wpOp hi hC H
    · have h1 := H.2.2 j (ready_mono hj hji)
      obtain ⟨hjun, oj, hoj, hall⟩ := mem_ready.1 hj
      have hnot : ∀ e ∈ oj.after, Region.binds md e = true → e.on ≠ i := fun e he hb heq => by
        have h1 := hall e he hb
        have h0 := (mem_ready.1 hr).1
        rw [heq] at h1
        rcases Nat.lt_or_ge i listed.size with h' | h'
        · simp [h'] at h0 h1; rw [h0] at h1; cases h1
        · simp [Array.getElem?_eq_none h'] at h1
      have hjq : j ≠ q := by
        rintro rfl
        have : oj = oq := Option.some.inj (hoj.symm.trans hoq)
        subst this
        exact hnot e0 he0 hb0 hon0
      have h2 := wpOp_putC hoj (hfree j oj hoj hji hjun hnot) (fun cs b => hsel i oi cs b hi) (fun cs b => hsel j oj cs b hoj) hQ hy h1
      have hfree' : ∀ k ok, ops[k]? = some ok → k ≠ i → (listed.setIfInBounds j true).getD k true = false →
          (∀ e ∈ ok.after, Region.binds md e = true → e.on ≠ i) → oi.apart ops ok = true := fun k ok hk hki hun hno => by
        refine hfree k ok hk hki ?_ hno
        by_cases hjk : j = k
        · subst hjk; exact hjun
        · rw [getD_set_ne true hjk] at hun; exact hun
      refine wpOp_mono (fun a' w' h3 => ih (listed.setIfInBounds j true) a' w' hfree' (ready_mono hr (Ne.symm hji)) (by rw [getD_set_ne false hjq]; exact hu) h3.1 ?_) h2
      rw [Array.setIfInBounds_comm _ _ hji]
      exact h3.2

/-- An operation that only reads is taken first; q: one that waits for it. -/
theorem wpE_take {i q : Nat} {oi : Oper} {v : Value} {fuel : Nat} {listed : Array Bool} {a : Act} {w : World} (hi : ops[i]? = some oi)
    (hs : Region.noSelect ops = true) (hf : Region.free md ops listed i = true) (hr : (Region.ready md ops listed).contains i = true) (hq : Region.waitsFor md ops q i = true) (hu : listed.getD q false = false)
    (hQ : ∀ c a w, Q (.panic c) (a.put oi.dst v) w → Q (.panic c) a w) (hg : Region.wanted oi (yielded ops a.tmps) = true) (hy : ∀ w, C w → (execOp a.eval oi).run P w = .ok (.value v) w)
    (h : wpAnyE P md ops C Q fuel (listed.setIfInBounds i true) (a.put oi.dst v) w) : wpAnyE P md ops C Q (fuel + 1) listed a w :=
  wpE_first hi (Region.noSelect_spec hs) hQ hq fuel listed a w (Region.free_spec hi hf) (by simpa using hr) hu (.inl ⟨hg, hy⟩) h
theorem wpE_pass {i q : Nat} {oi : Oper} {fuel : Nat} {listed : Array Bool} {a : Act} {w : World} (hi : ops[i]? = some oi)
    (hs : Region.noSelect ops = true) (hf : Region.free md ops listed i = true) (hr : (Region.ready md ops listed).contains i = true) (hq : Region.waitsFor md ops q i = true) (hu : listed.getD q false = false)
    (hQ : ∀ c a w, Q (.panic c) (a.put oi.dst undef) w → Q (.panic c) a w) (hg : Region.wanted oi (yielded ops a.tmps) = false)
    (h : wpAnyE P md ops C Q fuel (listed.setIfInBounds i true) (a.put oi.dst undef) w) : wpAnyE P md ops C Q (fuel + 1) listed a w :=
  wpE_first hi (Region.noSelect_spec hs) hQ hq fuel listed a w (Region.free_spec hi hf) (by simpa using hr) hu (.inr ⟨hg, rfl⟩) h

/-- The one operation that can come next. -/
theorem wpE_one {i : Nat} {o : Oper} {fuel : Nat} {listed : Array Bool} {a : Act} {w : World} (hi : ops[i]? = some o) (hr : Region.ready md ops listed = [i]) (hC : C w)
    (h : ∀ K : Act → World → Prop, (∀ a w, wpAnyE P md ops C Q fuel (listed.setIfInBounds i true) a w → K a w) → if Region.wanted o (yielded ops a.tmps) = true then Oper.wp P o a w K Q else K (a.put o.dst undef) w) :
    wpAnyE P md ops C Q (fuel + 1) listed a w := by
  refine ⟨.inl hC, fun h0 => (by rw [hr] at h0; cases h0), fun j hj => ?_⟩
  rw [hr] at hj
  obtain rfl : j = i := by simpa using hj
  exact wpOp_step hi h
/-- Those that can come next, one by one. -/
def AllReadyE (P : Program) (md : Region.Mode) (ops : Array Oper) (C : World → Prop) (Q : Exit → Act → World → Prop) (fuel : Nat) (listed : Array Bool) (a : Act) (w : World) (rs : List Nat) : Prop :=
  ∀ i ∈ rs, wpOp P ops Q i (wpAnyE P md ops C Q fuel (listed.setIfInBounds i true)) a w
theorem AllReadyE.nil {fuel : Nat} {listed : Array Bool} {a : Act} {w : World} : AllReadyE P md ops C Q fuel listed a w [] := fun _ h => by cases h
theorem AllReadyE.cons {fuel : Nat} {listed : Array Bool} {a : Act} {w : World} {i : Nat} {o : Oper} {rs : List Nat} (ho : ops[i]? = some o)
    (h : ∀ K' : Act → World → Prop, (∀ a w, wpAnyE P md ops C Q fuel (listed.setIfInBounds i true) a w → K' a w) → if Region.wanted o (yielded ops a.tmps) = true then Oper.wp P o a w K' Q else K' (a.put o.dst undef) w)
    (hs : AllReadyE P md ops C Q fuel listed a w rs) : AllReadyE P md ops C Q fuel listed a w (i :: rs) := fun j hj => by
  rcases List.mem_cons.1 hj with rfl | hj
  · exact wpOp_step ho h
  · exact hs j hj
theorem wpE_ready {rs : List Nat} {fuel : Nat} {listed : Array Bool} {a : Act} {w : World} (hr : Region.ready md ops listed = rs) (hne : rs ≠ []) (hC : C w)
    (h : AllReadyE P md ops C Q fuel listed a w rs) : wpAnyE P md ops C Q (fuel + 1) listed a w :=
  ⟨.inl hC, fun h0 => absurd (hr ▸ h0) hne, hr ▸ h⟩
theorem wpE_done {fuel : Nat} {listed : Array Bool} {a : Act} {w : World} (hr : Region.ready md ops listed = []) (hl : allInB ops listed = true) (h : Q .normal a w) : wpAnyE P md ops C Q fuel listed a w := by
  cases fuel with
  | zero => exact ⟨.inr (allIn_of hl), hr, h⟩
  | succ f => exact ⟨.inr (allIn_of hl), fun _ => h, by rw [hr]; simp⟩
theorem wp_region_E (C : World → Prop) {id : Nat} {a : Act} {w : World} (hm : P.follows .mixedOrders = true)
    (h : wpAnyE P .any ops C Q ops.size (Array.replicate ops.size false) a w.drew) : (Code.region id ops true).wp P Q a w :=
  wp_region_any hm (wpAny_of_E _ _ _ _ h)
end Go.Sp
