import Derived.Test.YticljfpippbkkaaDoorMLA
import Derived.StillTail
import Derived.Test.YticljfpippbkkaaDoorMTS
/-
  A region that draws its order, walked once; behind a barrier (an operation b) it may leave the class. Conditions: those of the theorems.
-/
namespace Go.Sp
open Go
variable {P : Program} {ops : Array Oper} {md : Region.Mode} {b : Nat} {C C' : World → Prop} {Q : Exit → Act → World → Prop}

/-- Whatever order is picked from here on; each world ahead of the operation b is of the class. -/
def wpAnyB (P : Program) (md : Region.Mode) (ops : Array Oper) (b : Nat) (C : World → Prop) (Q : Exit → Act → World → Prop) : Nat → Array Bool → Act → World → Prop
  | 0, listed, a, w => (C w ∨ listed.getD b false = true) ∧ Region.ready md ops listed = [] ∧ Q .normal a w
  | fuel + 1, listed, a, w => (C w ∨ listed.getD b false = true) ∧ (Region.ready md ops listed = [] → Q .normal a w) ∧
    ∀ i ∈ Region.ready md ops listed, wpOp P ops Q i (wpAnyB P md ops b C Q fuel (listed.setIfInBounds i true)) a w

theorem wpAnyB.cls {f : Nat} {listed : Array Bool} {a : Act} {w : World} (h : wpAnyB P md ops b C Q f listed a w) : C w ∨ listed.getD b false = true := by
  cases f with
  | zero => exact h.1
  | succ f => exact h.1

theorem wpAny_of_B : ∀ (f : Nat) (listed : Array Bool) (a : Act) (w : World), wpAnyB P md ops b C Q f listed a w → wpAny P md ops Q f listed a w
  | 0, _, _, _, h => h.2
  | f + 1, _, _, _, h => ⟨h.2.1, fun i hi => wpOp_mono (fun a' w' h' => wpAny_of_B f _ a' w' h') (h.2.2 i hi)⟩

theorem wpB_first {i : Nat} {oi : Oper} {v : Value} (hi : ops[i]? = some oi) (hsel : ∀ (j : Nat) (o : Oper) cs b, ops[j]? = some o → o.op ≠ .select cs b)
    (hQ : ∀ c a w, Q (.panic c) (a.put oi.dst v) w → Q (.panic c) a w) (hib : i ≠ b)
    (I : Array Bool → Prop) (hI : ∀ (listed : Array Bool) (j : Nat) (oj : Oper), I listed → ops[j]? = some oj → (∀ e ∈ oj.after, Region.binds md e = true → e.on ≠ i) → I (listed.setIfInBounds j true))
    (key : ∀ (f : Nat) (listed : Array Bool) (a : Act) (w : World), I listed → wpAnyB P md ops b C Q f (listed.setIfInBounds i true) a w → C' w) :
    ∀ (fuel : Nat) (listed : Array Bool) (a : Act) (w : World),
      (∀ j oj, ops[j]? = some oj → j ≠ i → listed.getD j true = false → (∀ e ∈ oj.after, Region.binds md e = true → e.on ≠ i) → oi.apart ops oj = true) →
      i ∈ Region.ready md ops listed → I listed → YieldsC P ops C' oi v a →
      wpAnyB P md ops b C Q fuel (listed.setIfInBounds i true) (a.put oi.dst v) w → wpAnyB P md ops b C Q (fuel + 1) listed a w := by
  have hcl : ∀ {f : Nat} {listed : Array Bool} {a : Act} {w : World}, wpAnyB P md ops b C Q f (listed.setIfInBounds i true) a w → C w ∨ listed.getD b false = true := by
    intro f listed a w h
    rcases h.cls with h | h
    · exact .inl h
    · rw [getD_set_ne false hib] at h; exact .inr h
  intro fuel
  induction fuel with
  | zero =>
    intro listed a w _ hr hu hy H
    have hC := key _ listed _ w hu H
    refine ⟨hcl H, fun h => (by rw [h] at hr; cases hr), fun j hj => ?_⟩
    by_cases hji : j = i
    · subst hji; exact hy.wpOp hi hC H
    · have := ready_mono hj hji
      rw [H.2.1] at this
      cases this
  | succ fuel ih =>
    intro listed a w hfree hr hu hy H
    have hC := key _ listed _ w hu H
    refine ⟨hcl H, fun h => (by rw [h] at hr; cases hr), fun j hj => ?_⟩
    by_cases hji : j = i
    · subst hji; exact hy.wpOp hi hC H
    · have h1 := H.2.2 j (ready_mono hj hji)
      obtain ⟨hjun, oj, hoj, hall⟩ := mem_ready.1 hj
      have hnot : ∀ e ∈ oj.after, Region.binds md e = true → e.on ≠ i := fun e he hb heq => by
        have h1 := hall e he hb
        have h0 := (mem_ready.1 hr).1
        rw [heq] at h1
        rcases Nat.lt_or_ge i listed.size with h' | h'
        · simp [h'] at h0 h1; rw [h0] at h1; cases h1
        · simp [Array.getElem?_eq_none h'] at h1
      have h2 := wpOp_putC hoj (hfree j oj hoj hji hjun hnot) (fun cs b => hsel i oi cs b hi) (fun cs b => hsel j oj cs b hoj) hQ hy h1
      have hfree' : ∀ k ok, ops[k]? = some ok → k ≠ i → (listed.setIfInBounds j true).getD k true = false →
          (∀ e ∈ ok.after, Region.binds md e = true → e.on ≠ i) → oi.apart ops ok = true := fun k ok hk hki hun hno => by
        refine hfree k ok hk hki ?_ hno
        by_cases hjk : j = k
        · subst hjk; exact hjun
        · rw [getD_set_ne true hjk] at hun; exact hun
      refine wpOp_mono (fun a' w' h3 => ih (listed.setIfInBounds j true) a' w' hfree' (ready_mono hr (Ne.symm hji)) (hI listed j oj hu hoj hnot) h3.1 ?_) h2
      rw [Array.setIfInBounds_comm _ _ hji]
      exact h3.2


/-- An operation that only reads, and for which the barrier waits, is taken first. -/
theorem wpB_take {i : Nat} {oi : Oper} {v : Value} {fuel : Nat} {listed : Array Bool} {a : Act} {w : World} (hi : ops[i]? = some oi)
    (hs : Region.noSelect ops = true) (hf : Region.free md ops listed i = true) (hr : (Region.ready md ops listed).contains i = true) (hq : Region.waitsFor md ops b i = true) (hib : i ≠ b) (hu : listed.getD b false = false)
    (hQ : ∀ c a w, Q (.panic c) (a.put oi.dst v) w → Q (.panic c) a w) (hg : Region.wanted oi (yielded ops a.tmps) = true) (hy : ∀ w, C w → (execOp a.eval oi).run P w = .ok (.value v) w)
    (h : wpAnyB P md ops b C Q fuel (listed.setIfInBounds i true) (a.put oi.dst v) w) : wpAnyB P md ops b C Q (fuel + 1) listed a w := by
  obtain ⟨oq, hoq, e0, he0, hb0, hon0⟩ := Region.waitsFor_spec hq
  refine wpB_first (C' := C) hi (Region.noSelect_spec hs) hQ hib (fun l => l.getD b false = false) (fun l j oj hl hoj hnot => ?_) (fun f l a w hl H => ?_) fuel listed a w (Region.free_spec hi hf) (by simpa using hr) hu (.inl ⟨hg, hy⟩) h
  · have hjb : j ≠ b := by
      rintro rfl
      have : oj = oq := Option.some.inj (hoj.symm.trans hoq)
      subst this
      exact hnot e0 he0 hb0 hon0
    rw [getD_set_ne false hjb]; exact hl
  · rcases H.cls with h | h
    · exact h
    · rw [getD_set_ne false hib, hl] at h; cases h

/-- An operation that looks at no world is taken first. -/
theorem wpB_pure {i : Nat} {oi : Oper} {v : Value} {fuel : Nat} {listed : Array Bool} {a : Act} {w : World} (hi : ops[i]? = some oi)
    (hs : Region.noSelect ops = true) (hf : Region.free md ops listed i = true) (hr : (Region.ready md ops listed).contains i = true) (hib : i ≠ b)
    (hQ : ∀ c a w, Q (.panic c) (a.put oi.dst v) w → Q (.panic c) a w) (hg : Region.wanted oi (yielded ops a.tmps) = true) (hy : ∀ w, (execOp a.eval oi).run P w = .ok (.value v) w)
    (h : wpAnyB P md ops b C Q fuel (listed.setIfInBounds i true) (a.put oi.dst v) w) : wpAnyB P md ops b C Q (fuel + 1) listed a w :=
  wpB_first (C' := fun _ => True) hi (Region.noSelect_spec hs) hQ hib (fun _ => True) (fun _ _ _ _ _ _ => trivial) (fun _ _ _ _ _ _ => trivial) fuel listed a w (Region.free_spec hi hf) (by simpa using hr) trivial (.inl ⟨hg, fun w _ => hy w⟩) h

/-- The one operation that can come next. -/
theorem wpB_one {i : Nat} {o : Oper} {fuel : Nat} {listed : Array Bool} {a : Act} {w : World} (hi : ops[i]? = some o) (hr : Region.ready md ops listed = [i]) (hC : C w ∨ listed.getD b false = true)
    (h : ∀ K : Act → World → Prop, (∀ a w, wpAnyB P md ops b C Q fuel (listed.setIfInBounds i true) a w → K a w) → if Region.wanted o (yielded ops a.tmps) = true then Oper.wp P o a w K Q else K (a.put o.dst undef) w) :
    wpAnyB P md ops b C Q (fuel + 1) listed a w := by
  refine ⟨hC, fun h0 => (by rw [hr] at h0; cases h0), fun j hj => ?_⟩
  rw [hr] at hj
  obtain rfl : j = i := by simpa using hj
  exact wpOp_step hi h
theorem wpB_done {fuel : Nat} {listed : Array Bool} {a : Act} {w : World} (hr : Region.ready md ops listed = []) (hl : listed.getD b false = true) (h : Q .normal a w) : wpAnyB P md ops b C Q fuel listed a w := by
  cases fuel with
  | zero => exact ⟨.inr hl, hr, h⟩
  | succ f => exact ⟨.inr hl, fun _ => h, by rw [hr]; simp⟩
theorem wp_region_B (b : Nat) (C : World → Prop) {id : Nat} {a : Act} {w : World} (hm : P.follows .mixedOrders = true)
    (h : wpAnyB P .any ops b C Q ops.size (Array.replicate ops.size false) a w.drew) : (Code.region id ops true).wp P Q a w :=
  wp_region_any hm (wpAny_of_B _ _ _ _ h)
end Go.Sp

/-
  Sums, products and quotients of glue, whole: some glue, some error. Conditions: those that each theorem names.
-/
namespace Go.Proofs.YticljfpippbkkaaDoor
open Go.RowKit Go.Sp
variable {W w w' : World} {F A : HProp}


/-- facts of a block of glue -/
structure GlAt (w : World) (b : Nat) (c0 c1 c2 c3 c4 : Int) : Prop where
  a0 : w.cell? ⟨b, 0, none⟩ = some (.int .i64 c0)
  a1 : w.cell? ⟨b, 1, none⟩ = some (.int .i64 c1)
  a2 : w.cell? ⟨b, 2, none⟩ = some (.int .i64 c2)
  a3 : w.cell? ⟨b, 3, none⟩ = some (.int .i64 c3)
  a4 : w.cell? ⟨b, 4, none⟩ = some (.int .i64 c4)
  f0 : w.frozen? ⟨b, 0, none⟩ = false
  f1 : w.frozen? ⟨b, 1, none⟩ = false
  f2 : w.frozen? ⟨b, 2, none⟩ = false
  f3 : w.frozen? ⟨b, 3, none⟩ = false
  f4 : w.frozen? ⟨b, 4, none⟩ = false
  lt : b < w.heap.size
abbrev glO (c0 c1 c2 c3 c4 : Int) : Obj := .cells #[.int .i64 c0, .int .i64 c1, .int .i64 c2, .int .i64 c3, .int .i64 c4] 50
theorem glAt {b : Nat} {c0 c1 c2 c3 c4 : Int} (h : Sat W (pts b (glO c0 c1 c2 c3 c4) * A) w) : GlAt w b c0 c1 c2 c3 c4 :=
  ⟨h.cell rfl, h.cell rfl, h.cell rfl, h.cell rfl, h.cell rfl, h.free, h.free, h.free, h.free, h.free, h.lt⟩
theorem glSet {b : Nat} {c0 c1 c2 c3 c4 : Int} (h : Sat W (pts b (glO c0 c1 c2 c3 c4) * A) w) (d0 d1 d2 d3 d4 : Int) :
    Sat W (pts b (glO d0 d1 d2 d3 d4) * A) (((((w.setCell ⟨b, 0, none⟩ (.int .i64 d0)).setCell ⟨b, 1, none⟩ (.int .i64 d1)).setCell ⟨b, 2, none⟩ (.int .i64 d2)).setCell ⟨b, 3, none⟩ (.int .i64 d3)).setCell ⟨b, 4, none⟩ (.int .i64 d4)) :=
  ((((h.set (i := 0) (v := .int .i64 d0)).set (i := 1) (v := .int .i64 d1)).set (i := 2) (v := .int .i64 d2)).set (i := 3) (v := .int .i64 d3)).set (i := 4) (v := .int .i64 d4)


end Go.Proofs.YticljfpippbkkaaDoor

/-
  A table: Advance, Multiply, Divide. Conditions: those that each theorem names.
-/
namespace Go.Proofs.YticljfpippbkkaaDoor
open Go.RowKit Go.Sp
variable {W w w' : World} {F A : HProp}

/-- what a closure hands back: a value without tokens, an error; for a class other than skips the number is known -/
def CloR (c : Int) (z er0 : Int) (r : RegS) (er : Int) : Prop := r.toks = [] ∧ (c ≠ 3 → r = ⟨z, ⟨0, 0, 0, 0, 0⟩, []⟩ ∧ er = er0)

end Go.Proofs.YticljfpippbkkaaDoor

/-
  A table: Advance, Multiply, Divide, whole. Conditions: those that each theorem names.
-/
namespace Go.Proofs.YticljfpippbkkaaDoor
open Go.RowKit Go.Sp
variable {W w w' : World} {F A : HProp}

/-- the number and the error of a quotient -/
def divZ (x n : Int) : Int := if n = 0 then 0 else wrap64 (x.tdiv n)
def divEr (n : Int) : Int := if n = 0 then 20 else 0
/-- what Advance, Multiply and Divide do: an error and nothing else, or what 'sum' does -/
def ArithR (S S' : TabS) (c i : Int) (g : Bool) (E : Int) (z : Int → Int) (ok : Prop) (er0 : Int) : Prop :=
  (¬ ok ∧ E ≠ 0 ∧ S' = S) ∨ (ok ∧ ∃ c' i' : Nat, c = c' ∧ i = i' ∧ 1 ≤ c' ∧ c' ≤ 5 ∧ i' < 256 ∧ ∃ r er, CloR c (z (S.regs (c' * 256 + i')).n) er0 r er ∧ E = sumE c r er ∧ S' = sumT S c' i' r er g)

def advOK (c i : Int) (v : RegS) : Prop := wrongE c i = 0 ∧ c ≠ 4 ∧ c ≠ 5 ∧ rightM c v = true


def scaleE (c i n : Int) : Int := if wrongE c i ≠ 0 then wrongE c i else if c = 4 ∨ c = 5 then 1 else if withB n 2147483647 = true then 0 else 11

end Go.Proofs.YticljfpippbkkaaDoor

/-
  A table: what a name means; is it a meaning? Conditions: those that each theorem names.
-/
namespace Go.Proofs.YticljfpippbkkaaDoor
open Go.RowKit Go.Sp
variable {W w w' : World} {F A : HProp}

/-- what a name means, in a table's names -/
def lookN (T : ByteArray → Option Mean) (k : ByteArray) : Mean := (T k).getD mean0
theorem lookN_val (T : ByteArray → Option Mean) (k : ByteArray) : ((T k).map Mean.val).getD mean0.val = (lookN T k).val := by
  unfold lookN
  cases T k <;> rfl

theorem zero_mean (w : World) : (zeroValue 103).run Tryd.prog w = .ok mean0.val w := by
  simp only [Mean.val, mean0]
  go_simp

set_option maxRecDepth 100000 in
set_option maxHeartbeats 4000000 in
theorem look_any {b N : Nat} {S : TabS} (k : ByteArray) (h : TabAt W F b N S w) :
    Calls Tryd.prog 56 #[.pointer (some ⟨b, 0, none⟩), .string k] w fun e w' => e = .returned (lookN S.names k).val ∧ TabAt W F b N S w' := by
  have hK : KeyT Tryd.prog 9 Value.string := keyT_string Tryd.underlying9
  have hb := h.allocX (.cells #[.int .i64 0, .int .i64 0, .int .i64 0, .int .i64 0, .string ⟨#[]⟩] 103)
  obtain ⟨bz, hbz⟩ : ∃ bz, w.heap.size = bz := ⟨_, rfl⟩
  rw [hbz] at hb
  have HG := Lib.hid (good_any hb)
  obtain ⟨Y, hs0, back⟩ := hb.focus
  have BACK := Lib.hid back
  obtain ⟨m, nm, gs, lt, R, V, hT, hs⟩ := hb
  have hl := Sat.map_look hK Tryd.underlying48 zero_mean (hs.of_eq (show _ = mapH Value.string Mean.val nm N S.names * (pts b (.cells (tabCells nm R gs lt) 57) * (roH m * (row gs V.length 162 4 (flatG V) * (grpsH m V S.groups * (pts bz (.cells #[.int .i64 0, .int .i64 0, .int .i64 0, .int .i64 0, .string ⟨#[]⟩] 103) * F))))) by ac_rfl)) k false
  simp only [Bool.false_eq_true, if_false, lookN_val] at hl
  have c0 := hs.cell (i := 0) (tab_names nm R gs lt)
  have lb := hs.lt
  have hs1 := hs0.asc
  have x0 := hs1.cell (i := 0) rfl
  have x1 := hs1.cell (i := 1) rfl
  have x2 := hs1.cell (i := 2) rfl
  have x3 := hs1.cell (i := 3) rfl
  have x4 := hs1.cell (i := 4) rfl
  have f0 := hs1.free (i := 0)
  have f1 := hs1.free (i := 1)
  have f2 := hs1.free (i := 2)
  have f3 := hs1.free (i := 3)
  have f4 := hs1.free (i := 4)
  have lz := hs1.lt
  generalize lookN S.names k = lk at *
  obtain ⟨l1, l2, l3, l4, l5⟩ := lk
  simp only [Mean.val] at hl
  have hs2 := ((((hs1.set (i := 0) (v := .int .i64 l1)).set (i := 1) (v := .int .i64 l2)).set (i := 2) (v := .int .i64 l3)).set (i := 3) (v := .int .i64 l4)).set (i := 4) (v := .string l5)
  have HS2 := Lib.hid (show Sat W (pts bz (.cells #[.int .i64 l1, .int .i64 l2, .int .i64 l3, .int .i64 l4, .string l5] 103) * (F * Y)) _ from hs2)
  clear hs hs0 hs1 hs2 back h hT
  go_enter Tryd.func56, Tryd.ntmps56
  go_wp2_with fail
  refine Calls.mono HG.out ?_
  rintro e w' ⟨rfl, rfl⟩
  generalize w.alloc (.cells #[.int .i64 0, .int .i64 0, .int .i64 0, .int .i64 0, .string ⟨#[]⟩] 103) = W1 at *
  go_wp2
  (try simp only [Exit.inBlock, Exit.then])
  refine bodyPost_ret (v := .agg #[.int .i64 l1, .int .i64 l2, .int .i64 l3, .int .i64 l4, .string l5]) (by unfold results; go_simp) rfl ?_
  exact ⟨rfl, (BACK.out _ _ HS2.out.asc').less⟩

def BoolR (e : Ending) : Prop := ∃ r : Bool, e = .returned (.bool r)
theorem BoolR.mk (r : Bool) : BoolR (.returned (.bool r)) := ⟨r, rfl⟩

end Go.Proofs.YticljfpippbkkaaDoor
