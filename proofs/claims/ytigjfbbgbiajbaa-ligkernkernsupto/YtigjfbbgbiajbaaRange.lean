/-
  A range over a function, in the words of Sat: a contract for the iterator, a law for the statement, and the end of a function that holds one. Conditions: none.
-/
import Derived.RangeFuncNested
import Derived.RangeFuncCalls
import Derived.RangeFuncLeaves
import Derived.RangeFuncRecord
import Derived.Test.YtigjfbbgbiajbaaSep
namespace Go.Sp
open Go.RowKit
variable {P : Program} {W w w' : World} {A B : HProp}

theorem Sat.putObj {b : Nat} {o : Obj} (o' : Obj) (h : Sat W (pts b o * A) w) : Sat W (pts b o' * A) (w.putObj b o') :=
  h.upd ⟨rfl, rfl, rfl⟩ (World.putObj_heap_same h.lt) fun _ _ hk hx => (World.putObj_heap_other hk).trans hx

/-- An iterator gives the elements of xs, one by one, till it is told to stop; A: what it owns. -/
def SeqSat {α : Type} (P : Program) (W : World) (g : Nat) (lb : Array Value) (encs : α → Array Value) (xs : List α) (A : HProp) : Prop :=
  ∀ (l : Nat) (J K : List α → HProp) (w : World),
    (∀ pre x t w1, xs = pre ++ x :: t → Sat W (A * J pre) w1 → YieldAt Fence.wide 7 P l (encs x) w1 fun e w' =>
      (e = .returned (.bool true) ∧ Sat W (A * J (pre ++ [x])) w') ∨ (e = .returned (.bool false) ∧ Sat W (A * K (pre ++ [x])) w')) →
    Sat W (A * J []) w →
    CallsIn Fence.wide 8 P g (#[.func (.yield l) #[] #[]] ++ lb) w fun e w' => (∃ v, e = .returned v) ∧
      (Sat W (A * J xs) w' ∨ ∃ pre x t, xs = pre ++ x :: t ∧ Sat W (A * K (pre ++ [x])) w')

/-- How a round's body may be left. -/
def satPost {α : Type} (W : World) (R : HProp) (I : List α → HProp) (X : Code → List α → HProp) (xs : List α) : Exit → Act → World → Prop
  | .normal, _, w => Sat W (R * I xs) w
  | .ret, _, w => Sat W (R * X .ret xs) w
  | .exit id, _, w => Sat W (R * X (.exit id) xs) w
  | .goto t, _, w => Sat W (R * X (.goto t) xs) w
  | .panic _, _, _ => False
  | .outgrown, _, _ => False

theorem star3 (A B C : HProp) : A * (B * C) = C * (A * B) := by rw [star_comm C (A * B), star_assoc]

theorem wp_range {α β : Type} {g : Operand} {ps : Array Tmp} {assign body : Code} {Q : Exit → Act → World → Prop} {a : Act}
    {gf : Nat} {lb : Array Value} (hg : a.eval g = .func (.func gf) #[] lb) (eg : ∀ args w, (callFunc gf args).run P w = .ok (.enter gf args) w)
    {encs : α → Array Value} {xs : List α} (hseq : SeqSat P W gf lb encs xs A) (hps : ∀ x, (encs x).size = ps.size)
    (I : List α → HProp) (I1 : List α → α → β → HProp) (X : Code → List α → HProp) (h0 : Sat W (A * I []) w) (upd : α → β → Array Value → Array Value)
    (hassign : ∀ (l : Nat) (pre : List α) (x : α) (t : List α) (R : HProp) (w1 : World), xs = pre ++ x :: t → Sat W (R * (A * I pre)) w1 →
      assign.wpIn (Fence.wide.inRound l) 7 P (Exit.then (fun a1 w2 => ∃ y, a1 = { tmps := upd x y ((ps.zip (encs x)).foldl (fun t (p, v) => t.setIfInBounds p v) a.tmps), defers := [] } ∧ Sat W (R * (A * I1 pre x y)) w2) (fun _ _ _ => False)) { tmps := (ps.zip (encs x)).foldl (fun t (p, v) => t.setIfInBounds p v) a.tmps, defers := [] } w1)
    (hbody : ∀ (l : Nat) (pre : List α) (x : α) (t : List α) (y : β) (R : HProp) (w1 : World), xs = pre ++ x :: t → Sat W (R * (A * I1 pre x y)) w1 →
      body.wpIn (Fence.wide.inRound l) 7 P (satPost W (R * A) I X (pre ++ [x])) { tmps := upd x y ((ps.zip (encs x)).foldl (fun t (p, v) => t.setIfInBounds p v) a.tmps), defers := [] } w1)
    (hdone : ∀ (D : Nat) (w1 : World), Sat W (pts D (.deferred (some [])) * (A * I xs)) w1 → Q .normal { a with defers := { target := .collected D, args := #[] } :: a.defers } w1)
    (hstop : ∀ (D : Nat) (c : Code) (pre : List α) (x : α) (t : List α) (w1 : World), xs = pre ++ x :: t → Sat W (pts D (.deferred (some [])) * (A * X c (pre ++ [x]))) w1 →
      c.wpIn Fence.wide 9 P Q { a with defers := { target := .collected D, args := #[] } :: a.defers } w1) :
    (Code.rangeFunc g ps assign body).wpIn Fence.wide 9 P Q a w := by
  refine wpIn_rangeFunc ?_
  intro fn hfn
  obtain ⟨rec, hrec⟩ : ∃ rec : LoopState → Option Code → Loop, rec = fun st pe => { state := st, pending := pe, fn, tmps := a.tmps, params := ps, assign, body, defers := w.heap.size } := ⟨_, rfl⟩
  obtain ⟨W1, hW1⟩ : ∃ W1, (w.alloc (.deferred (some []))).alloc (.loop (rec .ready none)) = W1 := ⟨_, rfl⟩
  have hS1 : Sat W (pts (w.heap.size + 1) (.loop (rec .ready none)) * (pts w.heap.size (.deferred (some [])) * (A * I []))) W1 := by
    have h := (h0.alloc (.deferred (some []))).alloc (.loop (rec .ready none))
    rw [World.size_alloc] at h
    rwa [hW1] at h
  generalize hL : w.heap.size + 1 = L at hS1
  generalize hD : w.heap.size = D at hS1 hrec
  refine ⟨L, [{ target := .collected D, args := #[] }], W1, { target := .fn (.func gf) lb, args := #[.func (.yield L) #[] #[]] }, W1, gf,
    #[.func (.yield L) #[] #[]] ++ lb, W1, ?_, ?_, ?_, ?_, fun _ => by omega, ?_⟩
  · rw [← hW1, hrec, ← hL, ← hD]; exact run_enterLoop_outer _ _ _ _ _
  · simp only [resolve, hg]
    simp [go_sem]
  · intro f' _; trivial
  · simp [invoke, go_sem, eg]
  · have tk : ∀ (C : HProp), A * (C * (pts L (.loop (rec .ready none)) * pts D (.deferred (some [])))) = pts L (.loop (rec .ready none)) * (pts D (.deferred (some [])) * (A * C)) := fun C => by ac_rfl
    refine (hseq L (fun pre => I pre * (pts L (.loop (rec .ready none)) * pts D (.deferred (some []))))
      (fun pre => ex fun c => X c pre * (pts L (.loop (rec .done (some c))) * pts D (.deferred (some [])))) W1 ?_ (hS1.of_eq (tk _).symm)).mono ?_
    · rintro pre x t w1 hxs hs
      have hs1 := hs.of_eq (tk _)
      have hl := hs1.blk
      have hy := run_yield (P := P) (args := encs x) hl (by rw [hrec]; exact hps x)
      rw [hrec] at hy
      refine ⟨fn, _, assign, body, hy, roundIn_of_wpIn hfn ?_⟩
      have hs2 : Sat W ((pts L (.loop (rec .ready none)) * pts D (.deferred (some []))) * (A * I pre)) w1 := hs1.of_eq (by rw [star_assoc])
      refine wpIn_mono (hassign L pre x t _ w1 hxs hs2) ?_
      rintro e a1 w2 hp
      cases e with
      | normal =>
        obtain ⟨y, rfl, hs3⟩ := hp
        have hs4 := hs3.of_eq (star_assoc _ _ _)
        have hb4 := hs4.blk
        refine ⟨_, run_beginRound hb4 (by rw [hrec]), ?_⟩
        have hs5 := Sat.putObj (.loop { rec .ready none with state := .busy }) hs4
        refine wpIn_mono (hbody L pre x t y (pts L (.loop { rec .ready none with state := .busy }) * pts D (.deferred (some []))) _ hxs (hs5.of_eq (star_assoc _ _ _).symm)) ?_
        have fin : ∀ (jump : Option Code) (C : HProp) (w3 : World), Sat W (((pts L (.loop { rec .ready none with state := .busy }) * pts D (.deferred (some []))) * A) * C) w3 →
            (Instr.endRound L jump).run P w3 = .ok (.bool jump.isNone) (w3.putObj L (.loop (rec (if jump.isNone then .ready else .done) jump))) ∧
            Sat W (pts L (.loop (rec (if jump.isNone then .ready else .done) jump)) * (pts D (.deferred (some [])) * (A * C))) (w3.putObj L (.loop (rec (if jump.isNone then .ready else .done) jump))) := fun jump C w3 h3 => by
          have h4 : Sat W (pts L (.loop { rec .ready none with state := .busy }) * (pts D (.deferred (some [])) * (A * C))) w3 := h3.of_eq (by rw [star_assoc, star_assoc])
          have hr := run_endRound (P := P) jump h4.blk
          have h5 := Sat.putObj (.loop (rec (if jump.isNone then .ready else .done) jump)) h4
          rw [hrec] at hr h5 ⊢
          exact ⟨hr, h5⟩
        have tk2 : ∀ (c : Code) (C : HProp), A * (C * (pts L (.loop (rec .done (some c))) * pts D (.deferred (some [])))) = pts L (.loop (rec .done (some c))) * (pts D (.deferred (some [])) * (A * C)) := fun c C => by ac_rfl
        have out : ∀ (c : Code) (w3 : World), Sat W (((pts L (.loop { rec .ready none with state := .busy }) * pts D (.deferred (some []))) * A) * X c (pre ++ [x])) w3 →
            ∃ v w', (Instr.endRound L (some c)).run P w3 = .ok v w' ∧ ((Ending.returned v = .returned (.bool true) ∧ Sat W (A * (I (pre ++ [x]) * (pts L (.loop (rec .ready none)) * pts D (.deferred (some []))))) w') ∨
              (Ending.returned v = .returned (.bool false) ∧ Sat W (A * (ex fun c => X c (pre ++ [x]) * (pts L (.loop (rec .done (some c))) * pts D (.deferred (some []))))) w')) := fun c w3 h3 => by
          obtain ⟨hr, h4⟩ := fin (some c) _ w3 h3
          refine ⟨_, _, hr, .inr ⟨rfl, ?_⟩⟩
          refine Sat.comm (Sat.ex_l_intro c (Sat.comm ?_))
          exact Sat.of_eq h4 (tk2 c _).symm
        rintro e a3 w3 hp
        cases e with
        | normal =>
          obtain ⟨hr, h4⟩ := fin none _ w3 hp
          exact ⟨_, _, hr, .inl ⟨rfl, Sat.of_eq h4 (tk _).symm⟩⟩
        | ret => exact out _ w3 hp
        | exit id => exact out _ w3 hp
        | goto t => exact out _ w3 hp
        | panic ch => exact hp.elim
        | outgrown => exact hp.elim
      | ret => exact hp.elim
      | exit id => exact hp.elim
      | goto t => exact hp.elim
      | panic ch => exact hp.elim
      | outgrown => exact hp.elim
    · rintro e w2 ⟨⟨v, rfl⟩, (hs | ⟨pre, x, t, hxs, hs⟩)⟩
      · have hs1 := hs.of_eq (tk _)
        refine ⟨none, _, by have := run_endLoop (P := P) hs1.blk (by rw [hrec]; simp); rw [hrec] at this; exact this, ?_⟩
        rw [← hrec]
        exact hdone D _ (Sat.r (Sat.putObj _ hs1))
      · obtain ⟨c, hs0⟩ := Sat.ex_l (Sat.comm hs)
        have tk2 : ∀ (C : HProp), (C * (pts L (.loop (rec .done (some c))) * pts D (.deferred (some [])))) * A = pts L (.loop (rec .done (some c))) * (pts D (.deferred (some [])) * (A * C)) := fun C => by ac_rfl
        have hs1 := hs0.of_eq (tk2 _)
        refine ⟨some c, _, by have := run_endLoop (P := P) hs1.blk (by rw [hrec]; simp); rw [hrec] at this; exact this, ?_⟩
        rw [← hrec]
        exact hstop D c pre x t _ hxs (Sat.r (Sat.putObj _ hs1))

/-- A function that holds a range over a function: its body is walked as everywhere, but for what is asked at its end. -/
theorem calls_of_wp_range {f : FuncId} {fn : Func} {c : Code} {args : Array Value} {w : World} {R : Ending → World → Prop} (hf : P.funcs[f]? = some fn) (hb : fn.body = some c)
    (h : c.wp P (bodyPostM Fence.wide 9 P fn R) { tmps := args ++ Array.replicate (fn.ntmps - args.size) undef, defers := [] } w) : Calls P f args w R :=
  callsIn_wide.1 (callsIn_of_wp_marks (F := Fence.wide) (n := 9) hf hb trivial (wpIn_wide.2 h))
theorem wp_of_range {c : Code} {Q : Exit → Act → World → Prop} {a : Act} (h : c.wpIn Fence.wide 9 P Q a w) : c.wp P Q a w := wpIn_wide.1 h
/-- The end of such a function. -/
theorem post_ret {fn : Func} {R : Ending → World → Prop} {a : Act} {v : Value} (hd : a.defers = []) (hr : (results fn a.tmps).run P w = .ok v w) (hR : R (.returned v) w) : bodyPostM Fence.wide 9 P fn R .ret a w := by
  show LeavesInM Fence.wide 9 P fn a.tmps R a.defers .returning w
  rw [hd]
  exact ⟨v, hr, hR⟩
theorem post_mark {fn : Func} {R : Ending → World → Prop} {a : Act} {D : Nat} {v : Value} (hd : a.defers = [{ target := .collected D, args := #[] }]) (hs : Sat W (pts D (.deferred (some [])) * A) w)
    (hr : ∀ w', (results fn a.tmps).run P w' = .ok v w') (hR : ∀ w', Sat W A w' → R (.returned v) w') : bodyPostM Fence.wide 9 P fn R .ret a w := by
  show LeavesInM Fence.wide 9 P fn a.tmps R a.defers .returning w
  rw [hd]
  exact ⟨by simp, .inl ⟨D, _, rfl, run_takeDeferred hs.blk, v, hr _, hR _ (Sat.r (Sat.putObj _ hs))⟩⟩
/-- The end of a function that holds a range over a function. -/
theorem leaves_mark {F : Fence} {n : Nat} {fn : Func} {tmps : Array Value} {R : Ending → World → Prop} {D : Nat} {u : FrameMode} (hu : u ≠ .run)
    (h : Sat W (pts D (.deferred (some [])) * A) w) (hk : ∀ w', Sat W A w' → LeavesInM F n P fn tmps R [] u w') :
    LeavesInM F n P fn tmps R [{ target := .collected D, args := #[] }] u w :=
  ⟨hu, .inl ⟨D, _, rfl, run_takeDeferred h.blk, hk _ (Sat.r (Sat.putObj _ h))⟩⟩
end Go.Sp
