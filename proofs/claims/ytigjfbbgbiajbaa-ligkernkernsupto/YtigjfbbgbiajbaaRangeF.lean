/-
  A range over a function whose iterator makes memory of its own in a round: the iterator's contract with a frame. Conditions: none.
-/
import Derived.Test.YtigjfbbgbiajbaaRange
namespace Go.Sp
open Go.RowKit
variable {P : Program} {W w w' : World} {A B : HProp}

/-- An iterator gives the elements of xs, one by one, till it is told to stop; A: what it owns; what else it holds stays. -/
def SeqSatF {α : Type} (P : Program) (W : World) (g : Nat) (lb : Array Value) (encs : α → Array Value) (xs : List α) (A : HProp) : Prop :=
  ∀ (l : Nat) (J K : List α → HProp) (w : World),
    (∀ (R : HProp) pre x t w1, xs = pre ++ x :: t → Sat W (R * (A * J pre)) w1 → YieldAt Fence.wide 7 P l (encs x) w1 fun e w' =>
      (e = .returned (.bool true) ∧ Sat W (R * (A * J (pre ++ [x]))) w') ∨ (e = .returned (.bool false) ∧ Sat W (R * (A * K (pre ++ [x]))) w')) →
    Sat W (A * J []) w →
    CallsIn Fence.wide 8 P g (#[.func (.yield l) #[] #[]] ++ lb) w fun e w' => (∃ v, e = .returned v) ∧
      (Sat W (A * J xs) w' ∨ ∃ pre x t, xs = pre ++ x :: t ∧ Sat W (A * K (pre ++ [x])) w')

theorem wp_rangeF {α β : Type} {g : Operand} {ps : Array Tmp} {assign body : Code} {Q : Exit → Act → World → Prop} {a : Act}
    {gf : Nat} {lb : Array Value} (hg : a.eval g = .func (.func gf) #[] lb) (eg : ∀ args w, (callFunc gf args).run P w = .ok (.enter gf args) w)
    {encs : α → Array Value} {xs : List α} (hseq : SeqSatF P W gf lb encs xs A) (hps : ∀ x, (encs x).size = ps.size)
    (I : List α → HProp) (I1 : List α → α → β → HProp) (X : Code → List α → HProp) (h0 : Sat W (A * I []) w) (upd : α → β → Array Value → Array Value)
    (hassign : ∀ (l : Nat) (pre : List α) (x : α) (t : List α) (R : HProp) (w1 : World), xs = pre ++ x :: t → Sat W (R * (A * I pre)) w1 →
      assign.wpIn (Fence.wide.inRound l) 7 P (Exit.then (fun a1 w2 => ∃ y, a1 = { tmps := upd x y ((ps.zip (encs x)).foldl (fun t (p, v) => t.setIfInBounds p v) a.tmps), defers := [] } ∧ Sat W (R * (A * I1 pre x y)) w2) (fun _ _ _ => False)) { tmps := (ps.zip (encs x)).foldl (fun t (p, v) => t.setIfInBounds p v) a.tmps, defers := [] } w1)
    (hbody : ∀ (l : Nat) (pre : List α) (x : α) (t : List α) (y : β) (R : HProp) (w1 : World), xs = pre ++ x :: t → Sat W (R * (A * I1 pre x y)) w1 →
      body.wpIn (Fence.wide.inRound l) 7 P (satPost W (R * A) I X (pre ++ [x])) { tmps := upd x y ((ps.zip (encs x)).foldl (fun t (p, v) => t.setIfInBounds p v) a.tmps), defers := [] } w1)
    (hdone : ∀ (D : Nat) (w1 : World), Sat W (pts D (.deferred (some [])) * (A * I xs)) w1 → Q .normal { a with defers := { target := .collected D, args := #[] } :: a.defers } w1)
    (hstop : ∀ (D : Nat) (c : Code) (pre : List α) (x : α) (t : List α) (w1 : World), xs = pre ++ x :: t → Sat W (pts D (.deferred (some [])) * (A * X c (pre ++ [x]))) w1 →
      c.wpIn Fence.wide 9 P Q { a with defers := { target := .collected D, args := #[] } :: a.defers } w1) :
    (Code.rangeFunc g ps assign body).wpIn Fence.wide 9 P Q a w := by
  refine wpIn_rangeFunc ?_
  intro fn hfn
  obtain ⟨rec, hrec⟩ : ∃ rec : LoopState → Option Code → Loop, rec = fun st pe => { state := st, pending := pe, fn, tmps := a.tmps, params := ps, assign, body, defers := w.heap.size } := ⟨_, rfl⟩
  obtain ⟨W1, hW1⟩ : ∃ W1, (w.alloc (.deferred (some []))).alloc (.loop (rec .ready none)) = W1 := ⟨_, rfl⟩
  have hS1 : Sat W (pts (w.heap.size + 1) (.loop (rec .ready none)) * (pts w.heap.size (.deferred (some [])) * (A * I []))) W1 := by
    have h := (h0.alloc (.deferred (some []))).alloc (.loop (rec .ready none))
    rw [World.size_alloc] at h
    rwa [hW1] at h
  generalize hL : w.heap.size + 1 = L at hS1
  generalize hD : w.heap.size = D at hS1 hrec
  refine ⟨L, [{ target := .collected D, args := #[] }], W1, { target := .fn (.func gf) lb, args := #[.func (.yield L) #[] #[]] }, W1, gf,
    #[.func (.yield L) #[] #[]] ++ lb, W1, ?_, ?_, ?_, ?_, fun _ => by omega, ?_⟩
  · rw [← hW1, hrec, ← hL, ← hD]; exact run_enterLoop_outer _ _ _ _ _
  · simp only [resolve, hg]
    simp [go_sem]
  · intro f' _; trivial
  · simp [invoke, go_sem, eg]
  · obtain ⟨LR, hLR⟩ : ∃ LR, pts L (.loop (rec .ready none)) = LR := ⟨_, rfl⟩
    obtain ⟨DD, hDD⟩ : ∃ DD, pts D (.deferred (some [])) = DD := ⟨_, rfl⟩
    obtain ⟨LD, hLD⟩ : ∃ LD : Option Code → HProp, LD = fun c => pts L (.loop (rec .done c)) := ⟨_, rfl⟩
    have tk : ∀ (C : HProp), A * (C * (LR * DD)) = LR * (DD * (A * C)) := fun C => by ac_rfl
    refine (hseq L (fun pre => I pre * (LR * DD)) (fun pre => ex fun c => X c pre * (LD (some c) * DD)) W1 ?_ (hS1.of_eq (by rw [tk, ← hLR, ← hDD]))).mono ?_
    · rintro R0 pre x t w1 hxs hs
      have hs1 : Sat W (LR * (R0 * (A * (I pre * DD)))) w1 := hs.of_eq (by ac_rfl)
      rw [← hLR] at hs1
      have hl := hs1.blk
      have hy := run_yield (P := P) (args := encs x) hl (by rw [hrec]; exact hps x)
      rw [hrec] at hy
      refine ⟨fn, _, assign, body, hy, roundIn_of_wpIn hfn ?_⟩
      have hs2 : Sat W ((R0 * (LR * DD)) * (A * I pre)) w1 := hs.of_eq (by ac_rfl)
      refine wpIn_mono (hassign L pre x t _ w1 hxs hs2) ?_
      rintro e a1 w2 hp
      cases e with
      | normal =>
        obtain ⟨y, rfl, hs3⟩ := hp
        have hs4 : Sat W (LR * (R0 * (DD * (A * I1 pre x y)))) w2 := hs3.of_eq (by ac_rfl)
        rw [← hLR] at hs4
        have hb4 := hs4.blk
        refine ⟨_, run_beginRound hb4 (by rw [hrec]), ?_⟩
        have hs5 := Sat.putObj (.loop { rec .ready none with state := .busy }) hs4
        obtain ⟨LB, hLB⟩ : ∃ LB, pts L (.loop { rec .ready none with state := .busy }) = LB := ⟨_, rfl⟩
        rw [hLB] at hs5
        refine wpIn_mono (hbody L pre x t y (R0 * (LB * DD)) _ hxs (hs5.of_eq (by ac_rfl))) ?_
        have fin : ∀ (jump : Option Code) (C : HProp) (w3 : World), Sat W (((R0 * (LB * DD)) * A) * C) w3 →
            (Instr.endRound L jump).run P w3 = .ok (.bool jump.isNone) (w3.putObj L (.loop (rec (if jump.isNone then .ready else .done) jump))) ∧
            Sat W (pts L (.loop (rec (if jump.isNone then .ready else .done) jump)) * (R0 * (DD * (A * C)))) (w3.putObj L (.loop (rec (if jump.isNone then .ready else .done) jump))) := fun jump C w3 h3 => by
          have h4 : Sat W (LB * (R0 * (DD * (A * C)))) w3 := h3.of_eq (by ac_rfl)
          rw [← hLB] at h4
          have hr := run_endRound (P := P) jump h4.blk
          have h5 := Sat.putObj (.loop (rec (if jump.isNone then .ready else .done) jump)) h4
          rw [hrec] at hr h5 ⊢
          exact ⟨hr, h5⟩
        have out : ∀ (c : Code) (w3 : World), Sat W (((R0 * (LB * DD)) * A) * X c (pre ++ [x])) w3 →
            ∃ v w', (Instr.endRound L (some c)).run P w3 = .ok v w' ∧ ((Ending.returned v = .returned (.bool true) ∧ Sat W (R0 * (A * (I (pre ++ [x]) * (LR * DD)))) w') ∨
              (Ending.returned v = .returned (.bool false) ∧ Sat W (R0 * (A * (ex fun c => X c (pre ++ [x]) * (LD (some c) * DD)))) w')) := fun c w3 h3 => by
          obtain ⟨hr, h4⟩ := fin (some c) _ w3 h3
          refine ⟨_, _, hr, .inr ⟨rfl, ?_⟩⟩
          have h5 := h4.of_eq (show _ = LD (some c) * (R0 * (DD * (A * X c (pre ++ [x])))) by rw [hLD]; rfl)
          have h6 := h5.of_eq (show _ = (X c (pre ++ [x]) * (LD (some c) * DD)) * (R0 * A) by ac_rfl)
          have h7 := Sat.ex_l_intro (P := fun c => X c (pre ++ [x]) * (LD (some c) * DD)) c h6
          generalize (ex fun c => X c (pre ++ [x]) * (LD (some c) * DD)) = EE at *
          exact h7.of_eq (by ac_rfl)
        rintro e a3 w3 hp
        cases e with
        | normal =>
          obtain ⟨hr, h4⟩ := fin none _ w3 hp
          refine ⟨_, _, hr, .inl ⟨rfl, ?_⟩⟩
          have h5 := h4.of_eq (show _ = LR * (R0 * (DD * (A * I (pre ++ [x])))) by rw [← hLR]; rfl)
          exact h5.of_eq (by ac_rfl)
        | ret => exact out _ w3 hp
        | exit id => exact out _ w3 hp
        | goto t => exact out _ w3 hp
        | panic ch => exact hp.elim
        | outgrown => exact hp.elim
      | ret => exact hp.elim
      | exit id => exact hp.elim
      | goto t => exact hp.elim
      | panic ch => exact hp.elim
      | outgrown => exact hp.elim
    · rintro e w2 ⟨⟨v, rfl⟩, (hs | ⟨pre, x, t, hxs, hs⟩)⟩
      · have hs1 := hs.of_eq (tk _)
        rw [← hLR, ← hDD] at hs1
        refine ⟨none, _, by have := run_endLoop (P := P) hs1.blk (by rw [hrec]; simp); rw [hrec] at this; exact this, ?_⟩
        rw [← hrec]
        exact hdone D _ (Sat.r (Sat.putObj _ hs1))
      · obtain ⟨c, hs0⟩ := Sat.ex_l (Sat.comm hs)
        have hs1 : Sat W (LD (some c) * (DD * (A * X c (pre ++ [x])))) w2 := hs0.of_eq (by ac_rfl)
        rw [hLD, ← hDD] at hs1
        refine ⟨some c, _, by have := run_endLoop (P := P) hs1.blk (by rw [hrec]; simp); rw [hrec] at this; exact this, ?_⟩
        rw [← hrec]
        exact hstop D c pre x t _ hxs (Sat.r (Sat.putObj _ hs1))

/-- The end of a function that ranged over one, its results in cells. -/
theorem post_mark2 {fn : Func} {R : Ending → World → Prop} {a : Act} {D : Nat} {v : Value} (hd : a.defers = [{ target := .collected D, args := #[] }]) (hs : Sat W (pts D (.deferred (some [])) * A) w)
    (hr : ∀ w', Sat W A w' → (results fn a.tmps).run P w' = .ok v w' ∧ R (.returned v) w') : bodyPostM Fence.wide 9 P fn R .ret a w := by
  show LeavesInM Fence.wide 9 P fn a.tmps R a.defers .returning w
  rw [hd]
  have h := hr _ (Sat.r (Sat.putObj (.deferred none) hs))
  exact ⟨by simp, .inl ⟨D, _, rfl, run_takeDeferred hs.blk, v, h.1, h.2⟩⟩
end Go.Sp
