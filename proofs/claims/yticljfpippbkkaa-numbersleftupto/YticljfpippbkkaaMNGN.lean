import Derived.RangeFuncNested
import Derived.RangeFuncCalls
import Derived.RangeFuncLeaves
import Derived.RangeFuncRecord
import Derived.Test.YticljfpippbkkaaMLA
import Derived.OrdersIn
import Derived.Test.YticljfpippbkkaaMNFA
import Derived.Shelf.Abstract
import Derived.OwnWalkIn
import Derived.TacticsInMore
import Derived.RangeFuncBound
import Derived.LoopNIn
import Derived.LoopIn
import Derived.Sort.LoopGhostIn
import Derived.Test.YticljfpippbkkaaMTZ
import Derived.Test.YticljfpippbkkaaMNU
/-
  A range over a function, in the words of Sat: a contract for the iterator, a law for the statement, and the end of a function that holds one. Conditions: none.
-/
namespace Go.Sp
open Go.RowKit
variable {P : Program} {W w w' : World} {A B : HProp}

theorem Sat.putObj {b : Nat} {o : Obj} (o' : Obj) (h : Sat W (pts b o * A) w) : Sat W (pts b o' * A) (w.putObj b o') :=
  h.upd ⟨rfl, rfl, rfl⟩ (World.putObj_heap_same h.lt) fun _ _ hk hx => (World.putObj_heap_other hk).trans hx

/-- An iterator gives the elements of xs, one by one, till it is told to stop; A: what it owns. -/
def SeqSat {α : Type} (P : Program) (W : World) (g : Nat) (lb : Array Value) (encs : α → Array Value) (xs : List α) (A : HProp) : Prop :=
  ∀ (l : Nat) (J K : List α → HProp) (w : World),
    (∀ pre x t w1, xs = pre ++ x :: t → Sat W (A * J pre) w1 → YieldAt Fence.wide 7 P l (encs x) w1 fun e w' =>
      (e = .returned (.bool true) ∧ Sat W (A * J (pre ++ [x])) w') ∨ (e = .returned (.bool false) ∧ Sat W (A * K (pre ++ [x])) w')) →
    Sat W (A * J []) w →
    CallsIn Fence.wide 8 P g (#[.func (.yield l) #[] #[]] ++ lb) w fun e w' => (∃ v, e = .returned v) ∧
      (Sat W (A * J xs) w' ∨ ∃ pre x t, xs = pre ++ x :: t ∧ Sat W (A * K (pre ++ [x])) w')

/-- How a round's body may be left. -/
def satPost {α : Type} (W : World) (R : HProp) (I : List α → HProp) (X : Code → List α → HProp) (xs : List α) : Exit → Act → World → Prop
  | .normal, _, w => Sat W (R * I xs) w
  | .ret, _, w => Sat W (R * X .ret xs) w
  | .exit id, _, w => Sat W (R * X (.exit id) xs) w
  | .goto t, _, w => Sat W (R * X (.goto t) xs) w
  | .panic _, _, _ => False
  | .outgrown, _, _ => False

theorem star3 (A B C : HProp) : A * (B * C) = C * (A * B) := by rw [star_comm C (A * B), star_assoc]

theorem wp_range {α β : Type} {g : Operand} {ps : Array Tmp} {assign body : Code} {Q : Exit → Act → World → Prop} {a : Act}
    {gf : Nat} {lb : Array Value} (hg : a.eval g = .func (.func gf) #[] lb) (eg : ∀ args w, (callFunc gf args).run P w = .ok (.enter gf args) w)
    {encs : α → Array Value} {xs : List α} (hseq : SeqSat P W gf lb encs xs A) (hps : ∀ x, (encs x).size = ps.size)
    (I : List α → HProp) (I1 : List α → α → β → HProp) (X : Code → List α → HProp) (h0 : Sat W (A * I []) w) (upd : α → β → Array Value → Array Value)
    (hassign : ∀ (l : Nat) (pre : List α) (x : α) (t : List α) (R : HProp) (w1 : World), xs = pre ++ x :: t → Sat W (R * (A * I pre)) w1 →
      assign.wpIn (Fence.wide.inRound l) 7 P (Exit.then (fun a1 w2 => ∃ y, a1 = { tmps := upd x y ((ps.zip (encs x)).foldl (fun t (p, v) => t.setIfInBounds p v) a.tmps), defers := [] } ∧ Sat W (R * (A * I1 pre x y)) w2) (fun _ _ _ => False)) { tmps := (ps.zip (encs x)).foldl (fun t (p, v) => t.setIfInBounds p v) a.tmps, defers := [] } w1)
    (hbody : ∀ (l : Nat) (pre : List α) (x : α) (t : List α) (y : β) (R : HProp) (w1 : World), xs = pre ++ x :: t → Sat W (R * (A * I1 pre x y)) w1 →
      body.wpIn (Fence.wide.inRound l) 7 P (satPost W (R * A) I X (pre ++ [x])) { tmps := upd x y ((ps.zip (encs x)).foldl (fun t (p, v) => t.setIfInBounds p v) a.tmps), defers := [] } w1)
    (hdone : ∀ (D : Nat) (w1 : World), Sat W (pts D (.deferred (some [])) * (A * I xs)) w1 → Q .normal { a with defers := { target := .collected D, args := #[] } :: a.defers } w1)
    (hstop : ∀ (D : Nat) (c : Code) (pre : List α) (x : α) (t : List α) (w1 : World), xs = pre ++ x :: t → Sat W (pts D (.deferred (some [])) * (A * X c (pre ++ [x]))) w1 →
      c.wpIn Fence.wide 9 P Q { a with defers := { target := .collected D, args := #[] } :: a.defers } w1) :
    (Code.rangeFunc g ps assign body).wpIn Fence.wide 9 P Q a w := by
  refine wpIn_rangeFunc ?_
  intro fn hfn
  obtain ⟨rec, hrec⟩ : ∃ rec : LoopState → Option Code → Loop, rec = fun st pe => { state := st, pending := pe, fn, tmps := a.tmps, params := ps, assign, body, defers := w.heap.size } := ⟨_, rfl⟩
  obtain ⟨W1, hW1⟩ : ∃ W1, (w.alloc (.deferred (some []))).alloc (.loop (rec .ready none)) = W1 := ⟨_, rfl⟩
  have hS1 : Sat W (pts (w.heap.size + 1) (.loop (rec .ready none)) * (pts w.heap.size (.deferred (some [])) * (A * I []))) W1 := by
    have h := (h0.alloc (.deferred (some []))).alloc (.loop (rec .ready none))
    rw [World.size_alloc] at h
    rwa [hW1] at h
  generalize hL : w.heap.size + 1 = L at hS1
  generalize hD : w.heap.size = D at hS1 hrec
  refine ⟨L, [{ target := .collected D, args := #[] }], W1, { target := .fn (.func gf) lb, args := #[.func (.yield L) #[] #[]] }, W1, gf,
    #[.func (.yield L) #[] #[]] ++ lb, W1, ?_, ?_, ?_, ?_, fun _ => by omega, ?_⟩
  · rw [← hW1, hrec, ← hL, ← hD]; exact run_enterLoop_outer _ _ _ _ _
  · simp only [resolve, hg]
    simp [go_sem]
  · intro f' _; trivial
  · simp [invoke, go_sem, eg]
  · have tk : ∀ (C : HProp), A * (C * (pts L (.loop (rec .ready none)) * pts D (.deferred (some [])))) = pts L (.loop (rec .ready none)) * (pts D (.deferred (some [])) * (A * C)) := fun C => by ac_rfl
    refine (hseq L (fun pre => I pre * (pts L (.loop (rec .ready none)) * pts D (.deferred (some []))))
      (fun pre => ex fun c => X c pre * (pts L (.loop (rec .done (some c))) * pts D (.deferred (some [])))) W1 ?_ (hS1.of_eq (tk _).symm)).mono ?_
    · rintro pre x t w1 hxs hs
      have hs1 := hs.of_eq (tk _)
      have hl := hs1.blk
      have hy := run_yield (P := P) (args := encs x) hl (by rw [hrec]; exact hps x)
      rw [hrec] at hy
      refine ⟨fn, _, assign, body, hy, roundIn_of_wpIn hfn ?_⟩
      have hs2 : Sat W ((pts L (.loop (rec .ready none)) * pts D (.deferred (some []))) * (A * I pre)) w1 := hs1.of_eq (by rw [star_assoc])
      refine wpIn_mono (hassign L pre x t _ w1 hxs hs2) ?_
      rintro e a1 w2 hp
      cases e with
      | normal =>
        obtain ⟨y, rfl, hs3⟩ := hp
        have hs4 := hs3.of_eq (star_assoc _ _ _)
        have hb4 := hs4.blk
        refine ⟨_, run_beginRound hb4 (by rw [hrec]), ?_⟩
        have hs5 := Sat.putObj (.loop { rec .ready none with state := .busy }) hs4
        refine wpIn_mono (hbody L pre x t y (pts L (.loop { rec .ready none with state := .busy }) * pts D (.deferred (some []))) _ hxs (hs5.of_eq (star_assoc _ _ _).symm)) ?_
        have fin : ∀ (jump : Option Code) (C : HProp) (w3 : World), Sat W (((pts L (.loop { rec .ready none with state := .busy }) * pts D (.deferred (some []))) * A) * C) w3 →
            (Instr.endRound L jump).run P w3 = .ok (.bool jump.isNone) (w3.putObj L (.loop (rec (if jump.isNone then .ready else .done) jump))) ∧
            Sat W (pts L (.loop (rec (if jump.isNone then .ready else .done) jump)) * (pts D (.deferred (some [])) * (A * C))) (w3.putObj L (.loop (rec (if jump.isNone then .ready else .done) jump))) := fun jump C w3 h3 => by
          have h4 : Sat W (pts L (.loop { rec .ready none with state := .busy }) * (pts D (.deferred (some [])) * (A * C))) w3 := h3.of_eq (by rw [star_assoc, star_assoc])
          have hr := run_endRound (P := P) jump h4.blk
          have h5 := Sat.putObj (.loop (rec (if jump.isNone then .ready else .done) jump)) h4
          rw [hrec] at hr h5 ⊢
          exact ⟨hr, h5⟩
        have tk2 : ∀ (c : Code) (C : HProp), A * (C * (pts L (.loop (rec .done (some c))) * pts D (.deferred (some [])))) = pts L (.loop (rec .done (some c))) * (pts D (.deferred (some [])) * (A * C)) := fun c C => by ac_rfl
        have out : ∀ (c : Code) (w3 : World), Sat W (((pts L (.loop { rec .ready none with state := .busy }) * pts D (.deferred (some []))) * A) * X c (pre ++ [x])) w3 →
            ∃ v w', (Instr.endRound L (some c)).run P w3 = .ok v w' ∧ ((Ending.returned v = .returned (.bool true) ∧ Sat W (A * (I (pre ++ [x]) * (pts L (.loop (rec .ready none)) * pts D (.deferred (some []))))) w') ∨
              (Ending.returned v = .returned (.bool false) ∧ Sat W (A * (ex fun c => X c (pre ++ [x]) * (pts L (.loop (rec .done (some c))) * pts D (.deferred (some []))))) w')) := fun c w3 h3 => by
          obtain ⟨hr, h4⟩ := fin (some c) _ w3 h3
          refine ⟨_, _, hr, .inr ⟨rfl, ?_⟩⟩
          refine Sat.comm (Sat.ex_l_intro c (Sat.comm ?_))
          exact Sat.of_eq h4 (tk2 c _).symm
        rintro e a3 w3 hp
        cases e with
        | normal =>
          obtain ⟨hr, h4⟩ := fin none _ w3 hp
          exact ⟨_, _, hr, .inl ⟨rfl, Sat.of_eq h4 (tk _).symm⟩⟩
        | ret => exact out _ w3 hp
        | exit id => exact out _ w3 hp
        | goto t => exact out _ w3 hp
        | panic ch => exact hp.elim
        | outgrown => exact hp.elim
      | ret => exact hp.elim
      | exit id => exact hp.elim
      | goto t => exact hp.elim
      | panic ch => exact hp.elim
      | outgrown => exact hp.elim
    · rintro e w2 ⟨⟨v, rfl⟩, (hs | ⟨pre, x, t, hxs, hs⟩)⟩
      · have hs1 := hs.of_eq (tk _)
        refine ⟨none, _, by have := run_endLoop (P := P) hs1.blk (by rw [hrec]; simp); rw [hrec] at this; exact this, ?_⟩
        rw [← hrec]
        exact hdone D _ (Sat.r (Sat.putObj _ hs1))
      · obtain ⟨c, hs0⟩ := Sat.ex_l (Sat.comm hs)
        have tk2 : ∀ (C : HProp), (C * (pts L (.loop (rec .done (some c))) * pts D (.deferred (some [])))) * A = pts L (.loop (rec .done (some c))) * (pts D (.deferred (some [])) * (A * C)) := fun C => by ac_rfl
        have hs1 := hs0.of_eq (tk2 _)
        refine ⟨some c, _, by have := run_endLoop (P := P) hs1.blk (by rw [hrec]; simp); rw [hrec] at this; exact this, ?_⟩
        rw [← hrec]
        exact hstop D c pre x t _ hxs (Sat.r (Sat.putObj _ hs1))

/-- A function that holds a range over a function: its body is walked as everywhere, but for what is asked at its end. -/
theorem calls_of_wp_range {f : FuncId} {fn : Func} {c : Code} {args : Array Value} {w : World} {R : Ending → World → Prop} (hf : P.funcs[f]? = some fn) (hb : fn.body = some c)
    (h : c.wp P (bodyPostM Fence.wide 9 P fn R) { tmps := args ++ Array.replicate (fn.ntmps - args.size) undef, defers := [] } w) : Calls P f args w R :=
  callsIn_wide.1 (callsIn_of_wp_marks (F := Fence.wide) (n := 9) hf hb trivial (wpIn_wide.2 h))
theorem wp_of_range {c : Code} {Q : Exit → Act → World → Prop} {a : Act} (h : c.wpIn Fence.wide 9 P Q a w) : c.wp P Q a w := wpIn_wide.1 h
/-- The end of such a function. -/
theorem post_ret {fn : Func} {R : Ending → World → Prop} {a : Act} {v : Value} (hd : a.defers = []) (hr : (results fn a.tmps).run P w = .ok v w) (hR : R (.returned v) w) : bodyPostM Fence.wide 9 P fn R .ret a w := by
  show LeavesInM Fence.wide 9 P fn a.tmps R a.defers .returning w
  rw [hd]
  exact ⟨v, hr, hR⟩
theorem post_mark {fn : Func} {R : Ending → World → Prop} {a : Act} {D : Nat} {v : Value} (hd : a.defers = [{ target := .collected D, args := #[] }]) (hs : Sat W (pts D (.deferred (some [])) * A) w)
    (hr : ∀ w', (results fn a.tmps).run P w' = .ok v w') (hR : ∀ w', Sat W A w' → R (.returned v) w') : bodyPostM Fence.wide 9 P fn R .ret a w := by
  show LeavesInM Fence.wide 9 P fn a.tmps R a.defers .returning w
  rw [hd]
  exact ⟨by simp, .inl ⟨D, _, rfl, run_takeDeferred hs.blk, v, hr _, hR _ (Sat.r (Sat.putObj _ hs))⟩⟩
/-- The end of a function that holds a range over a function. -/
theorem leaves_mark {F : Fence} {n : Nat} {fn : Func} {tmps : Array Value} {R : Ending → World → Prop} {D : Nat} {u : FrameMode} (hu : u ≠ .run)
    (h : Sat W (pts D (.deferred (some [])) * A) w) (hk : ∀ w', Sat W A w' → LeavesInM F n P fn tmps R [] u w') :
    LeavesInM F n P fn tmps R [{ target := .collected D, args := #[] }] u w :=
  ⟨hu, .inl ⟨D, _, rfl, run_takeDeferred h.blk, hk _ (Sat.r (Sat.putObj _ h))⟩⟩
end Go.Sp

/-
  A region that draws its order, within a round of a range over a function: walked as elsewhere, in a class of worlds. Conditions: those of the theorems.
-/
namespace Go.Sp
open Go
variable {P : Program} {ops : Array Oper} {md : Region.Mode} {Q : Exit → Act → World → Prop} {l n : Nat}

theorem opIn_of_op {o : Oper} {a : Act} {w : World} {K : Act → World → Prop} (hnd : ∀ c, o.op ≠ .defer c) (h : o.wp P a w K Q) : o.wpIn (Fence.wide.inRound l) n P a w K Q := by
  refine ⟨fun _ _ => trivial, ?_⟩
  rw [Oper.semAt_eq _ _ _ hnd]
  unfold Oper.wp at h
  generalize (execOp a.eval o).run P w = r at *
  cases r with
  | ok x w' =>
    cases x with
    | value v => exact h
    | skip => exact h
    | defer d => exact h
    | enter f args => exact ⟨fun h9 => (by cases h9), CallsIn.inRound l (callsIn_wide.2 h)⟩
    | row row args => exact ⟨fun h9 => (by cases h9), fun c cs _ => let ⟨v, w'', hr, hs⟩ := h c cs; ⟨v, w'', hr, stepsIn_wide.2 hs⟩⟩
    | _ => exact h.elim
  | halt x w' => cases x <;> first | exact h | exact h.elim
theorem anyIn_of_any (hnd : ∀ (j : Nat) (o : Oper) c, ops[j]? = some o → o.op ≠ .defer c) (hQ : ¬ LetsOut Q) : ∀ (f : Nat) (listed : Array Bool) (a : Act) (w : World),
    wpAny P md ops Q f listed a w → wpAnyIn (Fence.wide.inRound l) n P md ops Q f listed a w
  | 0, _, _, _, h => h
  | f + 1, listed, a, w, h => by
    refine ⟨h.1, fun i hi => ?_⟩
    have h2 := h.2 i hi
    unfold wpOp at h2
    unfold wpOpIn
    cases ho : ops[i]? with
    | none => rw [ho] at h2; exact anyIn_of_any hnd hQ f _ _ _ h2
    | some o =>
      rw [ho] at h2
      simp only at h2 ⊢
      split
      · rename_i hw
        rw [if_pos hw] at h2
        rcases h2 with h2 | h2
        · exact Oper.wpIn_mono (fun a' w' h' => anyIn_of_any hnd hQ f _ a' w' h') (opIn_of_op (hnd i o · ho) h2)
        · exact absurd h2.2 hQ
      · rename_i hw
        rw [if_neg hw] at h2
        exact ⟨fun _ _ => trivial, anyIn_of_any hnd hQ f _ _ _ h2⟩
/-- No operation of the region is a 'defer'. -/
def noDefer (ops : Array Oper) : Bool := ops.all fun o => match o.op with | .defer _ => false | _ => true
theorem noDefer_spec (h : noDefer ops = true) : ∀ (j : Nat) (o : Oper) c, ops[j]? = some o → o.op ≠ .defer c := by
  intro j o c hj ho
  have h1 := Array.all_eq_true'.1 h o (Array.mem_of_getElem? hj)
  rw [ho] at h1
  cases h1
theorem wpIn_region_C (C : World → Prop) {id : Nat} {a : Act} {w : World} (hm : P.follows .mixedOrders = true) (hnd : noDefer ops = true) (hQ : ¬ LetsOut Q)
    (h : wpAnyC P .any ops C Q ops.size (Array.replicate ops.size false) a w.drew) : (Code.region id ops true).wpIn (Fence.wide.inRound l) n P Q a w :=
  wpIn_region_any hm (anyIn_of_any (noDefer_spec hnd) hQ _ _ _ _ (wpAny_of_C _ _ _ _ h))
end Go.Sp

/-
  Behind a factor where no unit comes: what was passed goes back (a range over a function). Conditions: those that each theorem names.
-/
namespace Go.Proofs.Yticljfpippbkkaa
open Go.RowKit Go.Sp Go.Shelf
variable {W w w' : World} {A : HProp} {bx bs bt N : Nat} {L : List Tok} {S : TabS}
attribute [local go_sem] Oper.semAt_some

/-- a list's elements from its nth on backward -/
def bwdL (T : List Tok) : Nat → List (Nat × Tok)
  | 0 => []
  | n + 1 => (n, T.getD n tok0) :: bwdL T n
theorem bwd_at (T : List Tok) : ∀ (n : Nat) (pre : List (Nat × Tok)) (x : Nat × Tok) (t : List (Nat × Tok)), bwdL T n = pre ++ x :: t → pre.length < n ∧ x = (n - 1 - pre.length, T.getD (n - 1 - pre.length) tok0)
  | 0, pre, x, t, h => by simp [bwdL] at h
  | n + 1, [], x, t, h => by
    simp only [bwdL, List.nil_append, List.cons.injEq] at h
    exact ⟨by simp, h.1.symm⟩
  | n + 1, y :: pre, x, t, h => by
    simp only [bwdL, List.cons_append, List.cons.injEq] at h
    obtain ⟨h1, h2⟩ := bwd_at T n pre x t h.2
    refine ⟨by simp; omega, ?_⟩
    rw [h2, List.length_cons, show n + 1 - 1 - (pre.length + 1) = n - 1 - pre.length by omega]
theorem bwd_len (T : List Tok) : ∀ n, (bwdL T n).length = n
  | 0 => rfl
  | n + 1 => by rw [bwdL, List.length_cons, bwd_len T n]
theorem bwd_split (T : List Tok) : ∀ (n k : Nat), k ≤ n → ∃ pre, bwdL T n = pre ++ bwdL T k ∧ pre.length = n - k
  | 0, k, h => ⟨[], by rw [Nat.le_zero.1 h]; rfl, by simp⟩
  | n + 1, k, h => by
    by_cases hk : k = n + 1
    · exact ⟨[], by rw [hk]; rfl, by simp [hk]⟩
    · obtain ⟨pre, h1, h2⟩ := bwd_split T n k (by omega)
      exact ⟨(n, T.getD n tok0) :: pre, by rw [bwdL, h1]; rfl, by rw [List.length_cons]; omega⟩

abbrev sliceO (v : Value) : Obj := .cells #[v] 22
set_option maxRecDepth 100000 in
set_option maxHeartbeats 4000000 in
/-- slices.Backward's iterator, over a list of tokens that is owned -/
theorem bwd_seq {bv : Nat} {v : Value} {T : List Tok} (hT : T.length ≤ 2000000) (W : World) :
    SeqSat Try.prog W 98 #[.pointer (some ⟨bv, 0, none⟩)] (fun x : Nat × Tok => #[.int .i64 x.1, x.2.val]) (bwdL T T.length) (pts bv (sliceO v) * rowT v T) := by
  intro l J K w hY h0
  have H0 := Lib.hid h0
  have HT := Lib.hid hT
  have hvv := (rowT_rd (h0.of_eq (show _ = rowT v T * (pts bv (sliceO v) * J []) by ac_rfl))).val
  obtain ⟨va, vc, rfl⟩ := hvv
  have c0 := (h0.of_eq (show _ = pts bv (sliceO (.slice va T.length vc)) * (rowT (.slice va T.length vc) T * J []) by ac_rfl)).cell (i := 0) rfl
  obtain ⟨n, hn⟩ : ∃ n, T.length = n := ⟨_, rfl⟩
  rw [hn] at hT
  clear h0
  refine callsIn_of_wp Try.func98 rfl trivial ?_ rfl
  simp only [Try.ntmps98, List.size_toArray, List.length_cons, List.length_nil, Nat.reduceAdd, Nat.reduceSub, Array.replicate_succ, Array.replicate_zero, List.push_toArray, List.append_toArray, List.nil_append, List.cons_append]
  have HN := Lib.hid hn
  have HK := Lib.hid hY
  clear hY c0
  have c0 := ((H0.out).of_eq (show _ = pts bv (sliceO (.slice va T.length vc)) * (rowT (.slice va T.length vc) T * J []) by ac_rfl)).cell (i := 0) rfl
  rw [hn] at c0
  clear hn
  gi_wp2
  clear c0
  gi_loopg [3] n (fun gg s3 wx => ∃ (k : Nat) (pre : List (Nat × Tok)), k ≤ n ∧ gg = k ∧ s3 = .int .i64 ((k : Int) - 1) ∧ bwdL T n = pre ++ bwdL T k ∧ Sat W ((pts bv (sliceO (.slice va T.length vc)) * rowT (.slice va T.length vc) T) * J pre) wx)
  case atStart => exact ⟨n, [], Nat.le_refl _, rfl, by go_num, rfl, H0.out⟩
  case round =>
    obtain ⟨k, pre, hk, hg, rfl, hp, hx⟩ := hrel
    subst hg
    have HX := Lib.hid hx
    have HP := Lib.hid hp
    clear hx hp H0
    cases gk with
    | zero =>
      gi_wp2
      go_end0
      have hp := HP.out
      rw [show bwdL T 0 = [] from rfl, List.append_nil] at hp
      have hx := HX.out
      rw [← hp] at hx
      exact ⟨⟨_, rfl⟩, .inl (by rw [← HN.out] at hx; exact hx)⟩
    | succ k =>
      have hx1 := HX.out.of_eq (show _ = pts bv (sliceO (.slice va T.length vc)) * (rowT (.slice va T.length vc) T * J pre) by ac_rfl)
      have c0 := hx1.cell (i := 0) rfl
      have hkT : k < T.length := by rw [HN.out]; omega
      obtain ⟨g, o, hga, hat, lb⟩ := (rowT_rd hx1.rot).at (i := k) hkT
      subst hga
      obtain ⟨⟨xc, xk, xn⟩, hxt⟩ : ∃ x, T[k] = x := ⟨_, rfl⟩
      rw [hxt] at hat
      have d0 := hat.c0
      have d1 := hat.c1
      have d2 := hat.c2
      have hxg : T.getD k tok0 = ⟨xc, xk, xn⟩ := by rw [List.getD_eq_getElem?_getD, List.getElem?_eq_getElem hkT, hxt]; rfl
      rw [HN.out] at c0
      obtain ⟨fn, tmps, assign, body, hy, hR⟩ := HK.out pre (k, T.getD k tok0) (bwdL T k) wr (by rw [HN.out]; exact HP.out) HX.out
      simp only [hxg, Tok.val] at hy
      have HR := Lib.hid hR
      clear hx1 hat hxt hR hkT
      gi_wp2
      refine HR.out.mono ?_
      clear d0 d1 d2 lb c0 hy
      rintro e w2 (⟨rfl, hs⟩ | ⟨rfl, hs⟩)
      · have HS := Lib.hid hs
        clear hs HR HX
        gi_wp2
        gi_roundg k
        case measure => omega
        case rel => exact ⟨k, pre ++ [(k, ⟨xc, xk, xn⟩)], by omega, rfl, by go_num, by rw [HP.out, bwdL, hxg]; simp, by have h := HS.out; rw [hxg] at h; exact h⟩
      · have HS := Lib.hid hs
        clear hs HR HX
        gi_wp2
        refine bodyPost_ret (results_none rfl _ _ _) rfl ?_
        exact ⟨⟨_, rfl⟩, .inr ⟨pre, (k, T.getD k tok0), bwdL T k, by rw [HN.out]; exact HP.out, HS.out⟩⟩

/-- a list source, as a part of the heap -/
def lsH (b : Nat) (L : List Tok) : HProp := ex fun m => ex fun v => fact (RdM m v L) (pts b (lsO v true) * roH m)
theorem LsAt.of_h {b : Nat} {L : List Tok} (h : Sat W (lsH b L * A) w) : LsAt W A b L w := by
  obtain ⟨m, h⟩ := h.ex_l
  obtain ⟨v, h⟩ := h.ex_l
  obtain ⟨h1, h2⟩ := h.fact_l
  exact ⟨m, v, h1, h2.asc⟩
theorem LsAt.to_h {b : Nat} {L : List Tok} (h : LsAt W A b L w) : Sat W (lsH b L * A) w := by
  obtain ⟨m, v, h1, h2⟩ := h
  exact Sat.ex_l_intro m (Sat.ex_l_intro v (Sat.fact_l_intro h1 h2.asc'))
theorem unitGo_none {x : Fac} {l : List Tok} (h : unitGo x l unitsL = none) (k : Nat) (hk : k < 9) : keyM (unitsL.getD k ([], 0, 0)).1 l = none := by
  have H : ∀ us : List (List UInt8 × Int × Int), unitGo x l us = none → ∀ u ∈ us, keyM u.1 l = none := by
    intro us
    induction us with
    | nil => intro _ u hu; cases hu
    | cons u us ih =>
      intro h v hv
      rw [unitGo] at h
      cases hkm : keyM u.1 l with
      | some l2 => rw [hkm] at h; cases h
      | none =>
        rw [hkm] at h
        rcases List.mem_cons.1 hv with rfl | hv
        · exact hkm
        · exact ih h v hv
  exact H _ h _ (unit_mem k hk).1
set_option maxRecDepth 100000 in
theorem backward_any (a : Option Addr) (n c : Nat) (w : World) : Calls Try.prog 80 #[.slice a n c] w fun e w' => e = .returned (.func (.func 98) #[] #[.pointer (some ⟨w.heap.size, 0, none⟩)]) ∧ w' = w.alloc (sliceO (.slice a n c)) := by
  go_enter Try.func80, Try.ntmps80
  go_wp2
  go_ret
  exact ⟨rfl, rfl⟩
set_option maxRecDepth 100000 in
set_option maxHeartbeats 8000000 in
theorem unit_none {x : Fac} (hc1 : (registerM S (blanksM L)).2.2.2.1 = 0) (hc2 : (registerM S (blanksM L)).2.2.1 = false) (hc3 : unitGo x (blanksM L) unitsL = none) (hl : L.length ≤ 2000000) (h : ScAt W A bx bs bt L N S w) :
    Calls Try.prog 57 #[.pointer (some ⟨bx, 0, none⟩), x.val] w fun e w' => e = .returned (.tuple #[.int .i64 0, .int .i64 21]) ∧ ScAt W A bx bs bt L N S w' := by
  obtain ⟨xi, xf, xm⟩ := x
  have h1 := (h.alloc (boxP bx)).alloc (facO ⟨xi, xf, xm⟩)
  obtain ⟨b2, hb2⟩ : ∃ b2, w.heap.size = b2 := ⟨_, rfl⟩
  obtain ⟨b3, hb3⟩ : ∃ b3, (w.alloc (boxP bx)).heap.size = b3 := ⟨_, rfl⟩
  have hb4 : b2 + 1 = b3 := by rw [← hb2, ← hb3]; simp
  obtain ⟨w1, hw1⟩ : ∃ w1, (w.alloc (boxP bx)).alloc (facO ⟨xi, xf, xm⟩) = w1 := ⟨_, rfl⟩
  rw [hw1, hb2, hb3] at h1
  have H := Lib.hid (h1.of_eq (show _ = pts b2 (boxP bx) * (pts b3 (facO ⟨xi, xf, xm⟩) * A) by ac_rfl)).rowT_nil
  have HW1 := Lib.hid hw1
  have HL := Lib.hid hl
  have HC1 := Lib.hid hc1
  have HC2 := Lib.hid hc2
  have HC3 := Lib.hid hc3
  obtain ⟨i0, hi, hz0, hz1, hz2⟩ := info_parts3 info_tok
  have HI := Lib.hid hi
  have HZ0 := Lib.hid hz0
  have HZ1 := Lib.hid hz1
  have HZ2 := Lib.hid hz2
  clear h h1 hw1 hl hc1 hc2 hc3 hi hz0 hz1 hz2
  refine calls_of_wp_range Try.func57 rfl ?_
  simp only [Try.ntmps57, List.size_toArray, List.length_cons, List.length_nil, Nat.reduceAdd, Nat.reduceSub, Array.replicate_succ, Array.replicate_zero, List.push_toArray, List.append_toArray, List.nil_append, List.cons_append]
  go_upto_block 0 with fail
  rw [HW1.out]
  clear HW1 hb2 hb3
  go_cut [6] from 7 to 40 (fun s6 wx => ∃ (T : List Tok), T ++ blanksM L = L ∧ (∀ y ∈ T, blankB y = true) ∧ ScAt W (rowT s6 T * (pts b2 (boxP bx) * (pts b3 (facO ⟨xi, xf, xm⟩) * A))) bx bs bt (blanksM L) N S wx)
  case first =>
    go_wp2_with fail
    go_loopg [6] (L.length + 1) (fun gg s6 wx => ∃ (T L' : List Tok), T ++ L' = L ∧ (∀ y ∈ T, blankB y = true) ∧ gg = L'.length + 1 ∧ blanksM L' = blanksM L ∧ ScAt W (rowT s6 T * (pts b2 (boxP bx) * (pts b3 (facO ⟨xi, xf, xm⟩) * A))) bx bs bt L' N S wx)
    case atStart => exact ⟨[], L, rfl, by simp, rfl, rfl, H.out⟩
    case round =>
      obtain ⟨T, L', hT, hTb, rfl, hbl, hx⟩ := hrel
      have HTT := Lib.hid hT
      have HTB := Lib.hid hTb
      have HBL := Lib.hid hbl
      have HX := Lib.hid hx
      have hTL : T.length + L'.length ≤ 2000000 := by
        have := congrArg List.length HTT.out
        rw [List.length_append] at this
        have := HL.out
        omega
      clear hT hTb hbl hx H
      obtain ⟨c0, -, lb⟩ := HX.out.cells
      have p0 := HX.out.sat.r.cell (i := 0) rfl
      have hm1 := fun n => m_next n bs wr
      have HN1 := Lib.hid (scnext_any HX.out)
      go_wp2_with fail
      with_reducible refine Calls.mono HN1.out ?_
      rintro e w2 ⟨rfl, h2⟩
      clear c0 lb hm1 HN1 HX p0
      cases L' with
      | nil =>
        have H2 := Lib.hid (h2.ext ((Ext.refl _).alloc (o := tok0.box)))
        clear h2
        go_wp2
        go_meet
        have hbl := HBL.out
        rw [blanksM] at hbl
        rw [← hbl]
        have h1 := HTT.out
        rw [List.append_nil] at h1
        exact ⟨T, by rw [List.append_nil]; exact h1, HTB.out, H2.out⟩
      | cons x L' =>
        simp only [List.headD_cons, List.isEmpty_cons, Bool.not_false, List.tail_cons, List.length_cons] at *
        go_upto_region 4 with fail
        obtain ⟨w3, hw3⟩ : ∃ w3, w2.alloc x.box = w3 := ⟨_, rfl⟩
        obtain ⟨bk, hbk⟩ : ∃ bk, w2.heap.size = bk := ⟨_, rfl⟩
        have hx3 := h2.alloc x.box
        rw [hw3, hbk] at hx3
        rw [show w2.alloc (.cells #[.int .i64 x.cat, .int .u8 x.chr.toNat, .string x.name] 28) = w3 from hw3, hbk]
        have d0 := hx3.sat.cell (i := 0) rfl
        have d1 := hx3.sat.cell (i := 1) rfl
        have d2 := hx3.sat.cell (i := 2) rfl
        have ld := hx3.sat.lt
        have HX3 := Lib.hid hx3
        clear hx3 hw3 hbk h2
        go_wp2_with fail
        with_reducible refine Calls.mono (blank_any x) ?_
        rintro e w4 ⟨rfl, hex⟩
        have HX4 := Lib.hid (HX3.out.ext hex)
        have e0 := hex.cell d0
        have e1 := hex.cell d1
        have e2 := hex.cell d2
        have le := hex.lt ld
        clear hex HX3 d0 d1 d2 ld
        obtain ⟨Bq, hBq⟩ : ∃ Bq, blankB x = Bq := ⟨_, rfl⟩
        have HBQ := Lib.hid hBq
        rw [hBq]
        clear hBq
        cases Bq with
        | true =>
          obtain ⟨Y, h5, back⟩ := HX4.out.focus
          have HBK := Lib.hid back
          have h6 := h5.of_eq (show _ = rowT u6 T * (pts bk x.box * ((pts b2 (boxP bx) * (pts b3 (facO ⟨xi, xf, xm⟩) * A)) * Y)) by ac_rfl)
          obtain ⟨sa, sc, hu⟩ := (rowT_rd h6).val
          subst hu
          have HS6 := Lib.hid h6
          obtain ⟨tn, htn⟩ : ∃ tn, T.length = tn := ⟨_, rfl⟩
          rw [htn] at HS6 hTL
          have HTN := Lib.hid htn
          clear h5 h6 back htn HX4
          rw [HTN.out]
          go_wp2_with (at_builtin; refine wpList_append_sep rfl _ _ 22 rfl i0 _ 32 Try.underlying22 HI.out HZ0.out HZ1.out HZ2.out rfl rfl HS6.out.allocD ⟨w4.heap.size, 0, none⟩ 1 1 x.cells rfl rfl ?_ ?_ ?_ ?_ ?_)
          · exact new_cells _ _ _
          · simp [Value.oneCell', Tok.cells]
          · have := HTN.out; simp [maxLen]; omega
          · have := HTN.out; omega
          intro v' w5 h7
          have h8 := rowT_snoc (acc := T) (t := x) h7 (by rw [HTN.out]) rfl
          have H8 := Lib.hid (HBK.out (pts bk x.box * (rowT v' (T ++ [x]) * (pts b2 (boxP bx) * (pts b3 (facO ⟨xi, xf, xm⟩) * A)))) w5 (h8.of_eq (by ac_rfl))).less
          clear h7 h8 HS6 HBK e0 e1 e2 le
          go_wp2
          go_roundg (L'.length + 1)
          case measure => omega
          case rel => exact ⟨T ++ [x], L', by rw [← HTT.out]; simp, by intro y hy; rw [List.mem_append, List.mem_singleton] at hy; rcases hy with h | h; exact HTB.out y h; rw [h]; exact HBQ.out, rfl, by rw [← HBL.out, blanksM, if_pos HBQ.out], H8.out⟩
        | false =>
          have HX3 := Lib.hid HX4.out
          have d0 := e0
          have d1 := e1
          have d2 := e2
          clear HX4 e0 e1 e2
          go_upto_region 5 with fail
          have q0 := HX3.out.drew.sat.r.r.cell (i := 0) rfl
          have hb := HBL.out
          rw [blanksM, if_neg (by rw [HBQ.out]; simp)] at hb
          have HB3 := Lib.hid hb
          clear hb
          have HB := Lib.hid (scback_any x (by omega) HX3.out.drew)
          obtain ⟨W9, hW9⟩ : ∃ W9, w4.drew = W9 := ⟨_, rfl⟩
          rw [hW9] at HB
          obtain ⟨j0, -, -⟩ := HX3.out.drew.cells
          rw [hW9] at j0 q0
          have j1 := (show w4.drew.cell? _ = _ from d0)
          have j2 := (show w4.drew.cell? _ = _ from d1)
          have j3 := (show w4.drew.cell? _ = _ from d2)
          rw [hW9] at j1 j2 j3
          have hm2 := fun n => m_back n bs W9
          clear d0 d1 d2 HX3
          refine wp_region_tail (fun w' => w' = W9) 5 (by kernel_rfl) (by kernel_rfl) hW9 ?_
          clear hW9
          simp only [List.take_succ_cons, List.take_zero, List.drop_succ_cons, List.drop_zero]
          iterate 5
            with_reducible refine wpQuiet_step ?_
            intro K hK
            go_simp
            first
              | (with_reducible refine hK _ ?_
                 clear hK K)
              | (rw [if_neg (by intro h; cases h)]
                 with_reducible refine hK _ ?_
                 clear hK K)
              | (refine Exists.intro _ ⟨fun w9 hw9 => ?_, ?_⟩
                 rotate_left 1
                 with_reducible refine hK _ ?_
                 clear hK K
                 rotate_left 1
                 · subst hw9; go_simp; try with_reducible rfl)
          refine wpQuiet_nil ?_
          rintro w17 rfl
          go_wp2_with fail
          with_reducible refine Calls.mono HB.out ?_
          rintro e w5 ⟨rfl, h5⟩
          have HX4 := Lib.hid h5
          clear h5 HB j0 j1 j2 j3 q0 hm2
          go_wp2
          go_meet
          rw [← HB3.out]
          exact ⟨T, HTT.out, HTB.out, HX4.out.less⟩
  case rest =>
    obtain ⟨T, hT, hTb, hx⟩ := hcut
    have HTT := Lib.hid hT
    have HX := Lib.hid hx
    have hbl := blanks_len L
    have p0 := HX.out.sat.r.cell (i := 0) rfl
    clear hT hTb hx H
    obtain ⟨bl, hblv⟩ : ∃ bl, blanksM L = bl := ⟨_, rfl⟩
    rw [hblv] at HX HTT HC1 HC2 HC3 hbl
    have hLL := HL.out
    have HG := Lib.hid (register_any (by omega) HX.out)
    have hrb : (registerM S bl).2.2.2.1 = 0 → (registerM S bl).2.2.1 = false → (registerM S bl).2.2.2.2 = bl := by
      cases bl with
      | nil => intro _ _; rfl
      | cons y t =>
        rw [registerM_cons]
        split
        · intro _ h; cases h
        · split
          · intro _ _; rfl
          · unfold regEnd
            split
            · intro h; simp only at h; rename_i hne; exact absurd h hne
            · split
              · intro h; simp at h
              · intro _ h; cases h
    obtain ⟨⟨rc, ri, rb, re, rl⟩, hr⟩ : ∃ r, registerM S bl = r := ⟨_, rfl⟩
    rw [hr] at HG HC1 HC2 hrb
    simp only at HC1 HC2 hrb
    obtain rfl := HC1.out
    obtain rfl := HC2.out
    obtain rfl := hrb rfl rfl
    clear hr hrb HC1 HC2
    go_wp2_with fail
    with_reducible refine Calls.mono HG.out ?_
    rintro e w2 ⟨rfl, h2⟩
    clear HX p0 HG
    have HX := Lib.hid h2
    clear h2
    have HIX := Lib.hid (fun (k : Nat) (hk : k < 9) (w : World) => idx9 k hk w)
    go_wp2_with fail
    go_loopg [61] 9 (fun gg s61 wx => ∃ k : Nat, k ≤ 9 ∧ gg = 9 - k ∧ s61 = .int .i64 k ∧ ScAt W (rowT u6 T * (pts b2 (boxP bx) * (pts b3 (facO ⟨xi, xf, xm⟩) * A))) bx bs bt rl N S wx)
    case atStart => exact ⟨0, by omega, rfl, rfl, HX.out⟩
    case round =>
      obtain ⟨k, hk, hg, rfl, hx⟩ := hrel
      have HX2 := Lib.hid hx
      clear hx HX
      have p0 := HX2.out.sat.r.cell (i := 0) rfl
      by_cases hk9 : k < 9
      · have hix := HIX.out k hk9
        obtain ⟨hm1, hm2, hm3⟩ := unit_mem k hk9
        have hkn := unitGo_none HC3.out k hk9
        obtain ⟨u, hu⟩ : ∃ u, unitsL.getD k ([], 0, 0) = u := ⟨_, rfl⟩
        rw [hu] at hix hm1 hm2 hm3 hkn
        have HKW := Lib.hid (sckey_at ⟨u.1.toArray⟩ u.1 rfl hm2 hm3 (by omega) HX2.out)
        rw [hkn] at HKW
        have i9 : (k : Int) < 9 := by omega
        generalize (⟨u.1.toArray⟩ : ByteArray) = key at *
        clear hm1 hm2 hm3 hu hkn HX2
        go_wp2_with fail
        with_reducible refine Calls.mono HKW.out ?_
        rintro e w3 ⟨rfl, h3⟩
        have H3 := Lib.hid h3
        clear h3 HKW p0
        simp only [Option.isSome_none]
        go_wp2
        go_roundg (9 - (k + 1))
        case measure => omega
        case rel => exact ⟨k + 1, by omega, rfl, by go_num, H3.out⟩
      · obtain rfl : k = 9 := by omega
        clear hk hg hk9
        have HTL := Lib.hid (show T.length ≤ 2000000 by have := congrArg List.length HTT.out; rw [List.length_append] at this; have := HL.out; omega)
        obtain ⟨ua, uc, hu⟩ := (rowT_rd (HX2.out.sat)).val
        subst hu
        have HBW := Lib.hid (backward_any ua T.length uc wr)
        obtain ⟨Y, h5, back⟩ := HX2.out
        have BACK := Lib.hid back
        obtain ⟨bv, hbv⟩ : ∃ bv, wr.heap.size = bv := ⟨_, rfl⟩
        obtain ⟨w5, hw5⟩ : ∃ w5, wr.alloc (sliceO (.slice ua T.length uc)) = w5 := ⟨_, rfl⟩
        rw [hbv] at HBW
        obtain ⟨G, hG⟩ : ∃ G, pts b2 (boxP bx) * (pts b3 (facO ⟨xi, xf, xm⟩) * (A * Y)) = G := ⟨_, rfl⟩
        have h6 := h5.to_h.alloc (sliceO (.slice ua T.length uc))
        rw [hw5, hbv] at h6
        rw [hw5] at HBW
        have h7 : Sat W ((pts bv (sliceO (.slice ua T.length uc)) * rowT (.slice ua T.length uc) T) * (lsH bs (T.drop (T.length - ([] : List (Nat × Tok)).length) ++ rl) * (pts bx (scO bs bt) * G))) w5 := by
          rw [List.length_nil, Nat.sub_zero, List.drop_length, List.nil_append, ← hG]
          exact h6.of_eq (by ac_rfl)
        have H7 := Lib.hid h7
        have HG := Lib.hid hG
        clear h5 back h6 h7 hG HX2 hbv hw5 p0
        go_wp2_with fail
        with_reducible refine Calls.mono HBW.out ?_
        rintro e w6 ⟨rfl, rfl⟩
        clear HBW
        go_wp2
        refine wp_of_range (wp_range (β := Nat) (gf := 98) (lb := #[.pointer (some ⟨bv, 0, none⟩)]) rfl (enters_of Try.func98 (by kernel_rfl) rfl)
          (bwd_seq (bv := bv) (v := .slice ua T.length uc) HTL.out W) (fun _ => rfl) (fun pre => lsH bs (T.drop (T.length - pre.length) ++ rl) * (pts bx (scO bs bt) * G))
          (fun pre x y => pts y x.2.box * (lsH bs (T.drop (T.length - pre.length) ++ rl) * (pts bx (scO bs bt) * G))) (fun _ _ => fact False emp) H7.out (fun _ y t => t.setIfInBounds 16 (.pointer (some ⟨y, 0, none⟩))) ?assign ?body ?done ?stop)
        case assign =>
          rintro l pre ⟨i, ⟨xc, xk, xn⟩⟩ t R w1 - hs
          have HS := Lib.hid (hs.alloc (Tok.box ⟨xc, xk, xn⟩))
          clear hs H7
          gi_wp2
          refine ⟨w1.heap.size, ?_, HS.out.of_eq (by ac_rfl)⟩
          go_simp
        case body =>
          rintro l pre ⟨i, ⟨xc, xk, xn⟩⟩ t y R w1 hxs hs
          obtain ⟨hp1, hp2⟩ := bwd_at T T.length pre _ t hxs
          simp only [Prod.mk.injEq] at hp2
          obtain ⟨hi, hx⟩ := hp2
          obtain ⟨n, hn⟩ : ∃ n, T.length - (pre.length + 1) = n := ⟨_, rfl⟩
          have hn2 : T.length - 1 - pre.length = n := by omega
          have hnT : n < T.length := by omega
          rw [hn2] at hx
          have hd : T.drop n = ⟨xc, xk, xn⟩ :: T.drop (T.length - pre.length) := by
            rw [hx, List.drop_eq_getElem_cons hnT, List.getD_eq_getElem?_getD, List.getElem?_eq_getElem hnT, show T.length - pre.length = n + 1 by omega]
            rfl
          have HD := Lib.hid hd
          have HN := Lib.hid hn
          have h9 := hs.drew
          obtain ⟨W9, hW9⟩ : ∃ W9, w1.drew = W9 := ⟨_, rfl⟩
          rw [hW9] at h9
          rw [← HG.out] at h9
          have hq := h9.of_eq (show _ = pts b2 (boxP bx) * (pts bx (scO bs bt) * (pts y (Tok.box ⟨xc, xk, xn⟩) * (R * ((pts bv (sliceO (.slice ua T.length uc)) * rowT (.slice ua T.length uc) T) * (lsH bs (T.drop (T.length - pre.length) ++ rl) * (pts b3 (facO ⟨xi, xf, xm⟩) * (A * Y))))))) by ac_rfl)
          have p0 := hq.cell (i := 0) rfl
          have e0 := hq.r.cell (i := 0) rfl
          have d0 := hq.r.r.cell (i := 0) rfl
          have d1 := hq.r.r.cell (i := 1) rfl
          have d2 := hq.r.r.cell (i := 2) rfl
          have lb := hq.r.lt
          have hm2 := fun n => m_back n bs W9
          have HB := Lib.hid (lsback_any ⟨xc, xk, xn⟩ (L := T.drop (T.length - pre.length) ++ rl) (by rw [List.length_append, List.length_drop]; have := HTL.out; have := HL.out; omega) (LsAt.of_h (A := pts y (Tok.box ⟨xc, xk, xn⟩) * (pts bx (scO bs bt) * (G * (R * (pts bv (sliceO (.slice ua T.length uc)) * rowT (.slice ua T.length uc) T))))) (h9.of_eq (show _ = lsH bs (T.drop (T.length - pre.length) ++ rl) * (pts y (Tok.box ⟨xc, xk, xn⟩) * (pts bx (scO bs bt) * (G * (R * (pts bv (sliceO (.slice ua T.length uc)) * rowT (.slice ua T.length uc) T))))) by rw [← HG.out]; ac_rfl))))
          obtain ⟨C, hC⟩ : ∃ C : World → Prop, C = fun w' => ∃ X, Sat W (pts b2 (boxP bx) * (pts bx (scO bs bt) * (pts y (Tok.box ⟨xc, xk, xn⟩) * X))) w' := ⟨_, rfl⟩
          have HCC := Lib.hid (show ∀ w', C w' → w'.cell? ⟨b2, 0, none⟩ = some (.pointer (some ⟨bx, 0, none⟩)) ∧ w'.cell? ⟨bx, 0, none⟩ = some (srcV bs) ∧ w'.cell? ⟨y, 0, none⟩ = some (.int .i64 xc) ∧ w'.cell? ⟨y, 1, none⟩ = some (.int .u8 xk.toNat) ∧ w'.cell? ⟨y, 2, none⟩ = some (.string xn) ∧ bx < w'.heap.size from fun w' h => by
            rw [hC] at h
            obtain ⟨X, h⟩ := h
            exact ⟨h.cell rfl, h.r.cell rfl, h.r.r.cell rfl, h.r.r.cell rfl, h.r.r.cell rfl, h.r.lt⟩)
          have HC2 := Lib.hid (show ∀ L' w', LsAt W (pts y (Tok.box ⟨xc, xk, xn⟩) * (pts bx (scO bs bt) * (G * (R * (pts bv (sliceO (.slice ua T.length uc)) * rowT (.slice ua T.length uc) T))))) bs L' w' → C w' from fun L' w' h => by
            rw [hC]
            have h8 := h.sat
            rw [← HG.out] at h8
            exact ⟨_, h8.of_eq (show _ = pts b2 (boxP bx) * (pts bx (scO bs bt) * (pts y (Tok.box ⟨xc, xk, xn⟩) * (pts b3 (facO ⟨xi, xf, xm⟩) * ((A * Y) * (R * (pts bv (sliceO (.slice ua T.length uc)) * rowT (.slice ua T.length uc) T)))))) by ac_rfl)⟩)
          have h10 := HC2.out _ _ (LsAt.of_h (h9.of_eq (show _ = lsH bs (T.drop (T.length - pre.length) ++ rl) * (pts y (Tok.box ⟨xc, xk, xn⟩) * (pts bx (scO bs bt) * (G * (R * (pts bv (sliceO (.slice ua T.length uc)) * rowT (.slice ua T.length uc) T))))) by rw [← HG.out]; ac_rfl)))
          have HC9 := Lib.hid h10
          clear hC h10 p0 e0 d0 d1 d2 lb
          clear hs h9 hq hi hx hd hn hn2 hp1 hnT hxs H7 BACK
          gi_wp2
          refine wpIn_region_C C (by kernel_rfl) (by kernel_rfl) (fun ⟨_, _, h⟩ => h) ?_
          rw [hW9]
          refine wpC_take (i := 0) (v := ?_) rfl (by kernel_rfl) (by kernel_rfl) (by kernel_rfl) (fun _ _ _ h => h) (by rfl) ?_ ?_
          rotate_left 1
          · intro w hw; (obtain ⟨p0, e0, d0, d1, d2, lb⟩ := HCC.out _ hw; go_simp; try with_reducible rfl)
          refine wpC_take (i := 1) (v := ?_) rfl (by kernel_rfl) (by kernel_rfl) (by kernel_rfl) (fun _ _ _ h => h) (by rfl) ?_ ?_
          rotate_left 1
          · intro w hw; (obtain ⟨p0, e0, d0, d1, d2, lb⟩ := HCC.out _ hw; go_simp; try with_reducible rfl)
          refine wpC_take (i := 2) (v := ?_) rfl (by kernel_rfl) (by kernel_rfl) (by kernel_rfl) (fun _ _ _ h => h) (by rfl) ?_ ?_
          rotate_left 1
          · intro w hw; (obtain ⟨p0, e0, d0, d1, d2, lb⟩ := HCC.out _ hw; go_simp; try with_reducible rfl)
          refine wpC_take (i := 3) (v := ?_) rfl (by kernel_rfl) (by kernel_rfl) (by kernel_rfl) (fun _ _ _ h => h) (by rfl) ?_ ?_
          rotate_left 1
          · intro w hw; (obtain ⟨p0, e0, d0, d1, d2, lb⟩ := HCC.out _ hw; go_simp; try with_reducible rfl)
          refine wpC_take (i := 4) (v := ?_) rfl (by kernel_rfl) (by kernel_rfl) (by kernel_rfl) (fun _ _ _ h => h) (by rfl) ?_ ?_
          rotate_left 1
          · intro w hw; (obtain ⟨p0, e0, d0, d1, d2, lb⟩ := HCC.out _ hw; go_simp; try with_reducible rfl)
          refine wpC_one (i := 5) rfl (by kernel_rfl) (HC9.out) (fun K hK => ?_)
          go_simp
          with_reducible refine Calls.mono HB.out ?_
          rintro e w8 ⟨rfl, h8⟩
          have H8 := Lib.hid h8
          clear h8 HB
          go_simp
          refine hK _ _ ?_
          clear hK K
          refine wpC_done (by kernel_rfl) (HC2.out _ _ H8.out) ?_
          gi_wp2
          show Sat W ((R * (pts bv (sliceO (.slice ua T.length uc)) * rowT (.slice ua T.length uc) T)) * (lsH bs (T.drop (T.length - (pre ++ [(i, (⟨xc, xk, xn⟩ : Tok))]).length) ++ rl) * (pts bx (scO bs bt) * G))) w8
          rw [List.length_append, List.length_singleton, HN.out, HD.out, List.cons_append]
          exact (H8.out.to_h.of_eq (show _ = pts y (Tok.box ⟨xc, xk, xn⟩) * ((R * (pts bv (sliceO (.slice ua T.length uc)) * rowT (.slice ua T.length uc) T)) * (lsH bs (⟨xc, xk, xn⟩ :: (T.drop (T.length - pre.length) ++ rl)) * (pts bx (scO bs bt) * G))) by ac_rfl)).r
        case done =>
          intro D w7 hs
          go_wp2
          rw [bwd_len, Nat.sub_self, List.drop_zero] at hs
          have HTT2 := HTT.out
          rw [HTT2] at hs
          refine post_mark rfl hs (v := .tuple #[.int .i64 0, .int .i64 21]) (fun w' => by unfold results; go_simp) (fun w' h => ⟨rfl, ?_⟩)
          rw [← HG.out] at h
          exact (show ScAt W _ bx bs bt L N S w' from ⟨Y, LsAt.of_h (h.of_eq (show _ = lsH bs L * (pts bx (scO bs bt) * (((pts bv (sliceO (.slice ua T.length uc)) * rowT (.slice ua T.length uc) T) * (pts b2 (boxP bx) * (pts b3 (facO ⟨xi, xf, xm⟩) * A))) * Y)) by ac_rfl)), BACK.out⟩).less.less.less
        case stop =>
          rintro D c pre x t w7 - hs
          exact absurd hs.r.r (fun h => by obtain ⟨-, _, -, hf, -⟩ := h; exact hf)
end Go.Proofs.Yticljfpippbkkaa

/-
  The negative of a glue, whole. Conditions: those that each theorem names.
-/
namespace Go.Proofs.Yticljfpippbkkaa
open Go.RowKit Go.Sp
variable {W w w' : World} {F A : HProp}

/-- a glue made tidy; its error -/
def tidG (g : Gl) : Gl := ⟨g.nat, g.stretch, g.shrink, if g.stretch = 0 then 0 else g.so, if g.shrink = 0 then 0 else g.ko⟩
def tidR (g : Gl) : Value := if glueB (tidG g) = true then .tuple #[(tidG g).val, .int .i64 0] else .tuple #[glz.val, .int .i64 20]
theorem tidy_ok {g t : Gl} {er : Int} (h : glueE t = er) (he : er = 0) : tidG g = t → Ending.returned (.tuple #[t.val, .int .i64 0]) = .returned (tidR g) := by
  intro ht
  subst he
  unfold glueE at h
  split at h
  · rename_i hb
    rw [tidR, ht, if_pos hb]
  · cases h
theorem tidy_no {g t : Gl} {er : Int} (h : glueE t = er) (he : ¬ er = 0) : tidG g = t → Ending.returned (.tuple #[glz.val, .int .i64 20]) = .returned (tidR g) := by
  intro ht
  unfold glueE at h
  split at h
  · exact absurd h.symm he
  · rename_i hb
    rw [tidR, ht, if_neg hb]
set_option maxRecDepth 100000 in
set_option maxHeartbeats 4000000 in
theorem tidyF_any (g : Gl) (w : World) : Calls Try.prog 84 #[g.val] w fun e w' => e = .returned (tidR g) ∧ Ext w w' := by
  obtain ⟨a, b, c, oo, pp⟩ := g
  go_enter Try.func84, Try.ntmps84
  by_cases hb : b = 0
  · subst hb
    by_cases hc : c = 0
    · subst hc
      have hs := ((Sat.start w).alloc (.cells #[.int .i64 a, .int .i64 0, .int .i64 0, .int .i64 0, .int .i64 0] 57)).alloc (.cells #[.int .i64 0, .int .i64 0, .int .i64 0, .int .i64 0, .int .i64 0] 57)
      rw [show (w.alloc (.cells #[.int .i64 a, .int .i64 0, .int .i64 0, .int .i64 0, .int .i64 0] 57)).heap.size = w.heap.size + 1 by simp] at hs
      have HS := Lib.hid hs
      obtain ⟨er, her⟩ : ∃ er, glueE ⟨a, 0, 0, 0, 0⟩ = er := ⟨_, rfl⟩
      have HG := Lib.hid (glue_any ⟨a, 0, 0, 0, 0⟩ ((w.alloc (.cells #[.int .i64 a, .int .i64 0, .int .i64 0, .int .i64 0, .int .i64 0] 57)).alloc (.cells #[.int .i64 0, .int .i64 0, .int .i64 0, .int .i64 0, .int .i64 0] 57)))
      rw [her] at HG
      have HER := Lib.hid her
      clear hs her
      go_wp2_with fail
      refine Calls.mono HG.out ?_
      rintro e w1 ⟨rfl, hx⟩
      have h2 := HS.out.ext hx
      have HX := Lib.hid h2.r.r.toExt
      generalize hbz : w.heap.size = bz at *
      have d0 := h2.r.cell (i := 0) rfl
      have d1 := h2.r.cell (i := 1) rfl
      have d2 := h2.r.cell (i := 2) rfl
      have d3 := h2.r.cell (i := 3) rfl
      have d4 := h2.r.cell (i := 4) rfl
      have y0 := h2.cell (i := 0) rfl
      have y1 := h2.cell (i := 1) rfl
      have y2 := h2.cell (i := 2) rfl
      have y3 := h2.cell (i := 3) rfl
      have y4 := h2.cell (i := 4) rfl
      have f0 := h2.free (i := 0)
      have f1 := h2.free (i := 1)
      have f2 := h2.free (i := 2)
      have f3 := h2.free (i := 3)
      have f4 := h2.free (i := 4)
      have l1 := h2.lt
      have l2 := h2.r.lt
      have H2 := Lib.hid h2
      clear hx h2 hbz
      by_cases he : er = 0
      · have HTT := Lib.hid (tidy_ok (g := ⟨a, 0, 0, oo, pp⟩) HER.out he (by simp [tidG, *]))
        subst he
        have HZ := Lib.hid (((((H2.out.set (i := 0) (v := .int .i64 a)).set (i := 1) (v := .int .i64 0)).set (i := 2) (v := .int .i64 0)).set (i := 3) (v := .int .i64 0)).set (i := 4) (v := .int .i64 0))
        go_wp2
        (try simp only [Exit.inBlock, Exit.then])
        refine bodyPost_ret (v := .tuple #[.agg #[.int .i64 a, .int .i64 0, .int .i64 0, .int .i64 0, .int .i64 0], .int .i64 0]) ?rh rfl ⟨HTT.out, HZ.out.r.r.toExt⟩
        case rh => unfold results; go_simp
      · have HTT := Lib.hid (tidy_no (g := ⟨a, 0, 0, oo, pp⟩) HER.out he (by simp [tidG, *]))
        have q1 : (er == 0) = false := by rw [beq_eq_false_iff_ne]; exact he
        have HZ := Lib.hid (((((H2.out.set (i := 0) (v := .int .i64 0)).set (i := 1) (v := .int .i64 0)).set (i := 2) (v := .int .i64 0)).set (i := 3) (v := .int .i64 0)).set (i := 4) (v := .int .i64 0))
        clear he
        go_wp2
        (try simp only [Exit.inBlock, Exit.then])
        refine bodyPost_ret (v := .tuple #[.agg #[.int .i64 0, .int .i64 0, .int .i64 0, .int .i64 0, .int .i64 0], .int .i64 20]) ?rh rfl ⟨HTT.out, HZ.out.r.r.toExt⟩
        case rh => unfold results; go_simp
    · have qc : (c == 0) = false := by rw [beq_eq_false_iff_ne]; exact hc
      have hs := ((Sat.start w).alloc (.cells #[.int .i64 a, .int .i64 0, .int .i64 c, .int .i64 0, .int .i64 pp] 57)).alloc (.cells #[.int .i64 0, .int .i64 0, .int .i64 0, .int .i64 0, .int .i64 0] 57)
      rw [show (w.alloc (.cells #[.int .i64 a, .int .i64 0, .int .i64 c, .int .i64 0, .int .i64 pp] 57)).heap.size = w.heap.size + 1 by simp] at hs
      have HS := Lib.hid hs
      obtain ⟨er, her⟩ : ∃ er, glueE ⟨a, 0, c, 0, pp⟩ = er := ⟨_, rfl⟩
      have HG := Lib.hid (glue_any ⟨a, 0, c, 0, pp⟩ ((w.alloc (.cells #[.int .i64 a, .int .i64 0, .int .i64 c, .int .i64 0, .int .i64 pp] 57)).alloc (.cells #[.int .i64 0, .int .i64 0, .int .i64 0, .int .i64 0, .int .i64 0] 57)))
      rw [her] at HG
      have HER := Lib.hid her
      clear hs her
      go_wp2_with fail
      refine Calls.mono HG.out ?_
      rintro e w1 ⟨rfl, hx⟩
      have h2 := HS.out.ext hx
      have HX := Lib.hid h2.r.r.toExt
      generalize hbz : w.heap.size = bz at *
      have d0 := h2.r.cell (i := 0) rfl
      have d1 := h2.r.cell (i := 1) rfl
      have d2 := h2.r.cell (i := 2) rfl
      have d3 := h2.r.cell (i := 3) rfl
      have d4 := h2.r.cell (i := 4) rfl
      have y0 := h2.cell (i := 0) rfl
      have y1 := h2.cell (i := 1) rfl
      have y2 := h2.cell (i := 2) rfl
      have y3 := h2.cell (i := 3) rfl
      have y4 := h2.cell (i := 4) rfl
      have f0 := h2.free (i := 0)
      have f1 := h2.free (i := 1)
      have f2 := h2.free (i := 2)
      have f3 := h2.free (i := 3)
      have f4 := h2.free (i := 4)
      have l1 := h2.lt
      have l2 := h2.r.lt
      have H2 := Lib.hid h2
      clear hx h2 hbz
      by_cases he : er = 0
      · have HTT := Lib.hid (tidy_ok (g := ⟨a, 0, c, oo, pp⟩) HER.out he (by simp [tidG, *]))
        subst he
        have HZ := Lib.hid (((((H2.out.set (i := 0) (v := .int .i64 a)).set (i := 1) (v := .int .i64 0)).set (i := 2) (v := .int .i64 c)).set (i := 3) (v := .int .i64 0)).set (i := 4) (v := .int .i64 pp))
        go_wp2
        (try simp only [Exit.inBlock, Exit.then])
        refine bodyPost_ret (v := .tuple #[.agg #[.int .i64 a, .int .i64 0, .int .i64 c, .int .i64 0, .int .i64 pp], .int .i64 0]) ?rh rfl ⟨HTT.out, HZ.out.r.r.toExt⟩
        case rh => unfold results; go_simp
      · have HTT := Lib.hid (tidy_no (g := ⟨a, 0, c, oo, pp⟩) HER.out he (by simp [tidG, *]))
        have q1 : (er == 0) = false := by rw [beq_eq_false_iff_ne]; exact he
        have HZ := Lib.hid (((((H2.out.set (i := 0) (v := .int .i64 0)).set (i := 1) (v := .int .i64 0)).set (i := 2) (v := .int .i64 0)).set (i := 3) (v := .int .i64 0)).set (i := 4) (v := .int .i64 0))
        clear he
        go_wp2
        (try simp only [Exit.inBlock, Exit.then])
        refine bodyPost_ret (v := .tuple #[.agg #[.int .i64 0, .int .i64 0, .int .i64 0, .int .i64 0, .int .i64 0], .int .i64 20]) ?rh rfl ⟨HTT.out, HZ.out.r.r.toExt⟩
        case rh => unfold results; go_simp
  · have qb : (b == 0) = false := by rw [beq_eq_false_iff_ne]; exact hb
    by_cases hc : c = 0
    · subst hc
      have hs := ((Sat.start w).alloc (.cells #[.int .i64 a, .int .i64 b, .int .i64 0, .int .i64 oo, .int .i64 0] 57)).alloc (.cells #[.int .i64 0, .int .i64 0, .int .i64 0, .int .i64 0, .int .i64 0] 57)
      rw [show (w.alloc (.cells #[.int .i64 a, .int .i64 b, .int .i64 0, .int .i64 oo, .int .i64 0] 57)).heap.size = w.heap.size + 1 by simp] at hs
      have HS := Lib.hid hs
      obtain ⟨er, her⟩ : ∃ er, glueE ⟨a, b, 0, oo, 0⟩ = er := ⟨_, rfl⟩
      have HG := Lib.hid (glue_any ⟨a, b, 0, oo, 0⟩ ((w.alloc (.cells #[.int .i64 a, .int .i64 b, .int .i64 0, .int .i64 oo, .int .i64 0] 57)).alloc (.cells #[.int .i64 0, .int .i64 0, .int .i64 0, .int .i64 0, .int .i64 0] 57)))
      rw [her] at HG
      have HER := Lib.hid her
      clear hs her
      go_wp2_with fail
      refine Calls.mono HG.out ?_
      rintro e w1 ⟨rfl, hx⟩
      have h2 := HS.out.ext hx
      have HX := Lib.hid h2.r.r.toExt
      generalize hbz : w.heap.size = bz at *
      have d0 := h2.r.cell (i := 0) rfl
      have d1 := h2.r.cell (i := 1) rfl
      have d2 := h2.r.cell (i := 2) rfl
      have d3 := h2.r.cell (i := 3) rfl
      have d4 := h2.r.cell (i := 4) rfl
      have y0 := h2.cell (i := 0) rfl
      have y1 := h2.cell (i := 1) rfl
      have y2 := h2.cell (i := 2) rfl
      have y3 := h2.cell (i := 3) rfl
      have y4 := h2.cell (i := 4) rfl
      have f0 := h2.free (i := 0)
      have f1 := h2.free (i := 1)
      have f2 := h2.free (i := 2)
      have f3 := h2.free (i := 3)
      have f4 := h2.free (i := 4)
      have l1 := h2.lt
      have l2 := h2.r.lt
      have H2 := Lib.hid h2
      clear hx h2 hbz
      by_cases he : er = 0
      · have HTT := Lib.hid (tidy_ok (g := ⟨a, b, 0, oo, pp⟩) HER.out he (by simp [tidG, *]))
        subst he
        have HZ := Lib.hid (((((H2.out.set (i := 0) (v := .int .i64 a)).set (i := 1) (v := .int .i64 b)).set (i := 2) (v := .int .i64 0)).set (i := 3) (v := .int .i64 oo)).set (i := 4) (v := .int .i64 0))
        go_wp2
        (try simp only [Exit.inBlock, Exit.then])
        refine bodyPost_ret (v := .tuple #[.agg #[.int .i64 a, .int .i64 b, .int .i64 0, .int .i64 oo, .int .i64 0], .int .i64 0]) ?rh rfl ⟨HTT.out, HZ.out.r.r.toExt⟩
        case rh => unfold results; go_simp
      · have HTT := Lib.hid (tidy_no (g := ⟨a, b, 0, oo, pp⟩) HER.out he (by simp [tidG, *]))
        have q1 : (er == 0) = false := by rw [beq_eq_false_iff_ne]; exact he
        have HZ := Lib.hid (((((H2.out.set (i := 0) (v := .int .i64 0)).set (i := 1) (v := .int .i64 0)).set (i := 2) (v := .int .i64 0)).set (i := 3) (v := .int .i64 0)).set (i := 4) (v := .int .i64 0))
        clear he
        go_wp2
        (try simp only [Exit.inBlock, Exit.then])
        refine bodyPost_ret (v := .tuple #[.agg #[.int .i64 0, .int .i64 0, .int .i64 0, .int .i64 0, .int .i64 0], .int .i64 20]) ?rh rfl ⟨HTT.out, HZ.out.r.r.toExt⟩
        case rh => unfold results; go_simp
    · have qc : (c == 0) = false := by rw [beq_eq_false_iff_ne]; exact hc
      have hs := ((Sat.start w).alloc (.cells #[.int .i64 a, .int .i64 b, .int .i64 c, .int .i64 oo, .int .i64 pp] 57)).alloc (.cells #[.int .i64 0, .int .i64 0, .int .i64 0, .int .i64 0, .int .i64 0] 57)
      rw [show (w.alloc (.cells #[.int .i64 a, .int .i64 b, .int .i64 c, .int .i64 oo, .int .i64 pp] 57)).heap.size = w.heap.size + 1 by simp] at hs
      have HS := Lib.hid hs
      obtain ⟨er, her⟩ : ∃ er, glueE ⟨a, b, c, oo, pp⟩ = er := ⟨_, rfl⟩
      have HG := Lib.hid (glue_any ⟨a, b, c, oo, pp⟩ ((w.alloc (.cells #[.int .i64 a, .int .i64 b, .int .i64 c, .int .i64 oo, .int .i64 pp] 57)).alloc (.cells #[.int .i64 0, .int .i64 0, .int .i64 0, .int .i64 0, .int .i64 0] 57)))
      rw [her] at HG
      have HER := Lib.hid her
      clear hs her
      go_wp2_with fail
      refine Calls.mono HG.out ?_
      rintro e w1 ⟨rfl, hx⟩
      have h2 := HS.out.ext hx
      have HX := Lib.hid h2.r.r.toExt
      generalize hbz : w.heap.size = bz at *
      have d0 := h2.r.cell (i := 0) rfl
      have d1 := h2.r.cell (i := 1) rfl
      have d2 := h2.r.cell (i := 2) rfl
      have d3 := h2.r.cell (i := 3) rfl
      have d4 := h2.r.cell (i := 4) rfl
      have y0 := h2.cell (i := 0) rfl
      have y1 := h2.cell (i := 1) rfl
      have y2 := h2.cell (i := 2) rfl
      have y3 := h2.cell (i := 3) rfl
      have y4 := h2.cell (i := 4) rfl
      have f0 := h2.free (i := 0)
      have f1 := h2.free (i := 1)
      have f2 := h2.free (i := 2)
      have f3 := h2.free (i := 3)
      have f4 := h2.free (i := 4)
      have l1 := h2.lt
      have l2 := h2.r.lt
      have H2 := Lib.hid h2
      clear hx h2 hbz
      by_cases he : er = 0
      · have HTT := Lib.hid (tidy_ok (g := ⟨a, b, c, oo, pp⟩) HER.out he (by simp [tidG, *]))
        subst he
        have HZ := Lib.hid (((((H2.out.set (i := 0) (v := .int .i64 a)).set (i := 1) (v := .int .i64 b)).set (i := 2) (v := .int .i64 c)).set (i := 3) (v := .int .i64 oo)).set (i := 4) (v := .int .i64 pp))
        go_wp2
        (try simp only [Exit.inBlock, Exit.then])
        refine bodyPost_ret (v := .tuple #[.agg #[.int .i64 a, .int .i64 b, .int .i64 c, .int .i64 oo, .int .i64 pp], .int .i64 0]) ?rh rfl ⟨HTT.out, HZ.out.r.r.toExt⟩
        case rh => unfold results; go_simp
      · have HTT := Lib.hid (tidy_no (g := ⟨a, b, c, oo, pp⟩) HER.out he (by simp [tidG, *]))
        have q1 : (er == 0) = false := by rw [beq_eq_false_iff_ne]; exact he
        have HZ := Lib.hid (((((H2.out.set (i := 0) (v := .int .i64 0)).set (i := 1) (v := .int .i64 0)).set (i := 2) (v := .int .i64 0)).set (i := 3) (v := .int .i64 0)).set (i := 4) (v := .int .i64 0))
        clear he
        go_wp2
        (try simp only [Exit.inBlock, Exit.then])
        refine bodyPost_ret (v := .tuple #[.agg #[.int .i64 0, .int .i64 0, .int .i64 0, .int .i64 0, .int .i64 0], .int .i64 20]) ?rh rfl ⟨HTT.out, HZ.out.r.r.toExt⟩
        case rh => unfold results; go_simp
theorem neg_no {g : Gl} (h : glueE g ≠ 0) : negG g = glz := by
  unfold glueE at h
  unfold negG
  split at h
  · exact absurd rfl h
  · rename_i hb
    rw [if_neg hb]
theorem neg_b {g : Gl} (h : glueE g = 0) : glueB g = true := by
  unfold glueE at h
  split at h
  · assumption
  · cases h
theorem neg_dims {a b c o p : Int} (h : glueE ⟨a, b, c, o, p⟩ = 0) : dimB a = true ∧ dimB b = true ∧ dimB c = true := by
  have := neg_b h
  simp only [glueB, Bool.and_eq_true] at this
  exact ⟨this.1.1.1.1, this.1.1.1.2, this.1.1.2⟩
theorem dim_neg {a : Int} (h : dimB a = true) : dimB (-a) = true := by
  simp only [dimB, decide_eq_true_eq] at h ⊢
  omega
theorem neg_yes {a b c o p : Int} (h : glueE ⟨a, b, c, o, p⟩ = 0) : tidR ⟨-a, -b, -c, o, p⟩ = .tuple #[(negG ⟨a, b, c, o, p⟩).val, .int .i64 0] := by
  have hb := neg_b h
  have h2 := hb
  simp only [glueB, Bool.and_eq_true] at h2
  obtain ⟨⟨⟨⟨d1, d2⟩, d3⟩, d4⟩, d5⟩ := h2
  have e : tidG ⟨-a, -b, -c, o, p⟩ = ⟨-a, -b, -c, if b = 0 then 0 else o, if c = 0 then 0 else p⟩ := by
    simp only [tidG, Int.neg_eq_zero]
  have hz : ordB 0 = true := by decide
  have hg : glueB (tidG ⟨-a, -b, -c, o, p⟩) = true := by
    rw [e]
    simp only [glueB, Bool.and_eq_true]
    refine ⟨⟨⟨⟨dim_neg d1, dim_neg d2⟩, dim_neg d3⟩, ?_⟩, ?_⟩
    · split
      · exact hz
      · exact d4
    · split
      · exact hz
      · exact d5
  rw [tidR, if_pos hg, e, negG, if_pos hb]
theorem timesN1 (a : Int) (hd : dimB a = true) (w : World) : Calls Try.prog 83 #[.int .i64 a, .int .i64 (-1)] w fun e w' => e = .returned (.tuple #[.int .i64 (-a), .bool true]) ∧ w = w' := by
  have hm : wrap64 (-a) = -a := by
    simp only [dimB, decide_eq_true_eq] at hd
    exact wrap64_id _ (by omega) (by omega)
  clear hd
  by_cases h1 : a = 0
  · subst h1
    go_enter Try.func83, Try.ntmps83
    go_wp2
    (try simp only [Exit.inBlock, Exit.then])
    refine bodyPost_ret (v := .tuple #[.int .i64 0, .bool true]) ?rh rfl ⟨rfl, rfl⟩
    case rh => unfold results; go_simp
  · have q1 : (a == 0) = false := by rw [beq_eq_false_iff_ne]; exact h1
    go_enter Try.func83, Try.ntmps83
    go_wp2
    (try simp only [Exit.inBlock, Exit.then])
    refine bodyPost_ret (v := .tuple #[.int .i64 (-a), .bool true]) ?rh rfl ⟨rfl, rfl⟩
    case rh => unfold results; go_simp
set_option maxRecDepth 100000 in
set_option maxHeartbeats 4000000 in
theorem timesN_any (a : Gl) (w : World) : Calls Try.prog 60 #[a.val, .int .i64 (-1)] w fun e w' => (∃ er : Int, e = .returned (.tuple #[(negG a).val, .int .i64 er])) ∧ Ext w w' := by
  obtain ⟨a1, a2, a3, a4, a5⟩ := a
  have hs := ((Sat.start w).alloc (glO a1 a2 a3 a4 a5)).alloc (glO 0 0 0 0 0)
  rw [show (w.alloc (glO a1 a2 a3 a4 a5)).heap.size = w.heap.size + 1 by simp] at hs
  obtain ⟨bz, hbz⟩ : ∃ bz, w.heap.size = bz := ⟨_, rfl⟩
  rw [hbz] at hs
  have HS := Lib.hid hs
  have HA := Lib.hid (fun w => glue_any ⟨a1, a2, a3, a4, a5⟩ w)
  clear hs
  have HNB := Lib.hid (show glueE ⟨a1, a2, a3, a4, a5⟩ ≠ 0 → negG ⟨a1, a2, a3, a4, a5⟩ = glz from neg_no)
  have HNG := Lib.hid (show glueE ⟨a1, a2, a3, a4, a5⟩ = 0 → tidR ⟨-a1, -a2, -a3, a4, a5⟩ = .tuple #[(negG ⟨a1, a2, a3, a4, a5⟩).val, .int .i64 0] from neg_yes)
  have HND := Lib.hid (show glueE ⟨a1, a2, a3, a4, a5⟩ = 0 → dimB a1 = true ∧ dimB a2 = true ∧ dimB a3 = true from neg_dims)
  generalize glueE ⟨a1, a2, a3, a4, a5⟩ = ea at *
  generalize negG ⟨a1, a2, a3, a4, a5⟩ = ng at *
  go_enter Try.func60, Try.ntmps60
  go_wp2_with fail
  refine Calls.mono (HA.out _) ?_
  rintro e w1 ⟨rfl, hx⟩
  have H1 := Lib.hid (HS.out.ext hx)
  clear hx HS hbz HA
  obtain ⟨z0, z1, z2, z3, z4, z5, z6, z7, z8, z9, zl⟩ := glAt (H1.out)
  obtain ⟨x0, x1, x2, x3, x4, x5, x6, x7, x8, x9, xl⟩ := glAt (H1.out.r)
  by_cases he : ea = 0
  · subst he
    obtain ⟨hd1, hd2, hd3⟩ := HND.out rfl
    have T1 := Lib.hid (fun w => timesN1 a1 hd1 w)
    have T2 := Lib.hid (fun w => timesN1 a2 hd2 w)
    have T3 := Lib.hid (fun w => timesN1 a3 hd3 w)
    have HTD := Lib.hid (fun w => tidyF_any ⟨-a1, -a2, -a3, a4, a5⟩ w)
    rw [HNG.out rfl] at HTD
    obtain ⟨s1, hs1⟩ : ∃ s, -a1 = s := ⟨_, rfl⟩
    obtain ⟨s2, hs2⟩ : ∃ s, -a2 = s := ⟨_, rfl⟩
    obtain ⟨s3, hs3⟩ : ∃ s, -a3 = s := ⟨_, rfl⟩
    rw [hs1, hs2, hs3] at HTD
    rw [hs1] at T1
    rw [hs2] at T2
    rw [hs3] at T3
    clear hd1 hd2 hd3 hs1 hs2 hs3 HNG HND HNB
    go_wp2_with fail
    refine Calls.mono (T1.out _) ?_
    rintro e w' ⟨rfl, rfl⟩
    have h2 := H1.out.alloc (.cells #[.bool false, .bool false, .bool false] 163)
    obtain ⟨bw, hbw⟩ : ∃ bw, w1.heap.size = bw := ⟨_, rfl⟩
    rw [hbw] at h2
    rw [hbw]
    have H2 := Lib.hid h2
    generalize w1.alloc (.cells #[.bool false, .bool false, .bool false] 163) = W2 at *
    clear H1 h2 hbw
    clear z0 z1 z2 z3 z4 z5 z6 z7 z8 z9 zl
    clear x0 x1 x2 x3 x4 x5 x6 x7 x8 x9 xl
    have k0 := H2.out.cell (i := 0) rfl
    have k1 := H2.out.cell (i := 1) rfl
    have k2 := H2.out.cell (i := 2) rfl
    have j0 := H2.out.free (i := 0)
    have j1 := H2.out.free (i := 1)
    have j2 := H2.out.free (i := 2)
    have lk := H2.out.lt
    have nk := H2.out.r.ne
    obtain ⟨z0, z1, z2, z3, z4, z5, z6, z7, z8, z9, zl⟩ := glAt (H2.out.r)
    obtain ⟨x0, x1, x2, x3, x4, x5, x6, x7, x8, x9, xl⟩ := glAt (H2.out.r.r)
    have hne1 : bw ≠ bz := (H2.out.of_eq (show _ = pts bw _ * (pts bz (glO a1 a2 a3 a4 a5) * (pts (bz + 1) (glO 0 0 0 0 0) * own w)) by ac_rfl)).ne
    have hne2 := hne1.symm
    go_wp2_with fail
    refine Calls.mono (T2.out _) ?_
    rintro e w' ⟨rfl, rfl⟩
    go_wp2_with fail
    refine Calls.mono (T3.out _) ?_
    rintro e w' ⟨rfl, rfl⟩
    have H3 := Lib.hid (((((((H2.out.of_eq (show _ = pts bz (glO a1 a2 a3 a4 a5) * (pts bw (.cells #[.bool false, .bool false, .bool false] 163) * (pts (bz + 1) (glO 0 0 0 0 0) * own w)) by ac_rfl)).set (i := 0) (v := .int .i64 s1)).rot.set (i := 0) (v := .bool true)).rot.set (i := 1) (v := .int .i64 s2)).rot.set (i := 1) (v := .bool true)).rot.set (i := 2) (v := .int .i64 s3)).rot.set (i := 2) (v := .bool true))
    have H4 := Lib.hid (show Sat w (pts bw (.cells #[.bool true, .bool true, .bool true] 163) * (pts bz (glO s1 s2 s3 a4 a5) * (pts (bz + 1) (glO 0 0 0 0 0) * own w))) _ from H3.out)
    clear H3
    go_upto_region 7 with fail
    generalize (((((W2.setCell ⟨bz, 0, none⟩ (.int .i64 s1)).setCell ⟨bw, 0, none⟩ (.bool true)).setCell ⟨bz, 1, none⟩ (.int .i64 s2)).setCell ⟨bw, 1, none⟩ (.bool true)).setCell ⟨bz, 2, none⟩ (.int .i64 s3)).setCell ⟨bw, 2, none⟩ (.bool true) = W3 at *
    clear H2 k0 k1 k2 j0 j1 j2 lk
    clear z0 z1 z2 z3 z4 z5 z6 z7 z8 z9 zl
    clear x0 x1 x2 x3 x4 x5 x6 x7 x8 x9 xl
    have k0 := H4.out.cell (i := 0) rfl
    have k1 := H4.out.cell (i := 1) rfl
    have k2 := H4.out.cell (i := 2) rfl
    have lk := H4.out.lt
    obtain ⟨x0, x1, x2, x3, x4, x5, x6, x7, x8, x9, xl⟩ := glAt (H4.out.r)
    obtain ⟨z0, z1, z2, z3, z4, z5, z6, z7, z8, z9, zl⟩ := glAt (H4.out.r.r)
    have HZ0 := Lib.hid (glSet H4.out.r.r 0 0 0 0 0)
    have hneq := fun w => run_neq3 true true true w
    clear HZ0
    obtain ⟨g1, g2, g3, g4, g5⟩ := ng
    go_wp2_with fail
    refine Calls.mono (HTD.out _) ?_
    rintro e w4 ⟨rfl, hx⟩
    have H5 := Lib.hid ((H4.out.ext hx).r.r)
    clear hx H4 k0 k1 k2 lk
    clear x0 x1 x2 x3 x4 x5 x6 x7 x8 x9 xl
    clear z0 z1 z2 z3 z4 z5 z6 z7 z8 z9 zl
    obtain ⟨z0, z1, z2, z3, z4, z5, z6, z7, z8, z9, zl⟩ := glAt (H5.out)
    have HZ := Lib.hid (glSet (H5.out) g1 g2 g3 g4 g5)
    go_wp2
    (try simp only [Exit.inBlock, Exit.then])
    refine bodyPost_ret (v := .tuple #[.agg #[.int .i64 g1, .int .i64 g2, .int .i64 g3, .int .i64 g4, .int .i64 g5], .int .i64 0]) ?rh rfl ⟨⟨_, rfl⟩, HZ.out.r.toExt⟩
    case rh => unfold results; go_simp
  · have hgz := HNB.out he
    subst hgz
    have q1 : (ea == 0) = false := by rw [beq_eq_false_iff_ne]; exact he
    have q2 : (ea != 0) = true := by rw [bne_iff_ne]; exact he
    have HZ := Lib.hid (glSet H1.out 0 0 0 0 0)
    clear he HNB HNG HND
    go_wp2
    (try simp only [Exit.inBlock, Exit.then])
    refine bodyPost_ret (v := .tuple #[.agg #[.int .i64 0, .int .i64 0, .int .i64 0, .int .i64 0, .int .i64 0], .int .i64 30]) ?rh rfl ⟨⟨_, rfl⟩, HZ.out.r.r.toExt⟩
    case rh => unfold results; go_simp
end Go.Proofs.Yticljfpippbkkaa
