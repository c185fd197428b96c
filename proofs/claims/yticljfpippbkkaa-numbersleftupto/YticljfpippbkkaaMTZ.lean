import Derived.Test.YticljfpippbkkaaMLA
import Derived.StillTail
import Derived.Test.YticljfpippbkkaaMTS
/-
  A region that draws its order, walked once; behind a barrier (an operation b) it may leave the class. Conditions: those of the theorems.
-/
namespace Go.Sp
open Go
variable {P : Program} {ops : Array Oper} {md : Region.Mode} {b : Nat} {C C' : World → Prop} {Q : Exit → Act → World → Prop}

/-- Whatever order is picked from here on; each world ahead of the operation b is of the class. -/
def wpAnyB (P : Program) (md : Region.Mode) (ops : Array Oper) (b : Nat) (C : World → Prop) (Q : Exit → Act → World → Prop) : Nat → Array Bool → Act → World → Prop
  | 0, listed, a, w => (C w ∨ listed.getD b false = true) ∧ Region.ready md ops listed = [] ∧ Q .normal a w
  | fuel + 1, listed, a, w => (C w ∨ listed.getD b false = true) ∧ (Region.ready md ops listed = [] → Q .normal a w) ∧
    ∀ i ∈ Region.ready md ops listed, wpOp P ops Q i (wpAnyB P md ops b C Q fuel (listed.setIfInBounds i true)) a w

theorem wpAnyB.cls {f : Nat} {listed : Array Bool} {a : Act} {w : World} (h : wpAnyB P md ops b C Q f listed a w) : C w ∨ listed.getD b false = true := by
  cases f with
  | zero => exact h.1
  | succ f => exact h.1

theorem wpAny_of_B : ∀ (f : Nat) (listed : Array Bool) (a : Act) (w : World), wpAnyB P md ops b C Q f listed a w → wpAny P md ops Q f listed a w
  | 0, _, _, _, h => h.2
  | f + 1, _, _, _, h => ⟨h.2.1, fun i hi => wpOp_mono (fun a' w' h' => wpAny_of_B f _ a' w' h') (h.2.2 i hi)⟩

theorem wpB_first {i : Nat} {oi : Oper} {v : Value} (hi : ops[i]? = some oi) (hsel : ∀ (j : Nat) (o : Oper) cs b, ops[j]? = some o → o.op ≠ .select cs b)
    (hQ : ∀ c a w, Q (.panic c) (a.put oi.dst v) w → Q (.panic c) a w) (hib : i ≠ b)
    (I : Array Bool → Prop) (hI : ∀ (listed : Array Bool) (j : Nat) (oj : Oper), I listed → ops[j]? = some oj → (∀ e ∈ oj.after, Region.binds md e = true → e.on ≠ i) → I (listed.setIfInBounds j true))
    (key : ∀ (f : Nat) (listed : Array Bool) (a : Act) (w : World), I listed → wpAnyB P md ops b C Q f (listed.setIfInBounds i true) a w → C' w) :
    ∀ (fuel : Nat) (listed : Array Bool) (a : Act) (w : World),
      (∀ j oj, ops[j]? = some oj → j ≠ i → listed.getD j true = false → (∀ e ∈ oj.after, Region.binds md e = true → e.on ≠ i) → oi.apart ops oj = true) →
      i ∈ Region.ready md ops listed → I listed → YieldsC P ops C' oi v a →
      wpAnyB P md ops b C Q fuel (listed.setIfInBounds i true) (a.put oi.dst v) w → wpAnyB P md ops b C Q (fuel + 1) listed a w := by
  have hcl : ∀ {f : Nat} {listed : Array Bool} {a : Act} {w : World}, wpAnyB P md ops b C Q f (listed.setIfInBounds i true) a w → C w ∨ listed.getD b false = true := by
    intro f listed a w h
    rcases h.cls with h | h
    · exact .inl h
    · rw [getD_set_ne false hib] at h; exact .inr h
  intro fuel
  induction fuel with
  | zero =>
    intro listed a w _ hr hu hy H
    have hC := key _ listed _ w hu H
    refine ⟨hcl H, fun h => (by rw [h] at hr; cases hr), fun j hj => ?_⟩
    by_cases hji : j = i
    · subst hji; exact hy.wpOp hi hC H
    · have := ready_mono hj hji
      rw [H.2.1] at this
      cases this
  | succ fuel ih =>
    intro listed a w hfree hr hu hy H
    have hC := key _ listed _ w hu H
    refine ⟨hcl H, fun h => (by rw [h] at hr; cases hr), fun j hj => ?_⟩
    by_cases hji : j = i
    · subst hji; exact hy.wpOp hi hC H
    · have h1 := H.2.2 j (ready_mono hj hji)
      obtain ⟨hjun, oj, hoj, hall⟩ := mem_ready.1 hj
      have hnot : ∀ e ∈ oj.after, Region.binds md e = true → e.on ≠ i := fun e he hb heq => by
        have h1 := hall e he hb
        have h0 := (mem_ready.1 hr).1
        rw [heq] at h1
        rcases Nat.lt_or_ge i listed.size with h' | h'
        · simp [h'] at h0 h1; rw [h0] at h1; cases h1
        · simp [Array.getElem?_eq_none h'] at h1
      have h2 := wpOp_putC hoj (hfree j oj hoj hji hjun hnot) (fun cs b => hsel i oi cs b hi) (fun cs b => hsel j oj cs b hoj) hQ hy h1
      have hfree' : ∀ k ok, ops[k]? = some ok → k ≠ i → (listed.setIfInBounds j true).getD k true = false →
          (∀ e ∈ ok.after, Region.binds md e = true → e.on ≠ i) → oi.apart ops ok = true := fun k ok hk hki hun hno => by
        refine hfree k ok hk hki ?_ hno
        by_cases hjk : j = k
        · subst hjk; exact hjun
        · rw [getD_set_ne true hjk] at hun; exact hun
      refine wpOp_mono (fun a' w' h3 => ih (listed.setIfInBounds j true) a' w' hfree' (ready_mono hr (Ne.symm hji)) (hI listed j oj hu hoj hnot) h3.1 ?_) h2
      rw [Array.setIfInBounds_comm _ _ hji]
      exact h3.2


/-- An operation that only reads, and for which the barrier waits, is taken first. -/
theorem wpB_take {i : Nat} {oi : Oper} {v : Value} {fuel : Nat} {listed : Array Bool} {a : Act} {w : World} (hi : ops[i]? = some oi)
    (hs : Region.noSelect ops = true) (hf : Region.free md ops listed i = true) (hr : (Region.ready md ops listed).contains i = true) (hq : Region.waitsFor md ops b i = true) (hib : i ≠ b) (hu : listed.getD b false = false)
    (hQ : ∀ c a w, Q (.panic c) (a.put oi.dst v) w → Q (.panic c) a w) (hg : Region.wanted oi (yielded ops a.tmps) = true) (hy : ∀ w, C w → (execOp a.eval oi).run P w = .ok (.value v) w)
    (h : wpAnyB P md ops b C Q fuel (listed.setIfInBounds i true) (a.put oi.dst v) w) : wpAnyB P md ops b C Q (fuel + 1) listed a w := by
  obtain ⟨oq, hoq, e0, he0, hb0, hon0⟩ := Region.waitsFor_spec hq
  refine wpB_first (C' := C) hi (Region.noSelect_spec hs) hQ hib (fun l => l.getD b false = false) (fun l j oj hl hoj hnot => ?_) (fun f l a w hl H => ?_) fuel listed a w (Region.free_spec hi hf) (by simpa using hr) hu (.inl ⟨hg, hy⟩) h
  · have hjb : j ≠ b := by
      rintro rfl
      have : oj = oq := Option.some.inj (hoj.symm.trans hoq)
      subst this
      exact hnot e0 he0 hb0 hon0
    rw [getD_set_ne false hjb]; exact hl
  · rcases H.cls with h | h
    · exact h
    · rw [getD_set_ne false hib, hl] at h; cases h

/-- An operation that looks at no world is taken first. -/
theorem wpB_pure {i : Nat} {oi : Oper} {v : Value} {fuel : Nat} {listed : Array Bool} {a : Act} {w : World} (hi : ops[i]? = some oi)
    (hs : Region.noSelect ops = true) (hf : Region.free md ops listed i = true) (hr : (Region.ready md ops listed).contains i = true) (hib : i ≠ b)
    (hQ : ∀ c a w, Q (.panic c) (a.put oi.dst v) w → Q (.panic c) a w) (hg : Region.wanted oi (yielded ops a.tmps) = true) (hy : ∀ w, (execOp a.eval oi).run P w = .ok (.value v) w)
    (h : wpAnyB P md ops b C Q fuel (listed.setIfInBounds i true) (a.put oi.dst v) w) : wpAnyB P md ops b C Q (fuel + 1) listed a w :=
  wpB_first (C' := fun _ => True) hi (Region.noSelect_spec hs) hQ hib (fun _ => True) (fun _ _ _ _ _ _ => trivial) (fun _ _ _ _ _ _ => trivial) fuel listed a w (Region.free_spec hi hf) (by simpa using hr) trivial (.inl ⟨hg, fun w _ => hy w⟩) h

/-- The one operation that can come next. -/
theorem wpB_one {i : Nat} {o : Oper} {fuel : Nat} {listed : Array Bool} {a : Act} {w : World} (hi : ops[i]? = some o) (hr : Region.ready md ops listed = [i]) (hC : C w ∨ listed.getD b false = true)
    (h : ∀ K : Act → World → Prop, (∀ a w, wpAnyB P md ops b C Q fuel (listed.setIfInBounds i true) a w → K a w) → if Region.wanted o (yielded ops a.tmps) = true then Oper.wp P o a w K Q else K (a.put o.dst undef) w) :
    wpAnyB P md ops b C Q (fuel + 1) listed a w := by
  refine ⟨hC, fun h0 => (by rw [hr] at h0; cases h0), fun j hj => ?_⟩
  rw [hr] at hj
  obtain rfl : j = i := by simpa using hj
  exact wpOp_step hi h
theorem wpB_done {fuel : Nat} {listed : Array Bool} {a : Act} {w : World} (hr : Region.ready md ops listed = []) (hl : listed.getD b false = true) (h : Q .normal a w) : wpAnyB P md ops b C Q fuel listed a w := by
  cases fuel with
  | zero => exact ⟨.inr hl, hr, h⟩
  | succ f => exact ⟨.inr hl, fun _ => h, by rw [hr]; simp⟩
theorem wp_region_B (b : Nat) (C : World → Prop) {id : Nat} {a : Act} {w : World} (hm : P.follows .mixedOrders = true)
    (h : wpAnyB P .any ops b C Q ops.size (Array.replicate ops.size false) a w.drew) : (Code.region id ops true).wp P Q a w :=
  wp_region_any hm (wpAny_of_B _ _ _ _ h)
end Go.Sp

/-
  Sums, products and quotients of glue, whole: some glue, some error. Conditions: those that each theorem names.
-/
namespace Go.Proofs.Yticljfpippbkkaa
open Go.RowKit Go.Sp
variable {W w w' : World} {F A : HProp}


/-- facts of a block of glue -/
structure GlAt (w : World) (b : Nat) (c0 c1 c2 c3 c4 : Int) : Prop where
  a0 : w.cell? ⟨b, 0, none⟩ = some (.int .i64 c0)
  a1 : w.cell? ⟨b, 1, none⟩ = some (.int .i64 c1)
  a2 : w.cell? ⟨b, 2, none⟩ = some (.int .i64 c2)
  a3 : w.cell? ⟨b, 3, none⟩ = some (.int .i64 c3)
  a4 : w.cell? ⟨b, 4, none⟩ = some (.int .i64 c4)
  f0 : w.frozen? ⟨b, 0, none⟩ = false
  f1 : w.frozen? ⟨b, 1, none⟩ = false
  f2 : w.frozen? ⟨b, 2, none⟩ = false
  f3 : w.frozen? ⟨b, 3, none⟩ = false
  f4 : w.frozen? ⟨b, 4, none⟩ = false
  lt : b < w.heap.size
abbrev glO (c0 c1 c2 c3 c4 : Int) : Obj := .cells #[.int .i64 c0, .int .i64 c1, .int .i64 c2, .int .i64 c3, .int .i64 c4] 57
theorem glAt {b : Nat} {c0 c1 c2 c3 c4 : Int} (h : Sat W (pts b (glO c0 c1 c2 c3 c4) * A) w) : GlAt w b c0 c1 c2 c3 c4 :=
  ⟨h.cell rfl, h.cell rfl, h.cell rfl, h.cell rfl, h.cell rfl, h.free, h.free, h.free, h.free, h.free, h.lt⟩
theorem glSet {b : Nat} {c0 c1 c2 c3 c4 : Int} (h : Sat W (pts b (glO c0 c1 c2 c3 c4) * A) w) (d0 d1 d2 d3 d4 : Int) :
    Sat W (pts b (glO d0 d1 d2 d3 d4) * A) (((((w.setCell ⟨b, 0, none⟩ (.int .i64 d0)).setCell ⟨b, 1, none⟩ (.int .i64 d1)).setCell ⟨b, 2, none⟩ (.int .i64 d2)).setCell ⟨b, 3, none⟩ (.int .i64 d3)).setCell ⟨b, 4, none⟩ (.int .i64 d4)) :=
  ((((h.set (i := 0) (v := .int .i64 d0)).set (i := 1) (v := .int .i64 d1)).set (i := 2) (v := .int .i64 d2)).set (i := 3) (v := .int .i64 d3)).set (i := 4) (v := .int .i64 d4)


set_option maxRecDepth 100000 in
theorem run_neq3 (a b c : Bool) (w : World) : (binOp .neq 163 (.agg #[.bool a, .bool b, .bool c]) (.agg #[.bool true, .bool true, .bool true])).run Try.prog w = .ok (.bool (!(a && (b && c)))) w := by
  cases a <;> cases b <;> cases c <;> kernel_rfl

set_option maxRecDepth 100000 in
set_option maxHeartbeats 4000000 in
theorem timesG_any (a : Gl) (n : Int) (w : World) : Calls Try.prog 60 #[a.val, .int .i64 n] w fun e w' => GlueR e ∧ Ext w w' := by
  obtain ⟨a1, a2, a3, a4, a5⟩ := a
  have hs := ((Sat.start w).alloc (glO a1 a2 a3 a4 a5)).alloc (glO 0 0 0 0 0)
  rw [show (w.alloc (glO a1 a2 a3 a4 a5)).heap.size = w.heap.size + 1 by simp] at hs
  obtain ⟨bz, hbz⟩ : ∃ bz, w.heap.size = bz := ⟨_, rfl⟩
  rw [hbz] at hs
  have HS := Lib.hid hs
  have HA := Lib.hid (fun w => glue_any ⟨a1, a2, a3, a4, a5⟩ w)
  clear hs
  generalize glueE ⟨a1, a2, a3, a4, a5⟩ = ea at *
  go_enter Try.func60, Try.ntmps60
  go_wp2_with fail
  refine Calls.mono (HA.out _) ?_
  rintro e w1 ⟨rfl, hx⟩
  have H1 := Lib.hid (HS.out.ext hx)
  clear hx HS hbz HA
  obtain ⟨z0, z1, z2, z3, z4, z5, z6, z7, z8, z9, zl⟩ := glAt (H1.out)
  obtain ⟨x0, x1, x2, x3, x4, x5, x6, x7, x8, x9, xl⟩ := glAt (H1.out.r)
  by_cases he : ea = 0
  · subst he
    go_wp2_with fail
    refine Calls.mono (times_any _ _ _) ?_
    rintro e w' ⟨⟨s1, o1, rfl⟩, rfl⟩
    have h2 := H1.out.alloc (.cells #[.bool false, .bool false, .bool false] 163)
    obtain ⟨bw, hbw⟩ : ∃ bw, w1.heap.size = bw := ⟨_, rfl⟩
    rw [hbw] at h2
    rw [hbw]
    have H2 := Lib.hid h2
    generalize w1.alloc (.cells #[.bool false, .bool false, .bool false] 163) = W2 at *
    clear H1 h2 hbw
    clear z0 z1 z2 z3 z4 z5 z6 z7 z8 z9 zl
    clear x0 x1 x2 x3 x4 x5 x6 x7 x8 x9 xl
    have k0 := H2.out.cell (i := 0) rfl
    have k1 := H2.out.cell (i := 1) rfl
    have k2 := H2.out.cell (i := 2) rfl
    have j0 := H2.out.free (i := 0)
    have j1 := H2.out.free (i := 1)
    have j2 := H2.out.free (i := 2)
    have lk := H2.out.lt
    have nk := H2.out.r.ne
    obtain ⟨z0, z1, z2, z3, z4, z5, z6, z7, z8, z9, zl⟩ := glAt (H2.out.r)
    obtain ⟨x0, x1, x2, x3, x4, x5, x6, x7, x8, x9, xl⟩ := glAt (H2.out.r.r)
    have hne1 : bw ≠ bz := (H2.out.of_eq (show _ = pts bw _ * (pts bz (glO a1 a2 a3 a4 a5) * (pts (bz + 1) (glO 0 0 0 0 0) * own w)) by ac_rfl)).ne
    have hne2 := hne1.symm
    go_wp2_with fail
    refine Calls.mono (times_any _ _ _) ?_
    rintro e w' ⟨⟨s2, o2, rfl⟩, rfl⟩
    go_wp2_with fail
    refine Calls.mono (times_any _ _ _) ?_
    rintro e w' ⟨⟨s3, o3, rfl⟩, rfl⟩
    have H3 := Lib.hid (((((((H2.out.of_eq (show _ = pts bz (glO a1 a2 a3 a4 a5) * (pts bw (.cells #[.bool false, .bool false, .bool false] 163) * (pts (bz + 1) (glO 0 0 0 0 0) * own w)) by ac_rfl)).set (i := 0) (v := .int .i64 s1)).rot.set (i := 0) (v := .bool o1)).rot.set (i := 1) (v := .int .i64 s2)).rot.set (i := 1) (v := .bool o2)).rot.set (i := 2) (v := .int .i64 s3)).rot.set (i := 2) (v := .bool o3))
    have H4 := Lib.hid (show Sat w (pts bw (.cells #[.bool o1, .bool o2, .bool o3] 163) * (pts bz (glO s1 s2 s3 a4 a5) * (pts (bz + 1) (glO 0 0 0 0 0) * own w))) _ from H3.out)
    clear H3
    go_upto_region 7 with fail
    generalize (((((W2.setCell ⟨bz, 0, none⟩ (.int .i64 s1)).setCell ⟨bw, 0, none⟩ (.bool o1)).setCell ⟨bz, 1, none⟩ (.int .i64 s2)).setCell ⟨bw, 1, none⟩ (.bool o2)).setCell ⟨bz, 2, none⟩ (.int .i64 s3)).setCell ⟨bw, 2, none⟩ (.bool o3) = W3 at *
    clear H2 k0 k1 k2 j0 j1 j2 lk
    clear z0 z1 z2 z3 z4 z5 z6 z7 z8 z9 zl
    clear x0 x1 x2 x3 x4 x5 x6 x7 x8 x9 xl
    have k0 := H4.out.cell (i := 0) rfl
    have k1 := H4.out.cell (i := 1) rfl
    have k2 := H4.out.cell (i := 2) rfl
    have lk := H4.out.lt
    obtain ⟨x0, x1, x2, x3, x4, x5, x6, x7, x8, x9, xl⟩ := glAt (H4.out.r)
    obtain ⟨z0, z1, z2, z3, z4, z5, z6, z7, z8, z9, zl⟩ := glAt (H4.out.r.r)
    have HZ0 := Lib.hid (glSet H4.out.r.r 0 0 0 0 0)
    have hneq := fun w => run_neq3 o1 o2 o3 w
    rcases o1 with _ | _
    · skip
      go_wp2
      (try simp only [Exit.inBlock, Exit.then])
      refine bodyPost_ret (v := .tuple #[.agg #[.int .i64 0, .int .i64 0, .int .i64 0, .int .i64 0, .int .i64 0], .int .i64 20]) ?rh rfl ⟨GlueR.mk _ _ _ _ _ _, HZ0.out.r.toExt⟩
      case rh => unfold results; go_simp
    · rcases o2 with _ | _
      · skip
        go_wp2
        (try simp only [Exit.inBlock, Exit.then])
        refine bodyPost_ret (v := .tuple #[.agg #[.int .i64 0, .int .i64 0, .int .i64 0, .int .i64 0, .int .i64 0], .int .i64 20]) ?rh rfl ⟨GlueR.mk _ _ _ _ _ _, HZ0.out.r.toExt⟩
        case rh => unfold results; go_simp
      · rcases o3 with _ | _
        · skip
          go_wp2
          (try simp only [Exit.inBlock, Exit.then])
          refine bodyPost_ret (v := .tuple #[.agg #[.int .i64 0, .int .i64 0, .int .i64 0, .int .i64 0, .int .i64 0], .int .i64 20]) ?rh rfl ⟨GlueR.mk _ _ _ _ _ _, HZ0.out.r.toExt⟩
          case rh => unfold results; go_simp
        · clear HZ0
          go_wp2_with fail
          refine Calls.mono (tidy_any ⟨_, _, _, _, _⟩ _) ?_
          rintro e w4 ⟨⟨⟨t1, t2, t3, t4, t5⟩, er, rfl⟩, hx⟩
          have H5 := Lib.hid ((H4.out.ext hx).r.r)
          clear hx H4 k0 k1 k2 lk
          clear x0 x1 x2 x3 x4 x5 x6 x7 x8 x9 xl
          clear z0 z1 z2 z3 z4 z5 z6 z7 z8 z9 zl
          obtain ⟨z0, z1, z2, z3, z4, z5, z6, z7, z8, z9, zl⟩ := glAt (H5.out)
          have HZ := Lib.hid (glSet (H5.out) t1 t2 t3 t4 t5)
          go_wp2
          (try simp only [Exit.inBlock, Exit.then])
          refine bodyPost_ret (v := .tuple #[.agg #[.int .i64 t1, .int .i64 t2, .int .i64 t3, .int .i64 t4, .int .i64 t5], .int .i64 er]) ?rh rfl ⟨GlueR.mk _ _ _ _ _ _, HZ.out.r.toExt⟩
          case rh => unfold results; go_simp
  · have q1 : (ea == 0) = false := by rw [beq_eq_false_iff_ne]; exact he
    have q2 : (ea != 0) = true := by rw [bne_iff_ne]; exact he
    have HZ := Lib.hid (glSet H1.out 0 0 0 0 0)
    clear he
    go_wp2
    (try simp only [Exit.inBlock, Exit.then])
    refine bodyPost_ret (v := .tuple #[.agg #[.int .i64 0, .int .i64 0, .int .i64 0, .int .i64 0, .int .i64 0], .int .i64 30]) ?rh rfl ⟨GlueR.mk _ _ _ _ _ _, HZ.out.r.r.toExt⟩
    case rh => unfold results; go_simp

end Go.Proofs.Yticljfpippbkkaa

/-
  A table: Advance, Multiply, Divide. Conditions: those that each theorem names.
-/
namespace Go.Proofs.Yticljfpippbkkaa
open Go.RowKit Go.Sp
variable {W w w' : World} {F A : HProp}

/-- what a closure hands back: a value without tokens, an error; for a class other than skips the number is known -/
def CloR (c : Int) (z er0 : Int) (r : RegS) (er : Int) : Prop := r.toks = [] ∧ (c ≠ 3 → r = ⟨z, ⟨0, 0, 0, 0, 0⟩, []⟩ ∧ er = er0)

end Go.Proofs.Yticljfpippbkkaa

/-
  A table: Advance, Multiply, Divide, whole. Conditions: those that each theorem names.
-/
namespace Go.Proofs.Yticljfpippbkkaa
open Go.RowKit Go.Sp
variable {W w w' : World} {F A : HProp}

/-- the number and the error of a quotient -/
def divZ (x n : Int) : Int := if n = 0 then 0 else wrap64 (x.tdiv n)
def divEr (n : Int) : Int := if n = 0 then 20 else 0
/-- what Advance, Multiply and Divide do: an error and nothing else, or what 'sum' does -/
def ArithR (S S' : TabS) (c i : Int) (g : Bool) (E : Int) (z : Int → Int) (ok : Prop) (er0 : Int) : Prop :=
  (¬ ok ∧ E ≠ 0 ∧ S' = S) ∨ (ok ∧ ∃ c' i' : Nat, c = c' ∧ i = i' ∧ 1 ≤ c' ∧ c' ≤ 5 ∧ i' < 256 ∧ ∃ r er, CloR c (z (S.regs (c' * 256 + i')).n) er0 r er ∧ E = sumE c r er ∧ S' = sumT S c' i' r er g)

def advOK (c i : Int) (v : RegS) : Prop := wrongE c i = 0 ∧ c ≠ 4 ∧ c ≠ 5 ∧ rightM c v = true


def scaleE (c i n : Int) : Int := if wrongE c i ≠ 0 then wrongE c i else if c = 4 ∨ c = 5 then 1 else if withB n 2147483647 = true then 0 else 11

end Go.Proofs.Yticljfpippbkkaa

/-
  A table: what a name means; is it a meaning? Conditions: those that each theorem names.
-/
namespace Go.Proofs.Yticljfpippbkkaa
open Go.RowKit Go.Sp
variable {W w w' : World} {F A : HProp}

/-- what a name means, in a table's names -/
def lookN (T : ByteArray → Option Mean) (k : ByteArray) : Mean := (T k).getD mean0
theorem lookN_val (T : ByteArray → Option Mean) (k : ByteArray) : ((T k).map Mean.val).getD mean0.val = (lookN T k).val := by
  unfold lookN
  cases T k <;> rfl

theorem zero_mean (w : World) : (zeroValue 103).run Try.prog w = .ok mean0.val w := by
  simp only [Mean.val, mean0]
  go_simp

set_option maxRecDepth 100000 in
set_option maxHeartbeats 4000000 in
theorem look_any {b N : Nat} {S : TabS} (k : ByteArray) (h : TabAt W F b N S w) :
    Calls Try.prog 81 #[.pointer (some ⟨b, 0, none⟩), .string k] w fun e w' => e = .returned (lookN S.names k).val ∧ TabAt W F b N S w' := by
  have hK : KeyT Try.prog 9 Value.string := keyT_string Try.underlying9
  have hb := h.allocX (.cells #[.int .i64 0, .int .i64 0, .int .i64 0, .int .i64 0, .string ⟨#[]⟩] 103)
  obtain ⟨bz, hbz⟩ : ∃ bz, w.heap.size = bz := ⟨_, rfl⟩
  rw [hbz] at hb
  have HG := Lib.hid (good_any hb)
  obtain ⟨Y, hs0, back⟩ := hb.focus
  have BACK := Lib.hid back
  obtain ⟨m, nm, gs, lt, R, V, hT, hs⟩ := hb
  have hl := Sat.map_look hK Try.underlying55 zero_mean (hs.of_eq (show _ = mapH Value.string Mean.val nm N S.names * (pts b (.cells (tabCells nm R gs lt) 64) * (roH m * (row gs V.length 143 4 (flatG V) * (grpsH m V S.groups * (pts bz (.cells #[.int .i64 0, .int .i64 0, .int .i64 0, .int .i64 0, .string ⟨#[]⟩] 103) * F))))) by ac_rfl)) k false
  simp only [Bool.false_eq_true, if_false, lookN_val] at hl
  have c0 := hs.cell (i := 0) (tab_names nm R gs lt)
  have lb := hs.lt
  have hs1 := hs0.asc
  have x0 := hs1.cell (i := 0) rfl
  have x1 := hs1.cell (i := 1) rfl
  have x2 := hs1.cell (i := 2) rfl
  have x3 := hs1.cell (i := 3) rfl
  have x4 := hs1.cell (i := 4) rfl
  have f0 := hs1.free (i := 0)
  have f1 := hs1.free (i := 1)
  have f2 := hs1.free (i := 2)
  have f3 := hs1.free (i := 3)
  have f4 := hs1.free (i := 4)
  have lz := hs1.lt
  generalize lookN S.names k = lk at *
  obtain ⟨l1, l2, l3, l4, l5⟩ := lk
  simp only [Mean.val] at hl
  have hs2 := ((((hs1.set (i := 0) (v := .int .i64 l1)).set (i := 1) (v := .int .i64 l2)).set (i := 2) (v := .int .i64 l3)).set (i := 3) (v := .int .i64 l4)).set (i := 4) (v := .string l5)
  have HS2 := Lib.hid (show Sat W (pts bz (.cells #[.int .i64 l1, .int .i64 l2, .int .i64 l3, .int .i64 l4, .string l5] 103) * (F * Y)) _ from hs2)
  clear hs hs0 hs1 hs2 back h hT
  go_enter Try.func81, Try.ntmps81
  go_wp2_with fail
  refine Calls.mono HG.out ?_
  rintro e w' ⟨rfl, rfl⟩
  generalize w.alloc (.cells #[.int .i64 0, .int .i64 0, .int .i64 0, .int .i64 0, .string ⟨#[]⟩] 103) = W1 at *
  go_wp2
  (try simp only [Exit.inBlock, Exit.then])
  refine bodyPost_ret (v := .agg #[.int .i64 l1, .int .i64 l2, .int .i64 l3, .int .i64 l4, .string l5]) (by unfold results; go_simp) rfl ?_
  exact ⟨rfl, (BACK.out _ _ HS2.out.asc').less⟩

def BoolR (e : Ending) : Prop := ∃ r : Bool, e = .returned (.bool r)
theorem BoolR.mk (r : Bool) : BoolR (.returned (.bool r)) := ⟨r, rfl⟩

set_option maxRecDepth 100000 in
set_option maxHeartbeats 8000000 in
theorem mright_any (m : Mean) (w : World) : Calls Try.prog 69 #[m.val] w fun e w' => BoolR e ∧ Ext w w' := by
  obtain ⟨m1, m2, m3, m4, m5⟩ := m
  by_cases h0 : m1 = 0
  · subst h0
    have q1 := fun w => run_eql_mean w ⟨0, m2, m3, m4, m5⟩ ⟨0, 0, 0, 0, ⟨#[]⟩⟩
    simp only [Mean.val] at q1
    generalize meanB ⟨0, m2, m3, m4, m5⟩ ⟨0, 0, 0, 0, ⟨#[]⟩⟩ = rq at q1
    go_enter Try.func69, Try.ntmps69
    go_wp2
    go_ret
    exact ⟨BoolR.mk _, (Ext.refl w).alloc.alloc⟩
  · have k0 : (m1 == 0) = false := by rw [beq_eq_false_iff_ne]; exact h0
    by_cases h1 : m1 = 1
    · subst h1
      have q1 := fun w => run_eql_mean w ⟨1, m2, m3, m4, m5⟩ ⟨1, 0, 0, 0, m5⟩
      simp only [Mean.val] at q1
      generalize meanB ⟨1, m2, m3, m4, m5⟩ ⟨1, 0, 0, 0, m5⟩ = rq at q1
      clear h0 k0
      go_enter Try.func69, Try.ntmps69
      rcases rq with _ | _
      · go_wp2
        go_ret
        exact ⟨BoolR.mk _, (Ext.refl w).alloc.alloc⟩
      · go_wp2
        go_ret
        exact ⟨BoolR.mk _, (Ext.refl w).alloc.alloc⟩
    · have k1 : (m1 == 1) = false := by rw [beq_eq_false_iff_ne]; exact h1
      by_cases h2 : m1 = 2
      · subst h2
        have q1 := fun w => run_eql_mean w ⟨2, m2, m3, m4, m5⟩ ⟨2, 0, m3, 0, ⟨#[]⟩⟩
        simp only [Mean.val] at q1
        generalize meanB ⟨2, m2, m3, m4, m5⟩ ⟨2, 0, m3, 0, ⟨#[]⟩⟩ = rq at q1
        clear h0 k0 h1 k1
        go_enter Try.func69, Try.ntmps69
        rcases rq with _ | _
        · go_wp2
          go_ret
          exact ⟨BoolR.mk _, (Ext.refl w).alloc.alloc⟩
        · go_wp2
          go_ret
          exact ⟨BoolR.mk _, (Ext.refl w).alloc.alloc⟩
      · have k2 : (m1 == 2) = false := by rw [beq_eq_false_iff_ne]; exact h2
        by_cases h3 : m1 = 3
        · subst h3
          clear h0 k0 h1 k1 h2 k2
          have q1 := fun w => run_eql_mean w ⟨3, m2, m3, m4, m5⟩ ⟨3, 0, m3, m4, ⟨#[]⟩⟩
          simp only [Mean.val] at q1
          generalize meanB ⟨3, m2, m3, m4, m5⟩ ⟨3, 0, m3, m4, ⟨#[]⟩⟩ = rq at q1
          have hs := ((Sat.start w).alloc (.cells #[.int .i64 3, .int .i64 m2, .int .i64 m3, .int .i64 m4, .string m5] 103)).alloc (.cells #[.int .i64 3, .int .i64 0, .int .i64 0, .int .i64 0, .string ⟨#[]⟩] 103)
          rw [show (w.alloc (.cells #[.int .i64 3, .int .i64 m2, .int .i64 m3, .int .i64 m4, .string m5] 103)).heap.size = w.heap.size + 1 by simp] at hs
          obtain ⟨bz, hbz⟩ : ∃ bz, w.heap.size = bz := ⟨_, rfl⟩
          rw [hbz] at hs
          have HS := Lib.hid hs.drew
          clear hs
          go_enter Try.func69, Try.ntmps69
          go_upto_region 12 with fail
          refine wp_region_E (fun w' => ∃ X, Sat w (X * (pts bz (.cells #[.int .i64 3, .int .i64 m2, .int .i64 m3, .int .i64 m4, .string m5] 103) * own w)) w') (by kernel_rfl) ?_
          generalize ((w.alloc (.cells #[.int .i64 3, .int .i64 m2, .int .i64 m3, .int .i64 m4, .string m5] 103)).alloc (.cells #[.int .i64 3, .int .i64 0, .int .i64 0, .int .i64 0, .string ⟨#[]⟩] 103)).drew = W2 at *
          clear hbz
          refine wpE_take (i := 0) (q := 7) (v := ?_) rfl (by kernel_rfl) (by kernel_rfl) (by kernel_rfl) (by kernel_rfl) (by kernel_rfl) (fun _ _ _ h => h) (by rfl) ?_ ?_
          rotate_left 1
          · intro w hw; go_simp; try with_reducible rfl
          refine wpE_take (i := 1) (q := 7) (v := ?_) rfl (by kernel_rfl) (by kernel_rfl) (by kernel_rfl) (by kernel_rfl) (by kernel_rfl) (fun _ _ _ h => h) (by rfl) ?_ ?_
          rotate_left 1
          · intro w hw; (obtain ⟨X, hw⟩ := hw; have x1 := hw.r.cell (i := 1) rfl; have x2 := hw.r.cell (i := 2) rfl; have x3 := hw.r.cell (i := 3) rfl; have lx := hw.r.lt; go_simp; try with_reducible rfl)
          refine wpE_take (i := 2) (q := 7) (v := ?_) rfl (by kernel_rfl) (by kernel_rfl) (by kernel_rfl) (by kernel_rfl) (by kernel_rfl) (fun _ _ _ h => h) (by rfl) ?_ ?_
          rotate_left 1
          · intro w hw; go_simp; try with_reducible rfl
          refine wpE_take (i := 3) (q := 7) (v := ?_) rfl (by kernel_rfl) (by kernel_rfl) (by kernel_rfl) (by kernel_rfl) (by kernel_rfl) (fun _ _ _ h => h) (by rfl) ?_ ?_
          rotate_left 1
          · intro w hw; (obtain ⟨X, hw⟩ := hw; have x1 := hw.r.cell (i := 1) rfl; have x2 := hw.r.cell (i := 2) rfl; have x3 := hw.r.cell (i := 3) rfl; have lx := hw.r.lt; go_simp; try with_reducible rfl)
          refine wpE_take (i := 4) (q := 7) (v := ?_) rfl (by kernel_rfl) (by kernel_rfl) (by kernel_rfl) (by kernel_rfl) (by kernel_rfl) (fun _ _ _ h => h) (by rfl) ?_ ?_
          rotate_left 1
          · intro w hw; go_simp; try with_reducible rfl
          have y2 := HS.out.cell (i := 2) rfl
          have y3 := HS.out.cell (i := 3) rfl
          have f2 := HS.out.free (i := 2)
          have f3 := HS.out.free (i := 3)
          have ly := HS.out.lt
          refine wpE_one (i := 5) rfl (by kernel_rfl) (⟨_, HS.out⟩) (fun K hK => ?_)
          go_simp
          refine hK _ _ ?_
          clear hK K
          refine wpE_take (i := 6) (q := 7) (v := ?_) rfl (by kernel_rfl) (by kernel_rfl) (by kernel_rfl) (by kernel_rfl) (by kernel_rfl) (fun _ _ _ h => h) (by rfl) ?_ ?_
          rotate_left 1
          · intro w hw; go_simp; try with_reducible rfl
          refine wpE_one (i := 7) rfl (by kernel_rfl) (⟨_, HS.out.set (i := 2) (v := .int .i64 m3)⟩) (fun K hK => ?_)
          go_simp
          refine hK _ _ ?_
          clear hK K
          refine wpE_done (by kernel_rfl) (by kernel_rfl) ?_
          have h2 := (HS.out.set (i := 2) (v := .int .i64 m3)).set (i := 3) (v := .int .i64 m4)
          generalize (W2.setCell ⟨bz + 1, 2, none⟩ (.int .i64 m3)).setCell ⟨bz + 1, 3, none⟩ (.int .i64 m4) = W3 at *
          have HX := Lib.hid h2.r.r.toExt
          clear y2 y3 f2 f3 ly HS
          have y0 := h2.cell (i := 0) rfl
          have y1 := h2.cell (i := 1) rfl
          have y2 := h2.cell (i := 2) rfl
          have y3 := h2.cell (i := 3) rfl
          have y4 := h2.cell (i := 4) rfl
          have ly := h2.lt
          have x0 := h2.r.cell (i := 0) rfl
          have x1 := h2.r.cell (i := 1) rfl
          have x2 := h2.r.cell (i := 2) rfl
          have x3 := h2.r.cell (i := 3) rfl
          have x4 := h2.r.cell (i := 4) rfl
          have lx := h2.r.lt
          clear h2
          rcases rq with _ | _
          · skip
            go_wp2
            go_ret
            exact ⟨BoolR.mk _, HX.out⟩
          · by_cases g1 : 0 ≤ m3
            · by_cases g2 : m3 ≤ 255
              · by_cases g3 : 0 ≤ m4
                · by_cases g4 : m4 ≤ 15
                  · skip
                    go_wp2
                    go_ret
                    exact ⟨BoolR.mk _, HX.out⟩
                  · skip
                    go_wp2
                    go_ret
                    exact ⟨BoolR.mk _, HX.out⟩
                · skip
                  go_wp2
                  go_ret
                  exact ⟨BoolR.mk _, HX.out⟩
              · skip
                go_wp2
                go_ret
                exact ⟨BoolR.mk _, HX.out⟩
            · skip
              go_wp2
              go_ret
              exact ⟨BoolR.mk _, HX.out⟩
        · have k3 : (m1 == 3) = false := by rw [beq_eq_false_iff_ne]; exact h3
          by_cases h4 : m1 = 4
          · subst h4
            clear h0 k0 h1 k1 h2 k2 h3 k3
            have q1 := fun w => run_eql_mean w ⟨4, m2, m3, m4, m5⟩ ⟨4, m2, m3, 0, ⟨#[]⟩⟩
            simp only [Mean.val] at q1
            generalize meanB ⟨4, m2, m3, m4, m5⟩ ⟨4, m2, m3, 0, ⟨#[]⟩⟩ = rq at q1
            have hs := ((Sat.start w).alloc (.cells #[.int .i64 4, .int .i64 m2, .int .i64 m3, .int .i64 m4, .string m5] 103)).alloc (.cells #[.int .i64 4, .int .i64 0, .int .i64 0, .int .i64 0, .string ⟨#[]⟩] 103)
            rw [show (w.alloc (.cells #[.int .i64 4, .int .i64 m2, .int .i64 m3, .int .i64 m4, .string m5] 103)).heap.size = w.heap.size + 1 by simp] at hs
            obtain ⟨bz, hbz⟩ : ∃ bz, w.heap.size = bz := ⟨_, rfl⟩
            rw [hbz] at hs
            have HS := Lib.hid hs.drew
            clear hs
            go_enter Try.func69, Try.ntmps69
            go_upto_region 15 with fail
            refine wp_region_E (fun w' => ∃ X, Sat w (X * (pts bz (.cells #[.int .i64 4, .int .i64 m2, .int .i64 m3, .int .i64 m4, .string m5] 103) * own w)) w') (by kernel_rfl) ?_
            generalize ((w.alloc (.cells #[.int .i64 4, .int .i64 m2, .int .i64 m3, .int .i64 m4, .string m5] 103)).alloc (.cells #[.int .i64 4, .int .i64 0, .int .i64 0, .int .i64 0, .string ⟨#[]⟩] 103)).drew = W2 at *
            clear hbz
            refine wpE_take (i := 0) (q := 7) (v := ?_) rfl (by kernel_rfl) (by kernel_rfl) (by kernel_rfl) (by kernel_rfl) (by kernel_rfl) (fun _ _ _ h => h) (by rfl) ?_ ?_
            rotate_left 1
            · intro w hw; go_simp; try with_reducible rfl
            refine wpE_take (i := 1) (q := 7) (v := ?_) rfl (by kernel_rfl) (by kernel_rfl) (by kernel_rfl) (by kernel_rfl) (by kernel_rfl) (fun _ _ _ h => h) (by rfl) ?_ ?_
            rotate_left 1
            · intro w hw; (obtain ⟨X, hw⟩ := hw; have x1 := hw.r.cell (i := 1) rfl; have x2 := hw.r.cell (i := 2) rfl; have x3 := hw.r.cell (i := 3) rfl; have lx := hw.r.lt; go_simp; try with_reducible rfl)
            refine wpE_take (i := 2) (q := 7) (v := ?_) rfl (by kernel_rfl) (by kernel_rfl) (by kernel_rfl) (by kernel_rfl) (by kernel_rfl) (fun _ _ _ h => h) (by rfl) ?_ ?_
            rotate_left 1
            · intro w hw; go_simp; try with_reducible rfl
            refine wpE_take (i := 3) (q := 7) (v := ?_) rfl (by kernel_rfl) (by kernel_rfl) (by kernel_rfl) (by kernel_rfl) (by kernel_rfl) (fun _ _ _ h => h) (by rfl) ?_ ?_
            rotate_left 1
            · intro w hw; (obtain ⟨X, hw⟩ := hw; have x1 := hw.r.cell (i := 1) rfl; have x2 := hw.r.cell (i := 2) rfl; have x3 := hw.r.cell (i := 3) rfl; have lx := hw.r.lt; go_simp; try with_reducible rfl)
            refine wpE_take (i := 4) (q := 7) (v := ?_) rfl (by kernel_rfl) (by kernel_rfl) (by kernel_rfl) (by kernel_rfl) (by kernel_rfl) (fun _ _ _ h => h) (by rfl) ?_ ?_
            rotate_left 1
            · intro w hw; go_simp; try with_reducible rfl
            have y1 := HS.out.cell (i := 1) rfl
            have y2 := HS.out.cell (i := 2) rfl
            have f1 := HS.out.free (i := 1)
            have f2 := HS.out.free (i := 2)
            have ly := HS.out.lt
            refine wpE_one (i := 5) rfl (by kernel_rfl) (⟨_, HS.out⟩) (fun K hK => ?_)
            go_simp
            refine hK _ _ ?_
            clear hK K
            refine wpE_take (i := 6) (q := 7) (v := ?_) rfl (by kernel_rfl) (by kernel_rfl) (by kernel_rfl) (by kernel_rfl) (by kernel_rfl) (fun _ _ _ h => h) (by rfl) ?_ ?_
            rotate_left 1
            · intro w hw; go_simp; try with_reducible rfl
            refine wpE_one (i := 7) rfl (by kernel_rfl) (⟨_, HS.out.set (i := 1) (v := .int .i64 m2)⟩) (fun K hK => ?_)
            go_simp
            refine hK _ _ ?_
            clear hK K
            refine wpE_done (by kernel_rfl) (by kernel_rfl) ?_
            have h2 := (HS.out.set (i := 1) (v := .int .i64 m2)).set (i := 2) (v := .int .i64 m3)
            generalize (W2.setCell ⟨bz + 1, 1, none⟩ (.int .i64 m2)).setCell ⟨bz + 1, 2, none⟩ (.int .i64 m3) = W3 at *
            have HX := Lib.hid h2.r.r.toExt
            clear y1 y2 f1 f2 ly HS
            have y0 := h2.cell (i := 0) rfl
            have y1 := h2.cell (i := 1) rfl
            have y2 := h2.cell (i := 2) rfl
            have y3 := h2.cell (i := 3) rfl
            have y4 := h2.cell (i := 4) rfl
            have ly := h2.lt
            have x0 := h2.r.cell (i := 0) rfl
            have x1 := h2.r.cell (i := 1) rfl
            have x2 := h2.r.cell (i := 2) rfl
            have x3 := h2.r.cell (i := 3) rfl
            have x4 := h2.r.cell (i := 4) rfl
            have lx := h2.r.lt
            clear h2
            rcases rq with _ | _
            · skip
              go_wp2
              go_ret
              exact ⟨BoolR.mk _, HX.out⟩
            · by_cases g1 : 1 ≤ m2
              · by_cases g2 : m2 ≤ 4
                · by_cases g3 : 0 ≤ m3
                  · by_cases g4 : m3 ≤ 255
                    · skip
                      go_wp2
                      go_ret
                      exact ⟨BoolR.mk _, HX.out⟩
                    · skip
                      go_wp2
                      go_ret
                      exact ⟨BoolR.mk _, HX.out⟩
                  · skip
                    go_wp2
                    go_ret
                    exact ⟨BoolR.mk _, HX.out⟩
                · skip
                  go_wp2
                  go_ret
                  exact ⟨BoolR.mk _, HX.out⟩
              · skip
                go_wp2
                go_ret
                exact ⟨BoolR.mk _, HX.out⟩
          · have k4 : (m1 == 4) = false := by rw [beq_eq_false_iff_ne]; exact h4
            go_enter Try.func69, Try.ntmps69
            go_wp2
            go_ret
            exact ⟨BoolR.mk _, (Ext.refl w).alloc.alloc⟩

end Go.Proofs.Yticljfpippbkkaa
