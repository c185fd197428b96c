
/-
  A feed is made out of a list of bytes. Conditions: those that each theorem names.
-/
import Derived.Test.YtjeinldhbajknaaDvA
namespace Go.Proofs.Ytjeinldhbajknaa
open Go.RowKit Go.Sp Go.Conc
variable {W w w' : World} {A : HProp}

theorem mkChan (n : Nat) (hn : n ≤ 1048576) (w : World) : (Instr.makeChan 108 (.int .i64 n)).run Try.prog w = .ok (.chan (some w.heap.size)) (w.alloc (.chan n #[] false 0 0 false)) := by
  have h : (Try.prog.info? 5).map (·.bytes) = some 1 := by kernel_rfl
  obtain ⟨i, hi, hb⟩ := Option.map_eq_some_iff.1 h
  exact run_makeChan (P := Try.prog) (w := w) Try.underlying108 hi .i64 n (by omega) (by rw [hb]; omega)

def sndSeq : Code → Code | .seq _ b => b | c => c
def fstSeq : Code → Code | .seq a _ => a | c => c
def unBlock : Code → Code | .block _ c => c | c => c
def unLoop : Code → Code | .loop c => c | c => c
/-- the loop's body, and what follows the loop -/
noncomputable def feedLoop : Code := unLoop (unBlock (sndSeq (fstSeq (sndSeq (sndSeq (Try.f29.body.getD .skip))))))
noncomputable def feedAfter : Code := sndSeq (sndSeq (sndSeq (Try.f29.body.getD .skip)))
/-- what the call comes to -/
def FeedEnd (cs : List Frame) (w : World) (l : List UInt8) (g' : Goroutine) (w' : World) : Prop := ∃ e fr, g' = G fr cs ∧ (∃ b c, e = .returned (.pointer (some ⟨b, 0, none⟩)) ∧ FeedAt w (own w) b c l.length l 0 false w') ∧ fr.fn = 29 ∧ fr.leaving Try.prog w' e

set_option maxRecDepth 100000 in
theorem feed_exit {l : List UInt8} {b c k cap : Nat} {a : Option Addr} {wk : World} (hk : k = l.length) (cs : List Frame) (h : Sat w (pts b (.cells #[.chan (some c), .int .i64 0, .bool false] 110) * (pts c (chanO l.length (l.take k) false k 0) * own w)) wk) (j0 j1 j2 j4 j5 j6 j7 j8 j9 j10 j14 j15 j16 j17 j18 j19 j20 j21 j22 j23 j24 j25 j26 j27 : Value) :
    LoneTo Try.prog (FeedEnd cs w l) (G ((base 29).at ⟨#[j0, j1, j2, .pointer (some ⟨b, 0, none⟩), j4, j5, j6, j7, j8, j9, j10, .slice a l.length cap, .int .i64 l.length, .int .i64 k, j14, j15, j16, j17, j18, j19, j20, j21, j22, j23, j24, j25, j26, j27], []⟩ [.code feedLoop, .inLoop feedLoop, .inBlock 0, .code feedAfter]) cs) wk := by
  have i1 : ¬ (k : Int) < (l.length : Int) := by omega
  have c0 := h.cell (i := 0) rfl
  have hc := h.r.blk
  have h2 := (h.rot.setChan (l' := l) (cl' := true) (s' := k) (r' := 0)).rot
  generalize hW2 : wk.setChan c l.length (l.map byteV).toArray true k 0 false = W2 at *
  have hcl : ∀ ats ty, (Builtin.close_ ats ty #[.chan (some c)]).run Try.prog wk = .ok (.tuple #[]) W2 := fun ats ty => by
    have := run_close_open (P := Try.prog) (w := wk) ats ty hc
    rw [this, ← hW2, show List.take k l = l from by rw [hk, List.take_length]]
    rfl
  refine LoneTo.goes (n := 40) ?_
  simp only [feedLoop, feedAfter, Try.f29, Option.getD_some, sndSeq, fstSeq, unBlock, unLoop]
  s_c stepG_seq
  s_reg
  s_op
  s_c stepG_region_end
  s_c stepG_seq
  s_cond false
  s_exit
  s_c stepG_seq
  s_reg
  s_op
  s_op
  s_op
  s_op
  s_op
  s_c stepG_region_end
  s_c stepG_seq
  s_reg
  s_op
  s_op
  s_c stepG_region_end
  s_c stepG_ret'
  s_stop
  refine LoneTo.done ⟨.returned (.pointer (some ⟨b, 0, none⟩)), _, rfl, ⟨b, c, rfl, k, 0, h2⟩, rfl, rfl, rfl, rfl, _, Try.func29, by simp [results, Try.f29, Frame.at]⟩

set_option maxRecDepth 100000 in
theorem feed_loop {l : List UInt8} {b c cap : Nat} {a : Option Addr} (hn : l.length ≤ 1048576) (hv : Rd w (.slice a l.length cap) l.length 1 (l.map byteV)) (cs : List Frame) : ∀ (m k : Nat) (wk : World), k + m = l.length → Sat w (pts b (.cells #[.chan (some c), .int .i64 0, .bool false] 110) * (pts c (chanO l.length (l.take k) false k 0) * own w)) wk →
    ∀ (j0 j1 j2 j4 j5 j6 j7 j8 j9 j10 j14 j15 j16 j17 j18 j19 j20 j21 j22 j23 j24 j25 j26 j27 : Value), LoneTo Try.prog (FeedEnd cs w l) (G ((base 29).at ⟨#[j0, j1, j2, .pointer (some ⟨b, 0, none⟩), j4, j5, j6, j7, j8, j9, j10, .slice a l.length cap, .int .i64 l.length, .int .i64 k, j14, j15, j16, j17, j18, j19, j20, j21, j22, j23, j24, j25, j26, j27], []⟩ [.code feedLoop, .inLoop feedLoop, .inBlock 0, .code feedAfter]) cs) wk := by
  intro m
  induction m with
  | zero => intro k wk hk h j0 j1 j2 j4 j5 j6 j7 j8 j9 j10 j14 j15 j16 j17 j18 j19 j20 j21 j22 j23 j24 j25 j26 j27; exact feed_exit (by omega) cs h j0 j1 j2 j4 j5 j6 j7 j8 j9 j10 j14 j15 j16 j17 j18 j19 j20 j21 j22 j23 j24 j25 j26 j27
  | succ m ih =>
    intro k wk hk h j0 j1 j2 j4 j5 j6 j7 j8 j9 j10 j14 j15 j16 j17 j18 j19 j20 j21 j22 j23 j24 j25 j26 j27
    have hlt : k < l.length := by omega
    have i1 : (k : Int) < (l.length : Int) := by omega
    have i0 : (0 : Int) ≤ (k : Int) := by omega
    obtain ⟨_, _, a', cap', hva, hat⟩ := hv.ext h.r.r.toExt
    obtain ⟨b', off, ha, hx⟩ := hat k (byteV (l[k])) (by simp [hlt])
    simp only [Value.slice.injEq] at hva
    obtain ⟨rfl, -, rfl⟩ := hva
    subst ha
    have c0 := h.cell (i := 0) rfl
    have hc := h.r.blk
    have hw : IntKind.i64.wrap ((k : Int) + 1) = ((k + 1 : Nat) : Int) := by rw [wrap_small _ (by omega) (by omega)]; omega
    have e1 : ((l.take k).map byteV).toArray.push (byteV l[k]) = ((l.take (k + 1)).map byteV).toArray := by
      have e2 : (l.take (k + 1)).map byteV = (l.take k).map byteV ++ [byteV l[k]] := by rw [List.take_succ_eq_append_getElem hlt, List.map_append]; rfl
      rw [e2, List.push_toArray]
    have h2 := (h.rot.setChan (l' := l.take (k + 1)) (cl' := false) (s' := k + 1) (r' := 0)).rot
    refine LoneTo.goes (n := 40) ?_
    simp only [feedLoop, feedAfter, Try.f29, Option.getD_some, sndSeq, fstSeq, unBlock, unLoop]
    s_c stepG_seq
    s_reg
    s_op
    s_c stepG_region_end
    s_c stepG_seq
    s_cond true
    s_c stepG_skip
    s_c stepG_seq
    s_c stepG_block
    s_c stepG_seq
    s_reg
    s_op
    s_op
    s_op
    s_c stepG_region_end
    s_reg
    s_op
    s_op
    s_op
    s_op
    s_op
    s_stop
    refine LoneTo.step (step_lone_send_room (c := c) (cap := l.length) (buf := ((l.take k).map byteV).toArray) (s := k) (r := 0) (tm := false) (stepG_comm (cases := #[scase c (byteV l[k]) (.tuple #[])]) (blocking := true) (shape := .send) (w' := wk) rfl rfl (by decide) (by simp [execOp, scase, Act.eval])) hc (by simp; omega)) ?_
    rw [Frame.finish_at, e1]
    generalize wk.setChan c l.length ((l.take (k + 1)).map byteV).toArray false (k + 1) 0 false = W2 at *
    walk_nrm
    refine LoneTo.goes (n := 40) ?_
    s_c stepG_region_end
    s_c stepG_inBlock
    s_reg
    s_op
    s_op
    s_c stepG_region_end
    s_c stepG_inLoop
    s_stop
    exact ih (k + 1) W2 (by omega) h2 _ _ _ _ _ _ _ _ _ _ _ _ _ _ _ _ _ _ _ _ _ _ _ _

set_option maxRecDepth 100000 in
theorem newFeed_any {v : Value} {l : List UInt8} (hn : l.length ≤ 1048576) (hv : Rd w v l.length 1 (l.map byteV)) :
    Calls Try.prog 29 #[v] w fun e w' => ∃ b c, e = .returned (.pointer (some ⟨b, 0, none⟩)) ∧ FeedAt w (own w) b c l.length l 0 false w' := by
  obtain ⟨a, cap, hv0⟩ : ∃ a cap, v = .slice a l.length cap := by obtain ⟨_, _, a, cap, h, _⟩ := hv; exact ⟨a, cap, h⟩
  subst hv0
  refine calls_of_loneTo fun cs => ?_
  have e : Frame.enter Try.prog 29 #[.slice a l.length cap] .normal = (base 29).at ⟨#[.slice a l.length cap, undef, undef, undef, undef, undef, undef, undef, undef, undef, undef, undef, undef, undef, undef, undef, undef, undef, undef, undef, undef, undef, undef, undef, undef, undef, undef, undef], []⟩ [.code (Try.f29.body.getD .skip)] := by
    simp [Frame.enter, Frame.at, Try.func29, base, Try.f29]
  rw [e]
  have hmc := mkChan l.length hn
  have h0 : Sat w (pts (w.heap.size + 1) (.cells #[.chan (some w.heap.size), .int .i64 0, .bool false] 110) * (pts w.heap.size (chanO l.length (l.take 0) false 0 0) * own w)) ((w.alloc (.chan l.length #[] false 0 0 false)).alloc (.cells #[.chan (some w.heap.size), .int .i64 0, .bool false] 110)) := by
    have h1 := ((Sat.start w).alloc (.chan l.length #[] false 0 0 false)).alloc (.cells #[.chan (some w.heap.size), .int .i64 0, .bool false] 110)
    rw [show (w.alloc (.chan l.length #[] false 0 0 false)).heap.size = w.heap.size + 1 by simp] at h1
    exact h1
  have hloop := feed_loop (b := w.heap.size + 1) (c := w.heap.size) hn hv cs l.length 0 _ (by omega) h0
  refine LoneTo.goes (n := 40) ?_
  simp only [feedLoop, feedAfter, Try.f29, Option.getD_some, sndSeq, fstSeq, unBlock, unLoop] at hloop ⊢
  s_c stepG_seq
  s_reg
  s_op
  s_c stepG_region_end
  s_c stepG_seq
  s_reg
  s_op
  s_op
  s_op
  s_op
  s_op
  s_op
  s_c stepG_region_end
  s_c stepG_seq
  s_c stepG_seq
  s_reg
  s_op
  s_op
  s_op
  s_c stepG_region_end
  s_c stepG_block
  s_c stepG_loop
  s_stop
  exact hloop _ _ _ _ _ _ _ _ _ _ _ _ _ _ _ _ _ _ _ _ _ _ _ _

end Go.Proofs.Ytjeinldhbajknaa
