import Derived.Test.YtjeinldhbajknaaRows
import Derived.Test.YtjeinldhbajknaaMLA
import Derived.Conc.LoneCalls
import Derived.Conc.LoneSelect
import Derived.Conc.LoneSelectN
import Derived.KernelRfl
import Derived.Laws.Rows
import Derived.Deep.LoopGhost
import Derived.Deep.DeepCutAuto
import Derived.Laws.MakeOwn
import Derived.Laws.OwnMore
/-
  A feed of bytes: a channel in one goroutine. Conditions: those that each theorem names.
-/
namespace Go.Proofs.Ytjeinldhbajknaa
open Go.RowKit Go.Sp Go.Conc
variable {W w w' : World} {A : HProp}

abbrev byteV (x : UInt8) : Value := .int .u8 x.toNat
abbrev chanO (cap : Nat) (l : List UInt8) (closed : Bool) (s r : Nat) : Obj := .chan cap (l.map byteV).toArray closed s r false
/-- a feed in block b, its channel in block c: 'l' is left, so many were read; was one missing? -/
def FeedAt (W : World) (A : HProp) (b c cap : Nat) (l : List UInt8) (at_ : Nat) (lost : Bool) (w : World) : Prop :=
  ∃ s r, Sat W (pts b (.cells #[.chan (some c), .int .i64 at_, .bool lost] 110) * (pts c (chanO cap l true s r) * A)) w

theorem setChan_other (w : World) (c cap : Nat) (buf : Array Value) (cl : Bool) (s r : Nat) (tm : Bool) (k : Nat) (hk : k ≠ c) : (w.setChan c cap buf cl s r tm).heap[k]? = w.heap[k]? := by
  simp only [World.setChan]
  exact Array.getElem?_setIfInBounds_ne (Ne.symm hk)
theorem _root_.Go.Sp.Sat.setChan {c cap s r s' r' : Nat} {l l' : List UInt8} {cl cl' : Bool} (h : Sat W (pts c (chanO cap l cl s r) * A) w) : Sat W (pts c (chanO cap l' cl' s' r') * A) (w.setChan c cap (l'.map byteV).toArray cl' s' r' false) :=
  h.upd ⟨rfl, rfl, rfl⟩ (heap_setChan w c cap _ cl' s' r' false h.lt) fun k _ hk hx => by rw [setChan_other w c cap _ cl' s' r' false k hk]; exact hx

theorem buf_tail (x : UInt8) (l : List UInt8) : ((x :: l).map byteV).toArray.extract 1 ((x :: l).map byteV).toArray.size = (l.map byteV).toArray := by
  simp [List.take_of_length_le]

set_option maxRecDepth 100000 in
theorem next_some {b c cap : Nat} {x : UInt8} {l : List UInt8} {n : Nat} {lost : Bool} (hn : n < 4000000000) (h : FeedAt W A b c cap (x :: l) n lost w) :
    Calls Try.prog 34 #[.pointer (some ⟨b, 0, none⟩)] w fun e w' => e = .returned (.int .i64 x.toNat) ∧ FeedAt W A b c cap l (n + 1) lost w' := by
  obtain ⟨s, r, h⟩ := h
  have c0 := h.cell (i := 0) rfl
  have c1 := h.cell (i := 1) rfl
  have hc := h.r.blk
  have lb := h.lt
  have fb := h.free (i := 1)
  refine calls_of_loneTo fun cs => ?_
  have e : Frame.enter Try.prog 34 #[.pointer (some ⟨b, 0, none⟩)] .normal = (base 34).at ⟨#[.pointer (some ⟨b, 0, none⟩), undef, undef, undef, undef, undef, undef, undef, undef, undef, undef, undef, undef, undef, undef, undef, undef, undef, undef, undef, undef, undef, undef, undef, undef, undef, undef], []⟩ [.code (Try.f34.body.getD .skip)] := by
    simp [Frame.enter, Frame.at, Try.func34, base, Try.f34]
  rw [e]
  refine LoneTo.goes (n := 40) ?_
  simp only [Try.f34, Option.getD_some]
  s_c stepG_seq
  s_reg
  s_op
  s_c stepG_region_end
  s_c stepG_seq
  s_c stepG_seq
  s_reg
  s_op
  s_op
  s_op
  s_op
  s_c stepG_region_end
  s_c stepG_seq
  s_reg
  s_stop
  refine LoneTo.step (step_lone_select_recv_buf (c := c) (z := .int .u8 0) (cap := cap) (buf := ((x :: l).map byteV).toArray) (closed := true) (s := s) (r := r) (tm := false) (stepG_comm (cases := #[rcase c (.int .u8 0)]) (blocking := false) (shape := .select) (w' := w) rfl rfl (by decide) (by simp [go_sem, execOp, rcase, Act.eval])) hc (by simp)) ?_
  rw [Frame.finish_at]
  rw [show ((x :: l).map byteV).toArray.getD 0 undef = byteV x from rfl, show ((x :: l).map byteV).toArray.extract 1 ((x :: l).map byteV).toArray.size = (l.map byteV).toArray from buf_tail x l]
  have h2 := h.rot.setChan (l' := l) (cl' := true) (s' := s) (r' := r + 1)
  generalize w.setChan c cap (l.map byteV).toArray true s (r + 1) false = W2 at *
  walk_nrm
  have d1 := h2.r.cell (i := 1) rfl
  have g1 := h2.r.free (i := 1)
  have lb2 := h2.r.lt
  have h3 := h2.rot.set (i := 1) (v := .int .i64 ((n : Int) + 1))
  have hw : IntKind.i64.wrap ((n : Int) + 1) = (n : Int) + 1 := wrap_small _ (by omega) (by omega)
  have hx9 := x.toNat_lt
  have hw2 : IntKind.i64.wrap (x.toNat : Int) = (x.toNat : Int) := wrap_small _ (by omega) (by omega)
  have e2 : ((n + 1 : Nat) : Int) = (n : Int) + 1 := by omega
  refine LoneTo.goes (n := 50) ?_
  s_op
  s_op
  s_c stepG_region_end
  s_c stepG_block
  s_cond true
  s_c stepG_seq
  s_reg
  s_op
  s_op
  s_op
  s_op
  s_c stepG_region_end
  s_c stepG_seq
  s_reg
  s_op
  s_c stepG_region_end
  s_cond true
  s_c stepG_seq
  s_reg
  s_op
  s_op
  s_op
  s_op
  s_op
  s_op
  s_op
  s_op
  s_c stepG_region_end
  s_c stepG_seq
  s_reg
  s_op
  s_op
  s_op
  s_c stepG_region_end
  s_c stepG_ret'
  s_stop
  refine LoneTo.done ⟨.returned (.int .i64 x.toNat), _, rfl, ⟨rfl, ?_⟩, rfl, rfl, rfl, rfl, _, Try.func34, by simp [results, Try.f34, Frame.at]⟩
  refine ⟨s, r + 1, ?_⟩
  rw [e2]
  exact h3

set_option maxRecDepth 100000 in
theorem next_none {b c cap : Nat} {n : Nat} {lost : Bool} (h : FeedAt W A b c cap [] n lost w) :
    Calls Try.prog 34 #[.pointer (some ⟨b, 0, none⟩)] w fun e w' => e = .returned (.int .i64 0) ∧ FeedAt W A b c cap [] n true w' := by
  obtain ⟨s, r, h⟩ := h
  have c0 := h.cell (i := 0) rfl
  have c2 := h.cell (i := 2) rfl
  have hc := h.r.blk
  have lb := h.lt
  have fb := h.free (i := 2)
  refine calls_of_loneTo fun cs => ?_
  have e : Frame.enter Try.prog 34 #[.pointer (some ⟨b, 0, none⟩)] .normal = (base 34).at ⟨#[.pointer (some ⟨b, 0, none⟩), undef, undef, undef, undef, undef, undef, undef, undef, undef, undef, undef, undef, undef, undef, undef, undef, undef, undef, undef, undef, undef, undef, undef, undef, undef, undef], []⟩ [.code (Try.f34.body.getD .skip)] := by
    simp [Frame.enter, Frame.at, Try.func34, base, Try.f34]
  rw [e]
  refine LoneTo.goes (n := 40) ?_
  simp only [Try.f34, Option.getD_some]
  s_c stepG_seq
  s_reg
  s_op
  s_c stepG_region_end
  s_c stepG_seq
  s_c stepG_seq
  s_reg
  s_op
  s_op
  s_op
  s_op
  s_c stepG_region_end
  s_c stepG_seq
  s_reg
  s_stop
  refine LoneTo.step (step_lone_select_recv_shut (c := c) (z := .int .u8 0) (cap := cap) (s := s) (r := r) (tm := false) (stepG_comm (cases := #[rcase c (.int .u8 0)]) (blocking := false) (shape := .select) (w' := w) rfl rfl (by decide) (by simp [go_sem, execOp, rcase, Act.eval])) hc) ?_
  rw [Frame.finish_at]
  walk_nrm
  have h3 := h.set (i := 2) (v := .bool true)
  refine LoneTo.goes (n := 50) ?_
  s_op
  s_op
  s_c stepG_region_end
  s_c stepG_block
  s_cond true
  s_c stepG_seq
  s_reg
  s_op
  s_op
  s_op
  s_op
  s_c stepG_region_end
  s_c stepG_seq
  s_reg
  s_op
  s_c stepG_region_end
  s_cond false
  s_c stepG_skip
  s_c stepG_inBlock
  s_c stepG_seq
  s_reg
  s_op
  s_op
  s_op
  s_op
  s_c stepG_region_end
  s_c stepG_seq
  s_reg
  s_op
  s_c stepG_region_end
  s_c stepG_ret'
  s_stop
  refine LoneTo.done ⟨.returned (.int .i64 0), _, rfl, ⟨rfl, ?_⟩, rfl, rfl, rfl, rfl, _, Try.func34, by simp [results, Try.f34, Frame.at]⟩
  exact ⟨s, r, h3⟩

end Go.Proofs.Ytjeinldhbajknaa

/-
  A feed is made out of a list of bytes. Conditions: those that each theorem names.
-/
namespace Go.Proofs.Ytjeinldhbajknaa
open Go.RowKit Go.Sp Go.Conc
variable {W w w' : World} {A : HProp}

theorem mkChan (n : Nat) (hn : n ≤ 1048576) (w : World) : (Instr.makeChan 108 (.int .i64 n)).run Try.prog w = .ok (.chan (some w.heap.size)) (w.alloc (.chan n #[] false 0 0 false)) := by
  have h : (Try.prog.info? 5).map (·.bytes) = some 1 := by kernel_rfl
  obtain ⟨i, hi, hb⟩ := Option.map_eq_some_iff.1 h
  exact run_makeChan (P := Try.prog) (w := w) Try.underlying108 hi .i64 n (by omega) (by rw [hb]; omega)

def sndSeq : Code → Code | .seq _ b => b | c => c
def fstSeq : Code → Code | .seq a _ => a | c => c
def unBlock : Code → Code | .block _ c => c | c => c
def unLoop : Code → Code | .loop c => c | c => c
/-- the loop's body, and what follows the loop -/
noncomputable def feedLoop : Code := unLoop (unBlock (sndSeq (fstSeq (sndSeq (sndSeq (Try.f29.body.getD .skip))))))
noncomputable def feedAfter : Code := sndSeq (sndSeq (sndSeq (Try.f29.body.getD .skip)))
/-- what the call comes to -/
def FeedEnd (cs : List Frame) (w : World) (l : List UInt8) (g' : Goroutine) (w' : World) : Prop := ∃ e fr, g' = G fr cs ∧ (∃ b c, e = .returned (.pointer (some ⟨b, 0, none⟩)) ∧ FeedAt w (own w) b c l.length l 0 false w') ∧ fr.fn = 29 ∧ fr.leaving Try.prog w' e

set_option maxRecDepth 100000 in
theorem feed_exit {l : List UInt8} {b c k cap : Nat} {a : Option Addr} {wk : World} (hk : k = l.length) (cs : List Frame) (h : Sat w (pts b (.cells #[.chan (some c), .int .i64 0, .bool false] 110) * (pts c (chanO l.length (l.take k) false k 0) * own w)) wk) (j0 j1 j2 j4 j5 j6 j7 j8 j9 j10 j14 j15 j16 j17 j18 j19 j20 j21 j22 j23 j24 j25 j26 j27 : Value) :
    LoneTo Try.prog (FeedEnd cs w l) (G ((base 29).at ⟨#[j0, j1, j2, .pointer (some ⟨b, 0, none⟩), j4, j5, j6, j7, j8, j9, j10, .slice a l.length cap, .int .i64 l.length, .int .i64 k, j14, j15, j16, j17, j18, j19, j20, j21, j22, j23, j24, j25, j26, j27], []⟩ [.code feedLoop, .inLoop feedLoop, .inBlock 0, .code feedAfter]) cs) wk := by
  have i1 : ¬ (k : Int) < (l.length : Int) := by omega
  have c0 := h.cell (i := 0) rfl
  have hc := h.r.blk
  have h2 := (h.rot.setChan (l' := l) (cl' := true) (s' := k) (r' := 0)).rot
  generalize hW2 : wk.setChan c l.length (l.map byteV).toArray true k 0 false = W2 at *
  have hcl : ∀ ats ty, (Builtin.close_ ats ty #[.chan (some c)]).run Try.prog wk = .ok (.tuple #[]) W2 := fun ats ty => by
    have := run_close_open (P := Try.prog) (w := wk) ats ty hc
    rw [this, ← hW2, show List.take k l = l from by rw [hk, List.take_length]]
    rfl
  refine LoneTo.goes (n := 40) ?_
  simp only [feedLoop, feedAfter, Try.f29, Option.getD_some, sndSeq, fstSeq, unBlock, unLoop]
  s_c stepG_seq
  s_reg
  s_op
  s_c stepG_region_end
  s_c stepG_seq
  s_cond false
  s_exit
  s_c stepG_seq
  s_reg
  s_op
  s_op
  s_op
  s_op
  s_op
  s_c stepG_region_end
  s_c stepG_seq
  s_reg
  s_op
  s_op
  s_c stepG_region_end
  s_c stepG_ret'
  s_stop
  refine LoneTo.done ⟨.returned (.pointer (some ⟨b, 0, none⟩)), _, rfl, ⟨b, c, rfl, k, 0, h2⟩, rfl, rfl, rfl, rfl, _, Try.func29, by simp [results, Try.f29, Frame.at]⟩

set_option maxRecDepth 100000 in
theorem feed_loop {l : List UInt8} {b c cap : Nat} {a : Option Addr} (hn : l.length ≤ 1048576) (hv : Rd w (.slice a l.length cap) l.length 1 (l.map byteV)) (cs : List Frame) : ∀ (m k : Nat) (wk : World), k + m = l.length → Sat w (pts b (.cells #[.chan (some c), .int .i64 0, .bool false] 110) * (pts c (chanO l.length (l.take k) false k 0) * own w)) wk →
    ∀ (j0 j1 j2 j4 j5 j6 j7 j8 j9 j10 j14 j15 j16 j17 j18 j19 j20 j21 j22 j23 j24 j25 j26 j27 : Value), LoneTo Try.prog (FeedEnd cs w l) (G ((base 29).at ⟨#[j0, j1, j2, .pointer (some ⟨b, 0, none⟩), j4, j5, j6, j7, j8, j9, j10, .slice a l.length cap, .int .i64 l.length, .int .i64 k, j14, j15, j16, j17, j18, j19, j20, j21, j22, j23, j24, j25, j26, j27], []⟩ [.code feedLoop, .inLoop feedLoop, .inBlock 0, .code feedAfter]) cs) wk := by
  intro m
  induction m with
  | zero => intro k wk hk h j0 j1 j2 j4 j5 j6 j7 j8 j9 j10 j14 j15 j16 j17 j18 j19 j20 j21 j22 j23 j24 j25 j26 j27; exact feed_exit (by omega) cs h j0 j1 j2 j4 j5 j6 j7 j8 j9 j10 j14 j15 j16 j17 j18 j19 j20 j21 j22 j23 j24 j25 j26 j27
  | succ m ih =>
    intro k wk hk h j0 j1 j2 j4 j5 j6 j7 j8 j9 j10 j14 j15 j16 j17 j18 j19 j20 j21 j22 j23 j24 j25 j26 j27
    have hlt : k < l.length := by omega
    have i1 : (k : Int) < (l.length : Int) := by omega
    have i0 : (0 : Int) ≤ (k : Int) := by omega
    obtain ⟨_, _, a', cap', hva, hat⟩ := hv.ext h.r.r.toExt
    obtain ⟨b', off, ha, hx⟩ := hat k (byteV (l[k])) (by simp [hlt])
    simp only [Value.slice.injEq] at hva
    obtain ⟨rfl, -, rfl⟩ := hva
    subst ha
    have c0 := h.cell (i := 0) rfl
    have hc := h.r.blk
    have hw : IntKind.i64.wrap ((k : Int) + 1) = ((k + 1 : Nat) : Int) := by rw [wrap_small _ (by omega) (by omega)]; omega
    have e1 : ((l.take k).map byteV).toArray.push (byteV l[k]) = ((l.take (k + 1)).map byteV).toArray := by
      have e2 : (l.take (k + 1)).map byteV = (l.take k).map byteV ++ [byteV l[k]] := by rw [List.take_succ_eq_append_getElem hlt, List.map_append]; rfl
      rw [e2, List.push_toArray]
    have h2 := (h.rot.setChan (l' := l.take (k + 1)) (cl' := false) (s' := k + 1) (r' := 0)).rot
    refine LoneTo.goes (n := 40) ?_
    simp only [feedLoop, feedAfter, Try.f29, Option.getD_some, sndSeq, fstSeq, unBlock, unLoop]
    s_c stepG_seq
    s_reg
    s_op
    s_c stepG_region_end
    s_c stepG_seq
    s_cond true
    s_c stepG_skip
    s_c stepG_seq
    s_c stepG_block
    s_c stepG_seq
    s_reg
    s_op
    s_op
    s_op
    s_c stepG_region_end
    s_reg
    s_op
    s_op
    s_op
    s_op
    s_op
    s_stop
    refine LoneTo.step (step_lone_send_room (c := c) (cap := l.length) (buf := ((l.take k).map byteV).toArray) (s := k) (r := 0) (tm := false) (stepG_comm (cases := #[scase c (byteV l[k]) (.tuple #[])]) (blocking := true) (shape := .send) (w' := wk) rfl rfl (by decide) (by simp [execOp, scase, Act.eval])) hc (by simp; omega)) ?_
    rw [Frame.finish_at, e1]
    generalize wk.setChan c l.length ((l.take (k + 1)).map byteV).toArray false (k + 1) 0 false = W2 at *
    walk_nrm
    refine LoneTo.goes (n := 40) ?_
    s_c stepG_region_end
    s_c stepG_inBlock
    s_reg
    s_op
    s_op
    s_c stepG_region_end
    s_c stepG_inLoop
    s_stop
    exact ih (k + 1) W2 (by omega) h2 _ _ _ _ _ _ _ _ _ _ _ _ _ _ _ _ _ _ _ _ _ _ _ _

set_option maxRecDepth 100000 in
theorem newFeed_any {v : Value} {l : List UInt8} (hn : l.length ≤ 1048576) (hv : Rd w v l.length 1 (l.map byteV)) :
    Calls Try.prog 29 #[v] w fun e w' => ∃ b c, e = .returned (.pointer (some ⟨b, 0, none⟩)) ∧ FeedAt w (own w) b c l.length l 0 false w' := by
  obtain ⟨a, cap, hv0⟩ : ∃ a cap, v = .slice a l.length cap := by obtain ⟨_, _, a, cap, h, _⟩ := hv; exact ⟨a, cap, h⟩
  subst hv0
  refine calls_of_loneTo fun cs => ?_
  have e : Frame.enter Try.prog 29 #[.slice a l.length cap] .normal = (base 29).at ⟨#[.slice a l.length cap, undef, undef, undef, undef, undef, undef, undef, undef, undef, undef, undef, undef, undef, undef, undef, undef, undef, undef, undef, undef, undef, undef, undef, undef, undef, undef, undef], []⟩ [.code (Try.f29.body.getD .skip)] := by
    simp [Frame.enter, Frame.at, Try.func29, base, Try.f29]
  rw [e]
  have hmc := mkChan l.length hn
  have h0 : Sat w (pts (w.heap.size + 1) (.cells #[.chan (some w.heap.size), .int .i64 0, .bool false] 110) * (pts w.heap.size (chanO l.length (l.take 0) false 0 0) * own w)) ((w.alloc (.chan l.length #[] false 0 0 false)).alloc (.cells #[.chan (some w.heap.size), .int .i64 0, .bool false] 110)) := by
    have h1 := ((Sat.start w).alloc (.chan l.length #[] false 0 0 false)).alloc (.cells #[.chan (some w.heap.size), .int .i64 0, .bool false] 110)
    rw [show (w.alloc (.chan l.length #[] false 0 0 false)).heap.size = w.heap.size + 1 by simp] at h1
    exact h1
  have hloop := feed_loop (b := w.heap.size + 1) (c := w.heap.size) hn hv cs l.length 0 _ (by omega) h0
  refine LoneTo.goes (n := 40) ?_
  simp only [feedLoop, feedAfter, Try.f29, Option.getD_some, sndSeq, fstSeq, unBlock, unLoop] at hloop ⊢
  s_c stepG_seq
  s_reg
  s_op
  s_c stepG_region_end
  s_c stepG_seq
  s_reg
  s_op
  s_op
  s_op
  s_op
  s_op
  s_op
  s_c stepG_region_end
  s_c stepG_seq
  s_c stepG_seq
  s_reg
  s_op
  s_op
  s_op
  s_c stepG_region_end
  s_c stepG_block
  s_c stepG_loop
  s_stop
  exact hloop _ _ _ _ _ _ _ _ _ _ _ _ _ _ _ _ _ _ _ _ _ _ _ _

end Go.Proofs.Ytjeinldhbajknaa

/-
  A feed as a value; a byte, a number out of it. Conditions: those that each theorem names.
-/
namespace Go.Proofs.Ytjeinldhbajknaa
open Go.RowKit Go.Sp Go.Conc
variable {W w w' : World} {A : HProp}

/-- a feed: what is left, how many were read, was one missing? -/
structure Fd where
  l : List UInt8
  at_ : Nat
  lost : Bool
def Fd.next (f : Fd) : Nat × Fd := match f.l with
  | x :: l => (x.toNat, ⟨l, f.at_ + 1, f.lost⟩)
  | [] => (0, ⟨[], f.at_, true⟩)
/-- a number out of so many bytes, behind v -/
def Fd.num : Nat → Nat → Fd → Nat × Fd
  | 0, v, f => (v, f)
  | k + 1, v, f => Fd.num k (v * 256 + f.next.1) f.next.2
def FdAt (W : World) (A : HProp) (b c cap : Nat) (f : Fd) (w : World) : Prop := f.at_ + f.l.length ≤ 1048576 ∧ FeedAt W A b c cap f.l f.at_ f.lost w

theorem Fd.next_lt (f : Fd) : f.next.1 < 256 := by
  unfold Fd.next
  split
  · rename_i x l _; exact x.toNat_lt
  · exact Nat.zero_lt_succ _
theorem next_any {b c cap : Nat} {f : Fd} (h : FdAt W A b c cap f w) :
    Calls Try.prog 34 #[.pointer (some ⟨b, 0, none⟩)] w fun e w' => e = .returned (.int .i64 (f.next.1 : Nat)) ∧ FdAt W A b c cap f.next.2 w' := by
  obtain ⟨l, n, lost⟩ := f
  obtain ⟨h1, h2⟩ := h
  simp only at h1 h2
  cases l with
  | nil => exact (next_none h2).mono fun _ _ ⟨he, hs⟩ => ⟨he, h1, hs⟩
  | cons x l =>
    simp only [List.length_cons] at h1
    exact (next_some (by omega) h2).mono fun _ _ ⟨he, hs⟩ => ⟨he, by simp only [Fd.next]; omega, hs⟩

/-- with its sign -/
def sgnV (m : Nat) (sg : Bool) (v : Nat) : Int := if (sg = true ∨ m = 4) ∧ 2 ^ (8 * m - 1) ≤ v then (v : Int) - 2 ^ (8 * m) else v

theorem or_add (v x : Nat) (hx : x < 256) : v * 256 ||| x = v * 256 + x := by
  have := Nat.two_pow_add_eq_or_of_lt (i := 8) (b := x) (by omega) v
  rw [Nat.mul_comm v 256]
  exact this.symm

theorem bits_or (a b : Nat) (ha : a < 2 ^ 63) (hb : b < 2 ^ 63) : bits .or .i64 (a : Int) (b : Int) = ((a ||| b : Nat) : Int) := by
  have e : ∀ n : Nat, BitVec.ofInt 64 (n : Int) = BitVec.ofNat 64 n := fun n => by simp
  show IntKind.i64.wrap (((BitVec.ofInt 64 (a : Int) ||| BitVec.ofInt 64 (b : Int)).toNat : Nat) : Int) = _
  rw [e, e, BitVec.toNat_or, BitVec.toNat_ofNat, BitVec.toNat_ofNat, Nat.mod_eq_of_lt (by omega), Nat.mod_eq_of_lt (by omega)]
  have := Nat.or_lt_two_pow ha hb
  exact wrap_small _ (by omega) (by omega)
theorem byte_in (v x : Nat) (hv : v < 16777216) (hx : x < 256) : wrap64 ((v : Int) * 256) = (v : Int) * 256 ∧ bits .or .i64 ((v : Int) * 256) (x : Int) = ((v * 256 + x : Nat) : Int) := by
  refine ⟨?_, ?_⟩
  · unfold wrap64; omega
  · rw [show (v : Int) * 256 = ((v * 256 : Nat) : Int) by omega, bits_or _ _ (by omega) (by omega), or_add v x hx]
theorem pow_le (k : Nat) (hk : k < 4) (v : Nat) (hv : v < 256 ^ k) : v < 16777216 := by
  have : 256 ^ k ≤ 256 ^ 3 := Nat.pow_le_pow_right (by omega) (by omega)
  omega

set_option maxRecDepth 100000 in
set_option maxHeartbeats 4000000 in
theorem number_any {b c cap : Nat} {f : Fd} (m : Nat) (h1 : 1 ≤ m) (hm : m ≤ 4) (sg : Bool) (h : FdAt W A b c cap f w) :
    Calls Try.prog 65 #[.pointer (some ⟨b, 0, none⟩), .int .i64 m, .bool sg] w fun e w' => e = .returned (.int .i64 (sgnV m sg (f.num m 0).1)) ∧ FdAt W A b c cap (f.num m 0).2 w' := by
  have H := Lib.hid h
  obtain ⟨r, hr⟩ : ∃ r, f.num m 0 = r := ⟨_, rfl⟩
  rw [hr]
  have HR := Lib.hid hr
  clear h hr
  go_enter Try.func65, Try.ntmps65
  go_wp2_with fail
  go_loopg [7, 9] m (fun gg s7 s9 wx => ∃ (k v : Nat) (g : Fd), k ≤ m ∧ gg = m - k ∧ s9 = .int .i64 k ∧ s7 = .int .i64 v ∧ v < 256 ^ k ∧ g.num (m - k) v = r ∧ FdAt W A b c cap g wx)
  case atStart => exact ⟨0, 0, f, by omega, rfl, by go_num, by go_num, by omega, HR.out, H.out⟩
  case round =>
    obtain ⟨k, v, g, hk, rfl, rfl, rfl, hv, hg, hx⟩ := hrel
    have HX := Lib.hid hx
    have HG := Lib.hid hg
    clear hx hg H HR
    by_cases hlt : k < m
    · have i1 : (k : Int) < (m : Int) := by omega
      have HN := Lib.hid (next_any HX.out)
      have hl := g.next_lt
      obtain ⟨q1, q2⟩ := byte_in v g.next.1 (pow_le k (by omega) v hv) hl
      go_wp2_with fail
      refine Calls.mono HN.out ?_
      rintro e w2 ⟨rfl, h2⟩
      have H2 := Lib.hid h2
      have hv2 : v * 256 + g.next.1 < 256 ^ (k + 1) := by rw [Nat.pow_succ]; omega
      have HG2 := Lib.hid (show g.next.2.num (m - (k + 1)) (v * 256 + g.next.1) = r by
        have := HG.out
        rw [show m - k = (m - (k + 1)) + 1 by omega] at this
        exact this)
      have HV2 := Lib.hid hv2
      clear h2 hv2 hv
      generalize v * 256 + g.next.1 = v2 at *
      go_wp2
      go_roundg (m - (k + 1))
      case measure => omega
      case rel => exact ⟨k + 1, v2, g.next.2, by omega, rfl, by go_num, rfl, HV2.out, HG2.out, H2.out⟩
    · obtain rfl : m = k := by omega
      have hr : (v, g) = r := by
        have := HG.out
        rw [Nat.sub_self] at this
        exact this
      subst hr
      clear hlt HG
      have hm4 : m = 1 ∨ m = 2 ∨ m = 3 ∨ m = 4 := by omega
      rcases hm4 with rfl | rfl | rfl | rfl
      · skip
        by_cases hge : 128 ≤ v
        · have i1 : (128 : Int) ≤ (v : Int) := by omega
          cases sg
          all_goals
            go_wp2
            go_ret
            exact ⟨by simp [sgnV, hge], HX.out⟩
        · have i1 : ¬ (128 : Int) ≤ (v : Int) := by omega
          cases sg
          all_goals
            go_wp2
            go_ret
            exact ⟨by simp [sgnV, hge], HX.out⟩
      · skip
        by_cases hge : 32768 ≤ v
        · have i1 : (32768 : Int) ≤ (v : Int) := by omega
          cases sg
          all_goals
            go_wp2
            go_ret
            exact ⟨by simp [sgnV, hge], HX.out⟩
        · have i1 : ¬ (32768 : Int) ≤ (v : Int) := by omega
          cases sg
          all_goals
            go_wp2
            go_ret
            exact ⟨by simp [sgnV, hge], HX.out⟩
      · skip
        by_cases hge : 8388608 ≤ v
        · have i1 : (8388608 : Int) ≤ (v : Int) := by omega
          cases sg
          all_goals
            go_wp2
            go_ret
            exact ⟨by simp [sgnV, hge], HX.out⟩
        · have i1 : ¬ (8388608 : Int) ≤ (v : Int) := by omega
          cases sg
          all_goals
            go_wp2
            go_ret
            exact ⟨by simp [sgnV, hge], HX.out⟩
      · skip
        by_cases hge : 2147483648 ≤ v
        · have i1 : (2147483648 : Int) ≤ (v : Int) := by omega
          cases sg
          all_goals
            go_wp2
            go_ret
            exact ⟨by simp [sgnV, hge], HX.out⟩
        · have i1 : ¬ (2147483648 : Int) ≤ (v : Int) := by omega
          cases sg
          all_goals
            go_wp2
            go_ret
            exact ⟨by simp [sgnV, hge], HX.out⟩

end Go.Proofs.Ytjeinldhbajknaa

/-
  A text out of a feed. Conditions: those that each theorem names.
-/
namespace Go.Proofs.Ytjeinldhbajknaa
open Go.RowKit Go.Sp Go.Conc
variable {W w w' : World} {A : HProp}

theorem FeedAt.focus {b c cap : Nat} {l : List UInt8} {n : Nat} {lost : Bool} (h : FeedAt W A b c cap l n lost w) : ∃ Y : HProp, Sat W (A * Y) w ∧ ∀ (A' : HProp) (w' : World), Sat W (A' * Y) w' → FeedAt W A' b c cap l n lost w' := by
  obtain ⟨s, r, h⟩ := h
  exact ⟨pts b (.cells #[.chan (some c), .int .i64 n, .bool lost] 110) * pts c (chanO cap l true s r), h.of_eq (by ac_rfl), fun A' w' h => ⟨s, r, h.of_eq (by ac_rfl)⟩⟩
theorem FeedAt.less {B : HProp} {b c cap : Nat} {l : List UInt8} {n : Nat} {lost : Bool} (h : FeedAt W (B * A) b c cap l n lost w) : FeedAt W A b c cap l n lost w := by
  obtain ⟨s, r, h⟩ := h
  exact ⟨s, r, (h.of_eq (show _ = B * (pts b (.cells #[.chan (some c), .int .i64 n, .bool lost] 110) * (pts c (chanO cap l true s r) * A)) by ac_rfl)).r⟩
theorem FeedAt.sat {b c cap : Nat} {l : List UInt8} {n : Nat} {lost : Bool} (h : FeedAt W A b c cap l n lost w) : Sat W A w := by
  obtain ⟨s, r, h⟩ := h
  exact h.r.r

/-- a text of so many bytes -/
def Fd.txt (n : Int) (f : Fd) : List UInt8 × Fd := if n < 0 ∨ (f.l.length : Int) < n then ([], ⟨f.l, f.at_, true⟩) else (f.l.take n.toNat, ⟨f.l.drop n.toNat, f.at_ + n.toNat, f.lost⟩)

set_option maxRecDepth 100000 in
theorem text_bad {b c cap : Nat} {l : List UInt8} {k : Nat} {lost : Bool} (n : Int) (hn : n < 0 ∨ (l.length : Int) < n) (h : FeedAt W A b c cap l k lost w) :
    Calls Try.prog 49 #[.pointer (some ⟨b, 0, none⟩), .int .i64 n] w fun e w' => e = .returned (.string ⟨#[]⟩) ∧ FeedAt W A b c cap l k true w' := by
  obtain ⟨s, r, h⟩ := h
  have H := Lib.hid h
  have c0 := h.cell (i := 0) rfl
  have c2 := h.cell (i := 2) rfl
  have lb := h.lt
  have f2 := h.free (i := 2)
  have hln : ∀ ty, (Builtin.len_ #[108] ty #[.chan (some c)]).run Try.prog w = .ok (.int .i64 (l.length : Int)) w := fun ty => by
    have := run_len_chan (P := Try.prog) 108 ty Try.underlying108 h.r.blk
    rw [this]
    simp [goInt]
  clear h
  have H2 := Lib.hid (H.out.set (i := 2) (v := .bool true))
  by_cases h0 : n < 0
  · go_enter Try.func49, Try.ntmps49
    go_wp2
    go_ret
    exact ⟨rfl, s, r, H2.out⟩
  · have h1 : (l.length : Int) < n := by omega
    go_enter Try.func49, Try.ntmps49
    go_wp2
    go_ret
    exact ⟨rfl, s, r, H2.out⟩

theorem FeedAt.made {b c cap : Nat} {l : List UInt8} {q : Nat} {lost : Bool} (h : FeedAt W A b c cap l q lost w) (n : Nat) (hn : n ≤ 1048576) :
    FeedAt W (rowM (.slice (some ⟨w.heap.size, 0, none⟩) n n) (List.replicate n 0) * A) b c cap l q lost (w.alloc (.cells (madeCells #[.int .u8 0] n) 5)) := by
  obtain ⟨Y, h1, back⟩ := h.focus
  have h2 := (h1.alloc (.cells (madeCells #[.int .u8 0] n) 5)).rowM_mk (xs := List.replicate n 0) (cap := n) (by simp) (by simp [maxLen]; omega) (size_madeCells _ _) (by
    rw [toList_madeCells_one, List.length_replicate, List.take_of_length_le (by simp)]
    simp [bytesV]) (.inl rfl)
  rw [List.length_replicate] at h2
  exact back _ _ h2.asc'
theorem FeedAt.setB {b c cap g k n : Nat} {l xs : List UInt8} {q : Nat} {lost : Bool} (h : FeedAt W (rowM (.slice (some ⟨g, 0, none⟩) n n) xs * A) b c cap l q lost w) (x : UInt8) :
    FeedAt W (rowM (.slice (some ⟨g, 0, none⟩) n n) (xs.set k x) * A) b c cap l q lost (w.setCell ⟨g, k, none⟩ (.int .u8 x.toNat)) := by
  obtain ⟨Y, h1, back⟩ := h.focus
  exact back _ _ (h1.asc.rowM_set).asc'
theorem conv_rowM {v : Value} {l : List UInt8} (h : Sat W (rowM v l * A) w) : (convert 22 9 v).run Try.prog w = .ok (.string ⟨l.toArray⟩) w := by
  rcases h.rowM_cases with ⟨rfl, rfl, _⟩ | ⟨g, cap, cur, f, rfl, _⟩
  · exact run_convert_bytes_nil (P := Try.prog) (w := w) 22 5 Try.underlying22 Try.underlying5 0 0 9 Try.underlying9
  · obtain ⟨a, cap', e1, _, _, e2⟩ := h.rowM_val
    cases e1
    refine run_convert_bytes_back (P := Try.prog) w 22 9 5 ⟨g, 0, none⟩ cap l Try.underlying22 Try.underlying5 Try.underlying9 fun j hj => ?_
    obtain ⟨g', e3, e4, _⟩ := e2 j hj
    cases e3
    rw [Addr.add_lit, Nat.zero_add]
    exact e4
theorem set_next (l : List UInt8) (n k : Nat) (hk : k < n) (hn : n ≤ l.length) : (l.take k ++ List.replicate (n - k) 0).set k (l[k]'(by omega)) = l.take (k + 1) ++ List.replicate (n - (k + 1)) 0 := by
  have h1 : (l.take k).length = k := by simp; omega
  rw [List.set_append_right _ _ (by omega), h1, Nat.sub_self, show n - k = (n - (k + 1)) + 1 by omega, List.replicate_succ, List.set_cons_zero, List.take_succ_eq_append_getElem (by omega), List.append_assoc]
  rfl

set_option maxRecDepth 100000 in
set_option maxHeartbeats 4000000 in
theorem text_good {b c cap : Nat} {l : List UInt8} {q : Nat} {lost : Bool} (n : Nat) (hn : n ≤ l.length) (hq : q + l.length ≤ 1048576) (h : FeedAt W A b c cap l q lost w) :
    Calls Try.prog 49 #[.pointer (some ⟨b, 0, none⟩), .int .i64 n] w fun e w' => e = .returned (.string ⟨(l.take n).toArray⟩) ∧ FeedAt W A b c cap (l.drop n) (q + n) lost w' := by
  have H := Lib.hid h
  obtain ⟨s, r, h⟩ := h
  have c0 := h.cell (i := 0) rfl
  have lb := h.lt
  have hln : ∀ ty, (Builtin.len_ #[108] ty #[.chan (some c)]).run Try.prog w = .ok (.int .i64 (l.length : Int)) w := fun ty => by
    have := run_len_chan (P := Try.prog) 108 ty Try.underlying108 h.r.blk
    rw [this]
    simp [goInt]
  obtain ⟨i0, hi, hz, hsz, hby⟩ := info_parts3 info_u8
  have hmk : (Instr.makeSlice 22 (.int .i64 n) (.int .i64 n)).run Try.prog w = .ok (.slice (some ⟨w.heap.size, 0, none⟩) n n) (w.alloc (.cells (madeCells #[.int .u8 0] n) 5)) := by
    have := run_make (P := Try.prog) w 22 5 i0 _ Try.underlying22 hi hz .i64 .i64 (n : Int) (n : Int) (by omega) (by omega) (by rw [hby]; omega) (by omega)
    rw [hsz, Int.toNat_natCast, Nat.mul_one] at this
    exact this
  have h5 := H.out.made n (by omega)
  obtain ⟨g, hg⟩ : ∃ g, w.heap.size = g := ⟨_, rfl⟩
  obtain ⟨W5, hW5⟩ : ∃ W5, w.alloc (.cells (madeCells #[.int .u8 0] n) 5) = W5 := ⟨_, rfl⟩
  rw [hg] at h5 hmk
  rw [hW5] at h5 hmk
  have H5 := Lib.hid h5
  have i1 : ¬ (n : Int) < 0 := by omega
  have i2 : ¬ (l.length : Int) < (n : Int) := by omega
  clear h hi hz hby hsz hg hW5 h5
  go_enter Try.func49, Try.ntmps49
  go_wp2_with fail
  go_loopg [6, 25] n (fun gg _ s25 wx => ∃ (k : Nat), k ≤ n ∧ gg = n - k ∧ s25 = .int .i64 k ∧ FeedAt W (rowM (.slice (some ⟨g, 0, none⟩) n n) (l.take k ++ List.replicate (n - k) 0) * A) b c cap (l.drop k) (q + k) lost wx)
  case atStart => exact ⟨0, by omega, rfl, by go_num, H5.out⟩
  case round =>
    obtain ⟨k, hk, rfl, rfl, hx⟩ := hrel
    have HX := Lib.hid hx
    clear hx H H5
    by_cases hlt : k < n
    · have i1 : (k : Int) < (n : Int) := by omega
      obtain ⟨x, hx⟩ : ∃ x, l[k]'(by omega) = x := ⟨_, rfl⟩
      have hd : l.drop k = x :: l.drop (k + 1) := by rw [← hx]; exact List.drop_eq_getElem_cons (by omega)
      have hx1 := HX.out
      rw [hd] at hx1
      have HN := Lib.hid (next_some (by omega) hx1)
      have hs9 := set_next l n k hlt hn
      rw [hx] at hs9
      have HS := Lib.hid hs9
      clear hx1 hd hs9 hx
      go_wp2_with fail
      refine Calls.mono HN.out ?_
      rintro e w2 ⟨rfl, h2⟩
      obtain ⟨Y, h3, _⟩ := h2.focus
      obtain ⟨a, cp, hv, _, _, hcell⟩ := h3.asc.rowM_val
      obtain ⟨g', e1, e2, e3, e4⟩ := hcell k (by simp; omega)
      simp only [Value.slice.injEq] at hv
      obtain ⟨ha, -, -⟩ := hv
      rw [← ha] at e1
      simp only [Option.some.injEq, Addr.mk.injEq, and_true] at e1
      subst e1
      have h6 := h2.setB (k := k) x
      rw [HS.out] at h6
      have H6 := Lib.hid h6
      have hx9 := x.toNat_lt
      have q8 : IntKind.u8.wrap (x.toNat : Int) = (x.toNat : Int) := by
        show (x.toNat : Int) % 256 = _
        omega
      clear h2 h3 h6 hcell ha HX
      go_wp2
      go_roundg (n - (k + 1))
      case measure => omega
      case rel => exact ⟨k + 1, by omega, rfl, by go_num, H6.out⟩
    · obtain rfl : n = k := by omega
      have hx1 := HX.out
      rw [Nat.sub_self, List.replicate_zero, List.append_nil] at hx1
      have HL := Lib.hid hx1.less
      obtain ⟨Y, h3, _⟩ := hx1.focus
      have HC := Lib.hid (conv_rowM h3.asc)
      clear hx1 h3 HX
      have hcv := HC.out
      go_wp2
      go_ret
      exact ⟨rfl, HL.out⟩

theorem text_any {b c cap : Nat} {f : Fd} (n : Int) (h : FdAt W A b c cap f w) :
    Calls Try.prog 49 #[.pointer (some ⟨b, 0, none⟩), .int .i64 n] w fun e w' => e = .returned (.string ⟨(f.txt n).1.toArray⟩) ∧ FdAt W A b c cap (f.txt n).2 w' := by
  obtain ⟨l, q, lost⟩ := f
  obtain ⟨h1, h2⟩ := h
  simp only at h1 h2
  by_cases hn : n < 0 ∨ (l.length : Int) < n
  · rw [Fd.txt, if_pos hn]
    exact (text_bad n hn h2).mono fun _ _ ⟨he, hs⟩ => ⟨he, h1, hs⟩
  · rw [Fd.txt, if_neg hn]
    obtain ⟨m, rfl⟩ : ∃ m : Nat, n = m := ⟨n.toNat, by omega⟩
    simp only [Int.toNat_natCast]
    exact (text_good m (by omega) h1 h2).mono fun _ _ ⟨he, hs⟩ => ⟨he, by simp only [List.length_drop]; omega, hs⟩

end Go.Proofs.Ytjeinldhbajknaa

/-
  A command's numbers out of a feed. Conditions: those that each theorem names.
-/
namespace Go.Proofs.Ytjeinldhbajknaa
open Go.RowKit Go.Sp Go.Conc
variable {W w w' : World} {A : HProp}

theorem info_int : (Try.prog.info? 3).map (fun i => (i.zero, i.size, i.bytes)) = some (some (.int .i64 0), 1, 8) := by kernel_rfl
abbrev intsL (l : List Int) : List Value := l.map (Value.int .i64)
abbrev rowI (v : Value) (l : List Int) : HProp := row v l.length 3 1 (intsL l)
/-- a command in memory -/
abbrev opO (code at_ : Int) (va : Value) (t : ByteArray) : Obj := .cells #[.int .i64 code, .int .i64 at_, va, .string t] 33

def Fd.args : List Int → List Int → Fd → List Int × Fd
  | [], acc, f => (acc, f)
  | z :: zs, acc, f => Fd.args zs (acc ++ [sgnV z.natAbs (decide (z < 0)) (f.num z.natAbs 0).1]) (f.num z.natAbs 0).2

theorem FdAt.drewD {b c cap : Nat} {f : Fd} (h : FdAt W A b c cap f w) : FdAt W A b c cap f w.drew := by
  obtain ⟨h1, s, r, h2⟩ := h
  exact ⟨h1, s, r, h2.drew⟩
theorem FdAt.focus {b c cap : Nat} {f : Fd} (h : FdAt W A b c cap f w) : ∃ Y : HProp, Sat W (A * Y) w ∧ ∀ (A' : HProp) (w' : World), Sat W (A' * Y) w' → FdAt W A' b c cap f w' := by
  obtain ⟨h1, h2⟩ := h
  obtain ⟨Y, h3, h4⟩ := h2.focus
  exact ⟨Y, h3, fun A' w' h => ⟨h1, h4 A' w' h⟩⟩
theorem FdAt.sat {b c cap : Nat} {f : Fd} (h : FdAt W A b c cap f w) : Sat W A w := h.2.sat
theorem FdAt.of_eq {B : HProp} {b c cap : Nat} {f : Fd} (h : FdAt W A b c cap f w) (e : A = B) : FdAt W B b c cap f w := e ▸ h

set_option maxRecDepth 100000 in
set_option maxHeartbeats 4000000 in
theorem args_any {b c cap bo : Nat} {f : Fd} {code at_ : Int} {t : ByteArray} {va v : Value} {acc zs : List Int} (hz : ∀ z ∈ zs, (1 ≤ z ∧ z ≤ 4) ∨ (-4 ≤ z ∧ z ≤ -1)) (hl : acc.length + zs.length ≤ 100)
    (hv : ∀ w', Sat W A w' → Rd w' v zs.length 1 (intsL zs)) (h : FdAt W (pts bo (opO code at_ va t) * (rowI va acc * A)) b c cap f w) :
    Calls Try.prog 48 #[.pointer (some ⟨b, 0, none⟩), .pointer (some ⟨bo, 0, none⟩), v] w fun e w' => e = .returned (.tuple #[]) ∧ ∃ va', FdAt W (pts bo (opO code at_ va' t) * (rowI va' (f.args zs acc).1 * A)) b c cap (f.args zs acc).2 w' := by
  obtain ⟨i0, hi, hz0, hz1, hz2⟩ := info_parts3 info_int
  have HI := Lib.hid hi
  have HZ0 := Lib.hid hz0
  have HZ1 := Lib.hid hz1
  have HZ2 := Lib.hid hz2
  have H := Lib.hid h
  have HV := Lib.hid hv
  have HZ := Lib.hid hz
  obtain ⟨a, vc, hv0⟩ : ∃ a cap, v = .slice a zs.length cap := by obtain ⟨_, _, a, cap, h, _⟩ := hv w h.sat.r.r; exact ⟨a, cap, h⟩
  subst hv0
  obtain ⟨n, hn⟩ : ∃ n, zs.length = n := ⟨_, rfl⟩
  rw [hn] at HV hl
  rw [hn]
  have HN := Lib.hid hn
  obtain ⟨rr, hr⟩ : ∃ rr, f.args zs acc = rr := ⟨_, rfl⟩
  rw [hr]
  have HR := Lib.hid hr
  clear hi hz0 hz1 hz2 h hv hz hn hr
  go_enter Try.func48, Try.ntmps48
  go_wp2_with fail
  go_loopg [7, 10] n (fun gg _ s10 wx => ∃ (k : Nat) (acc' : List Int) (g : Fd) (va' : Value), k ≤ n ∧ gg = n - k ∧ s10 = .int .i64 k ∧ g.args (zs.drop k) acc' = rr ∧ acc'.length = acc.length + k ∧ FdAt W (pts bo (opO code at_ va' t) * (rowI va' acc' * A)) b c cap g wx)
  case atStart => exact ⟨0, acc, f, va, by omega, rfl, by go_num, HR.out, rfl, H.out⟩
  case round =>
    obtain ⟨k, acc', g, va', hk, rfl, rfl, hg, hla, hx⟩ := hrel
    have HX := Lib.hid hx
    have HG := Lib.hid hg
    have HLA := Lib.hid hla
    have hl2 : acc'.length ≤ 100 := by omega
    clear hx hg H HR hla
    by_cases hlt : k < n
    · have i1 : (k : Int) < (n : Int) := by omega
      obtain ⟨z, hzz⟩ : ∃ z, zs[k]'(by rw [HN.out]; exact hlt) = z := ⟨_, rfl⟩
      have hzr := HZ.out z (by rw [← hzz]; exact List.getElem_mem _)
      obtain ⟨_, _, a', cap', hva, hat⟩ := HV.out _ HX.out.sat.r.r
      obtain ⟨b', off, ha, hx⟩ := hat k (.int .i64 z) (by rw [← hzz]; simp [HN.out, hlt])
      simp only [Value.slice.injEq] at hva
      obtain ⟨rfl, -, rfl⟩ := hva
      subst ha
      have hb' : b' < wr.heap.size := World.block_lt_of_cell? wr _ hx
      have hgs : (g.num z.natAbs 0).2.args (zs.drop (k + 1)) (acc' ++ [sgnV z.natAbs (decide (z < 0)) (g.num z.natAbs 0).1]) = rr := by
        have := HG.out
        rw [List.drop_eq_getElem_cons (by rw [HN.out]; exact hlt), hzz] at this
        exact this
      have HG2 := Lib.hid hgs
      clear hgs hat hzz HG
      go_upto_region 3 with fail
      have hng : IntKind.i64.wrap (-z) = -z := IntWalk.i64_in _ (by omega)
      have hmx : (if z < -z then -z else z) = ((z.natAbs : Nat) : Int) := by
        rcases hzr with h | h
        · rw [if_neg (by omega)]; omega
        · rw [if_pos (by omega)]; omega
      have HNM := Lib.hid (number_any z.natAbs (by omega) (by omega) (decide (z < 0)) HX.out.drewD)
      obtain ⟨C, hC⟩ : ∃ C : World → Prop, C = fun w' => ∃ X, Sat W (pts bo (opO code at_ va' t) * X) w' := ⟨_, rfl⟩
      have HC := Lib.hid (show ∀ w', C w' → w'.cell? ⟨bo, 2, none⟩ = some va' from fun w' h => by rw [hC] at h; obtain ⟨X, h⟩ := h; exact h.cell rfl)
      have HC2 := Lib.hid (show ∀ X w', Sat W (pts bo (opO code at_ va' t) * X) w' → C w' from fun X w' h => by rw [hC]; exact ⟨X, h⟩)
      have H5 := Lib.hid HX.out.drewD
      clear hC HX hx hb'
      refine wp_region_E C (by kernel_rfl) ?_
      generalize wr.drew = W5 at *
      refine wpE_take (i := 0) (q := 15) (v := ?_) rfl (by kernel_rfl) (by kernel_rfl) (by kernel_rfl) (by kernel_rfl) (by kernel_rfl) (fun _ _ _ h => h) (by rfl) ?_ ?_
      rotate_left 1
      · intro w hw; go_simp; try with_reducible rfl
      refine wpE_take (i := 1) (q := 2) (v := ?_) rfl (by kernel_rfl) (by kernel_rfl) (by kernel_rfl) (by kernel_rfl) (by kernel_rfl) (fun _ _ _ h => h) (by rfl) ?_ ?_
      rotate_left 1
      · intro w hw; go_simp; try with_reducible rfl
      refine wpE_take (i := 2) (q := 3) (v := ?_) rfl (by kernel_rfl) (by kernel_rfl) (by kernel_rfl) (by kernel_rfl) (by kernel_rfl) (fun _ _ _ h => h) (by rfl) ?_ ?_
      rotate_left 1
      · intro w hw; go_simp; try with_reducible rfl
      refine wpE_take (i := 3) (q := 4) (v := ?_) rfl (by kernel_rfl) (by kernel_rfl) (by kernel_rfl) (by kernel_rfl) (by kernel_rfl) (fun _ _ _ h => h) (by rfl) ?_ ?_
      rotate_left 1
      · intro w hw; go_simp; try with_reducible rfl
      refine wpE_take (i := 4) (q := 14) (v := ?_) rfl (by kernel_rfl) (by kernel_rfl) (by kernel_rfl) (by kernel_rfl) (by kernel_rfl) (fun _ _ _ h => h) (by rfl) ?_ ?_
      rotate_left 1
      · intro w hw; (have q4 := HC.out _ hw; go_simp; try with_reducible rfl)
      refine wpE_take (i := 5) (q := 12) (v := ?_) rfl (by kernel_rfl) (by kernel_rfl) (by kernel_rfl) (by kernel_rfl) (by kernel_rfl) (fun _ _ _ h => h) (by rfl) ?_ ?_
      rotate_left 1
      · intro w hw; go_simp; try with_reducible rfl
      refine wpE_take (i := 6) (q := 9) (v := ?_) rfl (by kernel_rfl) (by kernel_rfl) (by kernel_rfl) (by kernel_rfl) (by kernel_rfl) (fun _ _ _ h => h) (by rfl) ?_ ?_
      rotate_left 1
      · intro w hw; go_simp; try with_reducible rfl
      refine wpE_take (i := 7) (q := 8) (v := ?_) rfl (by kernel_rfl) (by kernel_rfl) (by kernel_rfl) (by kernel_rfl) (by kernel_rfl) (fun _ _ _ h => h) (by rfl) ?_ ?_
      rotate_left 1
      · intro w hw; go_simp; try with_reducible rfl
      refine wpE_take (i := 8) (q := 9) (v := ?_) rfl (by kernel_rfl) (by kernel_rfl) (by kernel_rfl) (by kernel_rfl) (by kernel_rfl) (fun _ _ _ h => h) (by rfl) ?_ ?_
      rotate_left 1
      · intro w hw; go_simp; try with_reducible rfl
      refine wpE_take (i := 9) (q := 12) (v := ?_) rfl (by kernel_rfl) (by kernel_rfl) (by kernel_rfl) (by kernel_rfl) (by kernel_rfl) (fun _ _ _ h => h) (by rfl) ?_ ?_
      rotate_left 1
      · intro w hw; go_simp; try with_reducible rfl
      refine wpE_take (i := 10) (q := 11) (v := ?_) rfl (by kernel_rfl) (by kernel_rfl) (by kernel_rfl) (by kernel_rfl) (by kernel_rfl) (fun _ _ _ h => h) (by rfl) ?_ ?_
      rotate_left 1
      · intro w hw; go_simp; try with_reducible rfl
      refine wpE_take (i := 11) (q := 12) (v := ?_) rfl (by kernel_rfl) (by kernel_rfl) (by kernel_rfl) (by kernel_rfl) (by kernel_rfl) (fun _ _ _ h => h) (by rfl) ?_ ?_
      rotate_left 1
      · intro w hw; go_simp; try with_reducible rfl
      refine wpE_one (i := 12) rfl (by kernel_rfl) (HC2.out _ _ H5.out.sat) (fun K hK => ?_)
      go_simp
      refine Calls.mono HNM.out ?_
      rintro e w6 ⟨rfl, h6⟩
      obtain ⟨y, hy⟩ : ∃ y, sgnV z.natAbs (decide (z < 0)) (g.num z.natAbs 0).1 = y := ⟨_, rfl⟩
      obtain ⟨g2, hg2⟩ : ∃ g2, (g.num z.natAbs 0).2 = g2 := ⟨_, rfl⟩
      rw [hy, hg2] at HG2
      rw [hy]
      rw [hg2] at h6
      have H6 := Lib.hid h6
      clear h6 HNM H5 hy hg2
      go_simp
      refine hK _ _ ?_
      clear hK K
      refine wpE_one (i := 13) rfl (by kernel_rfl) (HC2.out _ _ H6.out.sat) (fun K hK => ?_)
      go_simp
      refine hK _ _ ?_
      clear hK K
      obtain ⟨Y, h7, back⟩ := H6.out.focus
      have h8 := h7.alloc (.cells #[.int .i64 y] 3)
      have H8 := Lib.hid (h8.of_eq (show _ = rowI va' acc' * (pts w6.heap.size (.cells #[.int .i64 y] 3) * (pts bo (opO code at_ va' t) * (A * Y))) by ac_rfl))
      have HRD := Lib.hid (show Rd (w6.alloc (.cells #[.int .i64 y] 3)) (.slice (some ⟨w6.heap.size, 0, none⟩) 1 1) 1 1 [.int .i64 y] from ⟨rfl, by simp [maxLen], _, _, rfl, fun j u hu => ⟨_, _, rfl, by
        cases j with
        | zero => simp at hu; subst hu; exact h8.cell rfl
        | succ j => simp at hu⟩⟩)
      have HBK := Lib.hid back
      clear h7 h8 back H6
      generalize hW8 : w6.alloc (.cells #[.int .i64 y] 3) = W8 at *
      generalize w6.heap.size = b27 at *
      refine wpE_one (i := 14) rfl (by kernel_rfl) (HC2.out _ _ (H8.out.r.r)) (fun K hK => ?_)
      refine step_append_rd rfl _ _ 31 rfl i0 _ 8 Try.underlying31 HI.out HZ0.out HZ1.out HZ2.out rfl (by omega) rfl H8.out (.slice (some ⟨b27, 0, none⟩) 1 1) 1 [.int .i64 y] rfl HRD.out (by simp [Value.oneCell']) (by simp [maxLen]; omega) (by omega) ?_
      intro v1 w9 h9 _
      obtain ⟨a1, c1, hv1, -⟩ := h9.row_val
      subst hv1
      have H9 := Lib.hid (h9.of_eq (show _ = pts bo (opO code at_ va' t) * (rowI (.slice a1 (acc'.length + 1) c1) (acc' ++ [y]) * (pts b27 (.cells #[.int .i64 y] 3) * (A * Y))) by
        unfold rowI intsL
        rw [List.length_append, List.map_append, List.length_singleton]
        simp only [List.map_cons, List.map_nil]
        ac_rfl))
      clear h9 H8 HRD
      go_simp
      refine hK _ _ ?_
      clear hK K
      refine wpE_take (i := 15) (q := 16) (v := ?_) rfl (by kernel_rfl) (by kernel_rfl) (by kernel_rfl) (by kernel_rfl) (by kernel_rfl) (fun _ _ _ h => h) (by rfl) ?_ ?_
      rotate_left 1
      · intro w hw; go_simp; try with_reducible rfl
      refine wpE_take (i := 16) (q := 17) (v := ?_) rfl (by kernel_rfl) (by kernel_rfl) (by kernel_rfl) (by kernel_rfl) (by kernel_rfl) (fun _ _ _ h => h) (by rfl) ?_ ?_
      rotate_left 1
      · intro w hw; go_simp; try with_reducible rfl
      have ob := H9.out.lt
      have of := H9.out.free (i := 2)
      have oc := H9.out.cell (i := 2) rfl
      have h10 := H9.out.set (i := 2) (v := .slice a1 (acc'.length + 1) c1)
      refine wpE_one (i := 17) rfl (by kernel_rfl) (HC2.out _ _ H9.out) (fun K hK => ?_)
      go_simp
      refine hK _ _ ?_
      clear hK K
      refine wpE_done (by kernel_rfl) (by kernel_rfl) ?_
      have H11 := Lib.hid (HBK.out _ _ (h10.of_eq (show _ = ((pts bo (opO code at_ (.slice a1 (acc'.length + 1) c1) t) * (rowI (.slice a1 (acc'.length + 1) c1) (acc' ++ [y]) * A)) * Y) * pts b27 (.cells #[.int .i64 y] 3) by ac_rfl)).l)
      clear h10 H9 ob of oc
      go_wp2
      go_roundg (n - (k + 1))
      case measure => omega
      case rel => exact ⟨k + 1, acc' ++ [y], g2, _, by omega, rfl, by go_num, HG2.out, by rw [List.length_append, List.length_singleton, HLA.out]; omega, H11.out⟩
    · obtain rfl : n = k := by omega
      have hg := HG.out
      rw [List.drop_of_length_le (by rw [HN.out]; exact Nat.le_refl _)] at hg
      have hg2 : (acc', g) = rr := hg
      subst hg2
      go_wp2
      exact ⟨rfl, .tuple #[], by unfold results; go_simp, rfl, va', HX.out⟩

end Go.Proofs.Ytjeinldhbajknaa

/-
  A command out of a feed, as a value. Conditions: none.
-/
namespace Go.Proofs.Ytjeinldhbajknaa
open Go.RowKit Go.Sp Go.Conc

/-- the sizes of a command's numbers; those below 0 are signed -/
def sizesM (c : Nat) : List Int :=
  if 128 ≤ c ∧ c ≤ 131 then [(c : Int) - 127]
  else if c = 132 ∨ c = 137 then [4, 4]
  else if 133 ≤ c ∧ c ≤ 136 then [(c : Int) - 132]
  else if c = 139 then [4, 4, 4, 4, 4, 4, 4, 4, 4, 4, 4]
  else if 143 ≤ c ∧ c ≤ 146 then [142 - (c : Int)]
  else if 148 ≤ c ∧ c ≤ 151 then [147 - (c : Int)]
  else if 153 ≤ c ∧ c ≤ 156 then [152 - (c : Int)]
  else if 157 ≤ c ∧ c ≤ 160 then [156 - (c : Int)]
  else if 162 ≤ c ∧ c ≤ 165 then [161 - (c : Int)]
  else if 167 ≤ c ∧ c ≤ 170 then [166 - (c : Int)]
  else if 235 ≤ c ∧ c ≤ 238 then [(c : Int) - 234]
  else if 239 ≤ c ∧ c ≤ 242 then [(c : Int) - 238]
  else if 243 ≤ c ∧ c ≤ 246 then [(c : Int) - 242, 4, 4, 4, 1, 1]
  else if c = 247 then [1, 4, 4, 4, 1]
  else if c = 248 then [4, 4, 4, 4, 4, 4, 2, 2]
  else if c = 249 then [4, 1]
  else []

/-- how long its text is, if it has one -/
def textN (c : Nat) (xs : List Int) : Option Int :=
  if 239 ≤ c ∧ c ≤ 242 then some (xs.getD 0 0) else if 243 ≤ c ∧ c ≤ 246 then some (xs.getD 4 0 + xs.getD 5 0) else if c = 247 then some (xs.getD 4 0) else none
structure Cmd where
  code : Nat
  at_ : Nat
  args : List Int
  text : List UInt8
/-- what stands behind the numbers -/
def Fd.tail (c : Nat) (xs : List Int) (f : Fd) : List UInt8 × Fd :=
  match textN c xs with
  | some n => f.txt n
  | none => ([], if 249 < c then ⟨f.l, f.at_, true⟩ else f)
/-- a command -/
def Fd.cmd (f : Fd) : Cmd × Fd :=
  let r := f.next.2.args (sizesM f.next.1) []
  (⟨f.next.1, f.at_, r.1, (r.2.tail f.next.1 r.1).1⟩, (r.2.tail f.next.1 r.1).2)

theorem args_len (zs : List Int) : ∀ (acc : List Int) (f : Fd), (f.args zs acc).1.length = acc.length + zs.length := by
  induction zs with
  | nil => intro acc f; rfl
  | cons z zs ih => intro acc f; rw [Fd.args, ih]; simp only [List.length_append, List.length_cons, List.length_nil]; omega


end Go.Proofs.Ytjeinldhbajknaa
