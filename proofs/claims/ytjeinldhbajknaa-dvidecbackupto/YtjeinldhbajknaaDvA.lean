
/-
  A feed of bytes: a channel in one goroutine. Conditions: those that each theorem names.
-/
import Derived.Test.YtjeinldhbajknaaRows
import Derived.Test.YtjeinldhbajknaaTail
import Derived.Conc.LoneCalls
import Derived.Conc.LoneSelect
import Derived.Conc.LoneSelectN
import Derived.KernelRfl
import Derived.Laws.Rows
namespace Go.Proofs.Ytjeinldhbajknaa
open Go.RowKit Go.Sp Go.Conc
variable {W w w' : World} {A : HProp}

abbrev byteV (x : UInt8) : Value := .int .u8 x.toNat
abbrev chanO (cap : Nat) (l : List UInt8) (closed : Bool) (s r : Nat) : Obj := .chan cap (l.map byteV).toArray closed s r false
/-- a feed in block b, its channel in block c: 'l' is left, so many were read; was one missing? -/
def FeedAt (W : World) (A : HProp) (b c cap : Nat) (l : List UInt8) (at_ : Nat) (lost : Bool) (w : World) : Prop :=
  ∃ s r, Sat W (pts b (.cells #[.chan (some c), .int .i64 at_, .bool lost] 110) * (pts c (chanO cap l true s r) * A)) w

theorem setChan_other (w : World) (c cap : Nat) (buf : Array Value) (cl : Bool) (s r : Nat) (tm : Bool) (k : Nat) (hk : k ≠ c) : (w.setChan c cap buf cl s r tm).heap[k]? = w.heap[k]? := by
  simp only [World.setChan]
  exact Array.getElem?_setIfInBounds_ne (Ne.symm hk)
theorem _root_.Go.Sp.Sat.setChan {c cap s r s' r' : Nat} {l l' : List UInt8} {cl cl' : Bool} (h : Sat W (pts c (chanO cap l cl s r) * A) w) : Sat W (pts c (chanO cap l' cl' s' r') * A) (w.setChan c cap (l'.map byteV).toArray cl' s' r' false) :=
  h.upd ⟨rfl, rfl, rfl⟩ (heap_setChan w c cap _ cl' s' r' false h.lt) fun k _ hk hx => by rw [setChan_other w c cap _ cl' s' r' false k hk]; exact hx

theorem buf_tail (x : UInt8) (l : List UInt8) : ((x :: l).map byteV).toArray.extract 1 ((x :: l).map byteV).toArray.size = (l.map byteV).toArray := by
  simp [List.take_of_length_le]

set_option maxRecDepth 100000 in
theorem next_some {b c cap : Nat} {x : UInt8} {l : List UInt8} {n : Nat} {lost : Bool} (hn : n < 4000000000) (h : FeedAt W A b c cap (x :: l) n lost w) :
    Calls Try.prog 34 #[.pointer (some ⟨b, 0, none⟩)] w fun e w' => e = .returned (.int .i64 x.toNat) ∧ FeedAt W A b c cap l (n + 1) lost w' := by
  obtain ⟨s, r, h⟩ := h
  have c0 := h.cell (i := 0) rfl
  have c1 := h.cell (i := 1) rfl
  have hc := h.r.blk
  have lb := h.lt
  have fb := h.free (i := 1)
  refine calls_of_loneTo fun cs => ?_
  have e : Frame.enter Try.prog 34 #[.pointer (some ⟨b, 0, none⟩)] .normal = (base 34).at ⟨#[.pointer (some ⟨b, 0, none⟩), undef, undef, undef, undef, undef, undef, undef, undef, undef, undef, undef, undef, undef, undef, undef, undef, undef, undef, undef, undef, undef, undef, undef, undef, undef, undef], []⟩ [.code (Try.f34.body.getD .skip)] := by
    simp [Frame.enter, Frame.at, Try.func34, base, Try.f34]
  rw [e]
  refine LoneTo.goes (n := 40) ?_
  simp only [Try.f34, Option.getD_some]
  s_c stepG_seq
  s_reg
  s_op
  s_c stepG_region_end
  s_c stepG_seq
  s_c stepG_seq
  s_reg
  s_op
  s_op
  s_op
  s_op
  s_c stepG_region_end
  s_c stepG_seq
  s_reg
  s_stop
  refine LoneTo.step (step_lone_select_recv_buf (c := c) (z := .int .u8 0) (cap := cap) (buf := ((x :: l).map byteV).toArray) (closed := true) (s := s) (r := r) (tm := false) (stepG_comm (cases := #[rcase c (.int .u8 0)]) (blocking := false) (shape := .select) (w' := w) rfl rfl (by decide) (by simp [go_sem, execOp, rcase, Act.eval])) hc (by simp)) ?_
  rw [Frame.finish_at]
  rw [show ((x :: l).map byteV).toArray.getD 0 undef = byteV x from rfl, show ((x :: l).map byteV).toArray.extract 1 ((x :: l).map byteV).toArray.size = (l.map byteV).toArray from buf_tail x l]
  have h2 := h.rot.setChan (l' := l) (cl' := true) (s' := s) (r' := r + 1)
  generalize w.setChan c cap (l.map byteV).toArray true s (r + 1) false = W2 at *
  walk_nrm
  have d1 := h2.r.cell (i := 1) rfl
  have g1 := h2.r.free (i := 1)
  have lb2 := h2.r.lt
  have h3 := h2.rot.set (i := 1) (v := .int .i64 ((n : Int) + 1))
  have hw : IntKind.i64.wrap ((n : Int) + 1) = (n : Int) + 1 := wrap_small _ (by omega) (by omega)
  have hx9 := x.toNat_lt
  have hw2 : IntKind.i64.wrap (x.toNat : Int) = (x.toNat : Int) := wrap_small _ (by omega) (by omega)
  have e2 : ((n + 1 : Nat) : Int) = (n : Int) + 1 := by omega
  refine LoneTo.goes (n := 50) ?_
  s_op
  s_op
  s_c stepG_region_end
  s_c stepG_block
  s_cond true
  s_c stepG_seq
  s_reg
  s_op
  s_op
  s_op
  s_op
  s_c stepG_region_end
  s_c stepG_seq
  s_reg
  s_op
  s_c stepG_region_end
  s_cond true
  s_c stepG_seq
  s_reg
  s_op
  s_op
  s_op
  s_op
  s_op
  s_op
  s_op
  s_op
  s_c stepG_region_end
  s_c stepG_seq
  s_reg
  s_op
  s_op
  s_op
  s_c stepG_region_end
  s_c stepG_ret'
  s_stop
  refine LoneTo.done ⟨.returned (.int .i64 x.toNat), _, rfl, ⟨rfl, ?_⟩, rfl, rfl, rfl, rfl, _, Try.func34, by simp [results, Try.f34, Frame.at]⟩
  refine ⟨s, r + 1, ?_⟩
  rw [e2]
  exact h3

set_option maxRecDepth 100000 in
theorem next_none {b c cap : Nat} {n : Nat} {lost : Bool} (h : FeedAt W A b c cap [] n lost w) :
    Calls Try.prog 34 #[.pointer (some ⟨b, 0, none⟩)] w fun e w' => e = .returned (.int .i64 0) ∧ FeedAt W A b c cap [] n true w' := by
  obtain ⟨s, r, h⟩ := h
  have c0 := h.cell (i := 0) rfl
  have c2 := h.cell (i := 2) rfl
  have hc := h.r.blk
  have lb := h.lt
  have fb := h.free (i := 2)
  refine calls_of_loneTo fun cs => ?_
  have e : Frame.enter Try.prog 34 #[.pointer (some ⟨b, 0, none⟩)] .normal = (base 34).at ⟨#[.pointer (some ⟨b, 0, none⟩), undef, undef, undef, undef, undef, undef, undef, undef, undef, undef, undef, undef, undef, undef, undef, undef, undef, undef, undef, undef, undef, undef, undef, undef, undef, undef], []⟩ [.code (Try.f34.body.getD .skip)] := by
    simp [Frame.enter, Frame.at, Try.func34, base, Try.f34]
  rw [e]
  refine LoneTo.goes (n := 40) ?_
  simp only [Try.f34, Option.getD_some]
  s_c stepG_seq
  s_reg
  s_op
  s_c stepG_region_end
  s_c stepG_seq
  s_c stepG_seq
  s_reg
  s_op
  s_op
  s_op
  s_op
  s_c stepG_region_end
  s_c stepG_seq
  s_reg
  s_stop
  refine LoneTo.step (step_lone_select_recv_shut (c := c) (z := .int .u8 0) (cap := cap) (s := s) (r := r) (tm := false) (stepG_comm (cases := #[rcase c (.int .u8 0)]) (blocking := false) (shape := .select) (w' := w) rfl rfl (by decide) (by simp [go_sem, execOp, rcase, Act.eval])) hc) ?_
  rw [Frame.finish_at]
  walk_nrm
  have h3 := h.set (i := 2) (v := .bool true)
  refine LoneTo.goes (n := 50) ?_
  s_op
  s_op
  s_c stepG_region_end
  s_c stepG_block
  s_cond true
  s_c stepG_seq
  s_reg
  s_op
  s_op
  s_op
  s_op
  s_c stepG_region_end
  s_c stepG_seq
  s_reg
  s_op
  s_c stepG_region_end
  s_cond false
  s_c stepG_skip
  s_c stepG_inBlock
  s_c stepG_seq
  s_reg
  s_op
  s_op
  s_op
  s_op
  s_c stepG_region_end
  s_c stepG_seq
  s_reg
  s_op
  s_c stepG_region_end
  s_c stepG_ret'
  s_stop
  refine LoneTo.done ⟨.returned (.int .i64 0), _, rfl, ⟨rfl, ?_⟩, rfl, rfl, rfl, rfl, _, Try.func34, by simp [results, Try.f34, Frame.at]⟩
  exact ⟨s, r, h3⟩

end Go.Proofs.Ytjeinldhbajknaa
