import Derived.Test.YtjeinldhbajknaaMA
import Derived.Test.YtjeinldhbajknaaMLA
/-
  What was read of a file, in memory. Conditions: those that each theorem names.
-/
namespace Go.Proofs.Ytjeinldhbajknaa
open Go.RowKit Go.Sp Go.Conc
variable {W w w' : World} {A : HProp}

/-- the part of the heap that nobody writes any more -/
def roH (m : Nat → Option Obj) : HProp := fun h => ∀ k, h k = m k
theorem _root_.Go.Sp.Sat.of_ro {m : Nat → Option Obj} {B : HProp} (h : Sat W (roH m * A) w) (hB : B m) : Sat W (B * A) w :=
  h.imp_l fun x hx => by rwa [show x = m from funext hx]
theorem _root_.Go.Sp.Sat.to_ro {B : HProp} (h : Sat W (B * A) w) : ∃ m, B m ∧ Sat W (roH m * A) w := by
  obtain ⟨h1, x, hx, a, r, hd, hu, hB, hr⟩ := h
  exact ⟨a, hB, h1, x, hx, a, r, hd, hu, fun k => rfl, hr⟩

/-- a font's definition -/
structure DefM where
  num : Int
  sum : Int
  scale : Int
  design : Int
  name : ByteArray
abbrev DefM.cells (d : DefM) : List Value := [.int .i64 d.num, .int .i64 d.sum, .int .i64 d.scale, .int .i64 d.design, .string d.name]
def DefM.val (d : DefM) : Value := .agg #[.int .i64 d.num, .int .i64 d.sum, .int .i64 d.scale, .int .i64 d.design, .string d.name]
abbrev Cmd.vals (o : Cmd) (va : Value) : List Value := [.int .i64 o.code, .int .i64 o.at_, va, .string ⟨o.text.toArray⟩]
def Cmd.val (o : Cmd) (va : Value) : Value := .agg #[.int .i64 o.code, .int .i64 o.at_, va, .string ⟨o.text.toArray⟩]
/-- the numbers of commands, each list for itself -/
def argsH : List (Cmd × Value) → HProp
  | [] => emp
  | x :: V => rowI x.2 x.1.args * argsH V
theorem argsH_snoc (V : List (Cmd × Value)) (x : Cmd × Value) : argsH (V ++ [x]) = rowI x.2 x.1.args * argsH V := by
  induction V with
  | nil => rfl
  | cons y V ih => simp only [List.cons_append, argsH, ih]; ac_rfl
theorem argsH_mem {V : List (Cmd × Value)} {x : Cmd × Value} (h : x ∈ V) : ∃ B, argsH V = rowI x.2 x.1.args * B := by
  induction V with
  | nil => cases h
  | cons y V ih =>
    rcases List.mem_cons.1 h with rfl | h
    · exact ⟨_, rfl⟩
    · obtain ⟨B, hB⟩ := ih h
      exact ⟨rowI y.2 y.1.args * B, by simp only [argsH, hB]; ac_rfl⟩
theorem _root_.Go.Sp.Sat.args_rd {m : Nat → Option Obj} {V : List (Cmd × Value)} {x : Cmd × Value} (h : Sat W (roH m * A) w) (hm : argsH V m) (hx : x ∈ V) : Rd w x.2 x.1.args.length 1 (intsL x.1.args) := by
  obtain ⟨B, hB⟩ := argsH_mem hx
  rw [hB] at hm
  exact Sat.rd (A := B * A) ((h.of_ro hm).of_eq (by ac_rfl))
def flatO (V : List (Cmd × Value)) : List Value := V.flatMap fun x => x.1.vals x.2
def flatD (l : List DefM) : List Value := l.flatMap DefM.cells

/-- what was read so far -/
structure FileM where
  ops : List Cmd
  fonts : Int → Option DefM
  nf : Nat
  again : List DefM
  told : Int → Option Int
  part : Int
  pages : Int
  last : Int
  stack : Int
  top : Int
  chosen : Int
  some_ : Bool
  post : Cmd
  bad : Bool
  keep : List (Cmd × Value)
abbrev fileO (ov : Value) (fb : Nat) (av : Value) (tb : Nat) (F : FileM) (pv : Value) : Obj := .cells #[ov, .map (some fb), av, .map (some tb), .int .i64 F.part, .int .i64 F.pages, .int .i64 F.last, .int .i64 F.stack, .int .i64 F.top, .int .i64 F.chosen, .bool F.some_,
  .int .i64 F.post.code, .int .i64 F.post.at_, pv, .string ⟨F.post.text.toArray⟩, .bool F.bad] 78
/-- the numbers of its end, in pv, are a command's, if there is one -/
def PostIn (V : List (Cmd × Value)) (F : FileM) (pv : Value) : Prop := (F.post, pv) ∈ V ∨ (F.post.args = [] ∧ pv = .slice none 0 0)
/-- it lies in block b -/
def FileAt (W : World) (A : HProp) (b : Nat) (F : FileM) (w : World) : Prop :=
  ∃ (m : Nat → Option Obj) (fb tb nt : Nat) (ov av pv : Value) (V : List (Cmd × Value)),
    (V.map Prod.fst = F.ops ∧ (argsH V m ∧ ∀ x ∈ F.keep, x ∈ V) ∧ PostIn V F pv) ∧
    Sat W (pts b (fileO ov fb av tb F pv) * (roH m * (row ov V.length 33 4 (flatO V) * (mapE (Value.int .i64) DefM.val fb F.nf F.fonts * (row av F.again.length 56 5 (flatD F.again) * (mapE (Value.int .i64) (Value.int .i64) tb nt F.told * A)))))) w

theorem FileAt.sat {b : Nat} {F : FileM} (h : FileAt W A b F w) : Sat W A w := by
  obtain ⟨m, fb, tb, nt, ov, av, pv, V, _, h⟩ := h
  exact h.r.r.r.r.r.r
theorem FileAt.focus {b : Nat} {F : FileM} (h : FileAt W A b F w) : ∃ Y : HProp, Sat W (A * Y) w ∧ ∀ (A' : HProp) (w' : World), Sat W (A' * Y) w' → FileAt W A' b F w' := by
  obtain ⟨m, fb, tb, nt, ov, av, pv, V, h1, h2⟩ := h
  exact ⟨pts b (fileO ov fb av tb F pv) * (roH m * (row ov V.length 33 4 (flatO V) * (mapE (Value.int .i64) DefM.val fb F.nf F.fonts * (row av F.again.length 56 5 (flatD F.again) * mapE (Value.int .i64) (Value.int .i64) tb nt F.told)))),
    h2.of_eq (by ac_rfl), fun A' w' h => ⟨m, fb, tb, nt, ov, av, pv, V, h1, h.of_eq (by ac_rfl)⟩⟩

def FileM.fail (F : FileM) (x : Bool) : FileM := if x then { F with bad := true } else F

set_option maxRecDepth 100000 in
theorem fail_any {b : Nat} {F : FileM} (x : Bool) (h : FileAt W A b F w) : Calls Try.prog 32 #[.pointer (some ⟨b, 0, none⟩), .bool x] w fun e w' => e = .returned (.tuple #[]) ∧ FileAt W A b (F.fail x) w' := by
  obtain ⟨m, fb, tb, nt, ov, av, pv, V, h1, h2⟩ := h
  have H2 := Lib.hid h2
  have c15 := h2.cell (i := 15) rfl
  have lb := h2.lt
  have f15 := h2.free (i := 15)
  have h3 := h2.set (i := 15) (v := .bool true)
  have H3 := Lib.hid h3
  have H1 := Lib.hid h1
  clear h2 h3 h1
  cases x with
  | true =>
    go_enter Try.func32, Try.ntmps32
    go_wp2
    exact ⟨rfl, .tuple #[], by unfold results; go_simp, rfl, m, fb, tb, nt, ov, av, pv, V, H1.out, H3.out⟩
  | false =>
    go_enter Try.func32, Try.ntmps32
    go_wp2
    exact ⟨rfl, .tuple #[], by unfold results; go_simp, rfl, m, fb, tb, nt, ov, av, pv, V, H1.out, H2.out⟩

end Go.Proofs.Ytjeinldhbajknaa

/-
  A font's definition, made of a command; a font is chosen. Conditions: those that each theorem names.
-/
namespace Go.Proofs.Ytjeinldhbajknaa
open Go.RowKit Go.Sp Go.Conc
variable {W w w' : World} {A : HProp}

def Cmd.def_ (o : Cmd) : DefM := ⟨o.args.getD 0 0, o.args.getD 1 0, o.args.getD 2 0, o.args.getD 3 0, ⟨o.text.toArray⟩⟩

set_option maxRecDepth 100000 in
set_option maxHeartbeats 4000000 in
theorem def_any (o : Cmd) (va : Value) (hl : 4 ≤ o.args.length) (hr : Rd w va o.args.length 1 (intsL o.args)) :
    Calls Try.prog 52 #[o.val va] w fun e w' => e = .returned o.def_.val ∧ Ext w w' := by
  obtain ⟨hr1, hr2, a, cap, hva, hat⟩ := hr
  subst hva
  obtain ⟨g, off, ha, v0⟩ := hat 0 (.int .i64 (o.args.getD 0 0)) (by simp [List.getD]; rw [List.getElem?_eq_getElem (by omega)]; rfl)
  subst ha
  obtain ⟨g1, off1, ha, v1⟩ := hat 1 (.int .i64 (o.args.getD 1 0)) (by simp [List.getD]; rw [List.getElem?_eq_getElem (by omega)]; rfl)
  cases ha
  obtain ⟨g1, off1, ha, v2⟩ := hat 2 (.int .i64 (o.args.getD 2 0)) (by simp [List.getD]; rw [List.getElem?_eq_getElem (by omega)]; rfl)
  cases ha
  obtain ⟨g1, off1, ha, v3⟩ := hat 3 (.int .i64 (o.args.getD 3 0)) (by simp [List.getD]; rw [List.getElem?_eq_getElem (by omega)]; rfl)
  cases ha
  rw [Nat.add_zero] at v0
  have hs := ((Sat.start w).alloc (.cells #[.int .i64 o.code, .int .i64 o.at_, .slice (some ⟨g, off, none⟩) o.args.length cap, .string ⟨o.text.toArray⟩] 33)).alloc (.cells #[.int .i64 0, .int .i64 0, .int .i64 0, .int .i64 0, .string ⟨#[]⟩] 56)
  rw [show (w.alloc (.cells #[.int .i64 o.code, .int .i64 o.at_, .slice (some ⟨g, off, none⟩) o.args.length cap, .string ⟨o.text.toArray⟩] 33)).heap.size = w.heap.size + 1 by simp] at hs
  obtain ⟨bz, hbz⟩ : ∃ bz, w.heap.size = bz := ⟨_, rfl⟩
  rw [hbz] at hs
  have HS := Lib.hid (hs.of_eq (show _ = pts (bz + 1) (.cells #[.int .i64 0, .int .i64 0, .int .i64 0, .int .i64 0, .string ⟨#[]⟩] 56) * (pts bz (.cells #[.int .i64 o.code, .int .i64 o.at_, .slice (some ⟨g, off, none⟩) o.args.length cap, .string ⟨o.text.toArray⟩] 33) * own w) by ac_rfl)).drew
  have hx0 : o.def_ = ⟨o.args.getD 0 0, o.args.getD 1 0, o.args.getD 2 0, o.args.getD 3 0, ⟨o.text.toArray⟩⟩ := rfl
  rw [hx0]
  unfold DefM.val Cmd.val
  simp only
  obtain ⟨n, hn⟩ : ∃ n, o.args.length = n := ⟨_, rfl⟩
  have h0 : 0 < n := by omega
  have h1 : 1 < n := by omega
  have h2 : 2 < n := by omega
  have h3 : 3 < n := by omega
  have i0 : (0 : Int) < (n : Int) := by omega
  have i1 : (1 : Int) < (n : Int) := by omega
  have i2 : (2 : Int) < (n : Int) := by omega
  have i3 : (3 : Int) < (n : Int) := by omega
  rw [hn] at HS
  rw [hn]
  generalize o.args.getD 0 0 = x0 at *
  generalize o.args.getD 1 0 = x1 at *
  generalize o.args.getD 2 0 = x2 at *
  generalize o.args.getD 3 0 = x3 at *
  generalize (⟨o.text.toArray⟩ : ByteArray) = tx at *
  have V0 := Lib.hid v0
  have V1 := Lib.hid v1
  have V2 := Lib.hid v2
  have V3 := Lib.hid v3
  clear hat hr1 hr2 hs hl hn v0 v1 v2 v3
  go_enter Try.func52, Try.ntmps52
  go_upto_region 1 with fail
  generalize ((w.alloc _).alloc _) = W1 at *
  obtain ⟨C, hC⟩ : ∃ C : World → Prop, C = fun w' => Sat w (pts (bz + 1) (.cells #[.int .i64 0, .int .i64 0, .int .i64 0, .int .i64 0, .string ⟨#[]⟩] 56) * (pts bz (.cells #[.int .i64 o.code, .int .i64 o.at_, .slice (some ⟨g, off, none⟩) n cap, .string tx] 33) * own w)) w' := ⟨_, rfl⟩
  have HC := Lib.hid (show ∀ w', C w' → w'.cell? ⟨bz, 2, none⟩ = some (.slice (some ⟨g, off, none⟩) n cap) ∧ w'.cell? ⟨bz, 3, none⟩ = some (.string tx) ∧ w'.cell? ⟨g, off, none⟩ = some (.int .i64 x0) ∧ w'.cell? ⟨g, off + 1, none⟩ = some (.int .i64 x1) ∧ w'.cell? ⟨g, off + 2, none⟩ = some (.int .i64 x2) ∧ w'.cell? ⟨g, off + 3, none⟩ = some (.int .i64 x3) from fun w' h => by
    rw [hC] at h
    exact ⟨h.r.cell rfl, h.r.cell rfl, h.r.r.toExt.cell V0.out, h.r.r.toExt.cell V1.out, h.r.r.toExt.cell V2.out, h.r.r.toExt.cell V3.out⟩)
  have hCw : C W1.drew := by rw [hC]; exact HS.out
  have HCW := Lib.hid hCw
  clear hC hCw
  refine wp_region_E C (by kernel_rfl) ?_
  generalize W1.drew = W2 at *
  refine wpE_take (i := 0) (q := 1) (v := ?_) rfl (by kernel_rfl) (by kernel_rfl) (by kernel_rfl) (by kernel_rfl) (by kernel_rfl) (fun _ _ _ h => h) (by kernel_rfl) ?_ ?_
  rotate_left 1
  · intro w hw; obtain ⟨q1, q2, q3, q4, q5, q6⟩ := HC.out _ hw; go_simp; try with_reducible rfl
  refine wpE_take (i := 1) (q := 2) (v := ?_) rfl (by kernel_rfl) (by kernel_rfl) (by kernel_rfl) (by kernel_rfl) (by kernel_rfl) (fun _ _ _ h => h) (by kernel_rfl) ?_ ?_
  rotate_left 1
  · intro w hw; obtain ⟨q1, q2, q3, q4, q5, q6⟩ := HC.out _ hw; go_simp; try with_reducible rfl
  refine wpE_take (i := 2) (q := 3) (v := ?_) rfl (by kernel_rfl) (by kernel_rfl) (by kernel_rfl) (by kernel_rfl) (by kernel_rfl) (fun _ _ _ h => h) (by kernel_rfl) ?_ ?_
  rotate_left 1
  · intro w hw; obtain ⟨q1, q2, q3, q4, q5, q6⟩ := HC.out _ hw; go_simp; try with_reducible rfl
  refine wpE_take (i := 3) (q := 18) (v := ?_) rfl (by kernel_rfl) (by kernel_rfl) (by kernel_rfl) (by kernel_rfl) (by kernel_rfl) (fun _ _ _ h => h) (by kernel_rfl) ?_ ?_
  rotate_left 1
  · intro w hw; obtain ⟨q1, q2, q3, q4, q5, q6⟩ := HC.out _ hw; go_simp; try with_reducible rfl
  refine wpE_take (i := 4) (q := 5) (v := ?_) rfl (by kernel_rfl) (by kernel_rfl) (by kernel_rfl) (by kernel_rfl) (by kernel_rfl) (fun _ _ _ h => h) (by kernel_rfl) ?_ ?_
  rotate_left 1
  · intro w hw; obtain ⟨q1, q2, q3, q4, q5, q6⟩ := HC.out _ hw; go_simp; try with_reducible rfl
  refine wpE_take (i := 5) (q := 6) (v := ?_) rfl (by kernel_rfl) (by kernel_rfl) (by kernel_rfl) (by kernel_rfl) (by kernel_rfl) (fun _ _ _ h => h) (by kernel_rfl) ?_ ?_
  rotate_left 1
  · intro w hw; obtain ⟨q1, q2, q3, q4, q5, q6⟩ := HC.out _ hw; go_simp; try with_reducible rfl
  refine wpE_take (i := 6) (q := 7) (v := ?_) rfl (by kernel_rfl) (by kernel_rfl) (by kernel_rfl) (by kernel_rfl) (by kernel_rfl) (fun _ _ _ h => h) (by kernel_rfl) ?_ ?_
  rotate_left 1
  · intro w hw; obtain ⟨q1, q2, q3, q4, q5, q6⟩ := HC.out _ hw; go_simp; try with_reducible rfl
  refine wpE_take (i := 7) (q := 18) (v := ?_) rfl (by kernel_rfl) (by kernel_rfl) (by kernel_rfl) (by kernel_rfl) (by kernel_rfl) (fun _ _ _ h => h) (by kernel_rfl) ?_ ?_
  rotate_left 1
  · intro w hw; obtain ⟨q1, q2, q3, q4, q5, q6⟩ := HC.out _ hw; go_simp; try with_reducible rfl
  refine wpE_take (i := 8) (q := 9) (v := ?_) rfl (by kernel_rfl) (by kernel_rfl) (by kernel_rfl) (by kernel_rfl) (by kernel_rfl) (fun _ _ _ h => h) (by kernel_rfl) ?_ ?_
  rotate_left 1
  · intro w hw; obtain ⟨q1, q2, q3, q4, q5, q6⟩ := HC.out _ hw; go_simp; try with_reducible rfl
  refine wpE_take (i := 9) (q := 10) (v := ?_) rfl (by kernel_rfl) (by kernel_rfl) (by kernel_rfl) (by kernel_rfl) (by kernel_rfl) (fun _ _ _ h => h) (by kernel_rfl) ?_ ?_
  rotate_left 1
  · intro w hw; obtain ⟨q1, q2, q3, q4, q5, q6⟩ := HC.out _ hw; go_simp; try with_reducible rfl
  refine wpE_take (i := 10) (q := 11) (v := ?_) rfl (by kernel_rfl) (by kernel_rfl) (by kernel_rfl) (by kernel_rfl) (by kernel_rfl) (fun _ _ _ h => h) (by kernel_rfl) ?_ ?_
  rotate_left 1
  · intro w hw; obtain ⟨q1, q2, q3, q4, q5, q6⟩ := HC.out _ hw; go_simp; try with_reducible rfl
  refine wpE_take (i := 11) (q := 18) (v := ?_) rfl (by kernel_rfl) (by kernel_rfl) (by kernel_rfl) (by kernel_rfl) (by kernel_rfl) (fun _ _ _ h => h) (by kernel_rfl) ?_ ?_
  rotate_left 1
  · intro w hw; obtain ⟨q1, q2, q3, q4, q5, q6⟩ := HC.out _ hw; go_simp; try with_reducible rfl
  refine wpE_take (i := 12) (q := 13) (v := ?_) rfl (by kernel_rfl) (by kernel_rfl) (by kernel_rfl) (by kernel_rfl) (by kernel_rfl) (fun _ _ _ h => h) (by kernel_rfl) ?_ ?_
  rotate_left 1
  · intro w hw; obtain ⟨q1, q2, q3, q4, q5, q6⟩ := HC.out _ hw; go_simp; try with_reducible rfl
  refine wpE_take (i := 13) (q := 14) (v := ?_) rfl (by kernel_rfl) (by kernel_rfl) (by kernel_rfl) (by kernel_rfl) (by kernel_rfl) (fun _ _ _ h => h) (by kernel_rfl) ?_ ?_
  rotate_left 1
  · intro w hw; obtain ⟨q1, q2, q3, q4, q5, q6⟩ := HC.out _ hw; go_simp; try with_reducible rfl
  refine wpE_take (i := 14) (q := 15) (v := ?_) rfl (by kernel_rfl) (by kernel_rfl) (by kernel_rfl) (by kernel_rfl) (by kernel_rfl) (fun _ _ _ h => h) (by kernel_rfl) ?_ ?_
  rotate_left 1
  · intro w hw; obtain ⟨q1, q2, q3, q4, q5, q6⟩ := HC.out _ hw; go_simp; try with_reducible rfl
  refine wpE_take (i := 15) (q := 18) (v := ?_) rfl (by kernel_rfl) (by kernel_rfl) (by kernel_rfl) (by kernel_rfl) (by kernel_rfl) (fun _ _ _ h => h) (by kernel_rfl) ?_ ?_
  rotate_left 1
  · intro w hw; obtain ⟨q1, q2, q3, q4, q5, q6⟩ := HC.out _ hw; go_simp; try with_reducible rfl
  refine wpE_take (i := 16) (q := 17) (v := ?_) rfl (by kernel_rfl) (by kernel_rfl) (by kernel_rfl) (by kernel_rfl) (by kernel_rfl) (fun _ _ _ h => h) (by kernel_rfl) ?_ ?_
  rotate_left 1
  · intro w hw; obtain ⟨q1, q2, q3, q4, q5, q6⟩ := HC.out _ hw; go_simp; try with_reducible rfl
  refine wpE_take (i := 17) (q := 18) (v := ?_) rfl (by kernel_rfl) (by kernel_rfl) (by kernel_rfl) (by kernel_rfl) (by kernel_rfl) (fun _ _ _ h => h) (by kernel_rfl) ?_ ?_
  rotate_left 1
  · intro w hw; obtain ⟨q1, q2, q3, q4, q5, q6⟩ := HC.out _ hw; go_simp; try with_reducible rfl
  refine wpE_take (i := 18) (q := 19) (v := ?_) rfl (by kernel_rfl) (by kernel_rfl) (by kernel_rfl) (by kernel_rfl) (by kernel_rfl) (fun _ _ _ h => h) (by kernel_rfl) ?_ ?_
  rotate_left 1
  · intro w hw; obtain ⟨q1, q2, q3, q4, q5, q6⟩ := HC.out _ hw; go_simp; try with_reducible rfl
  have y0 := HS.out.cell (i := 0) rfl
  have y1 := HS.out.cell (i := 1) rfl
  have y2 := HS.out.cell (i := 2) rfl
  have y3 := HS.out.cell (i := 3) rfl
  have y4 := HS.out.cell (i := 4) rfl
  have z0 := HS.out.free (i := 0)
  have z1 := HS.out.free (i := 1)
  have z2 := HS.out.free (i := 2)
  have z3 := HS.out.free (i := 3)
  have z4 := HS.out.free (i := 4)
  have zl := HS.out.lt
  have h9 := ((((HS.out.set (i := 0) (v := .int .i64 x0)).set (i := 1) (v := .int .i64 x1)).set (i := 2) (v := .int .i64 x2)).set (i := 3) (v := .int .i64 x3)).set (i := 4) (v := .string tx)
  have u0 := h9.cell (i := 0) rfl
  have H9 := Lib.hid h9
  clear h9 u0
  refine wpE_one (i := 19) rfl (by kernel_rfl) (HCW.out) (fun K hK => ?_)
  go_simp
  refine hK _ _ ?_
  clear hK K
  refine wpE_done (by kernel_rfl) (by kernel_rfl) ?_
  go_wp2
  (try simp only [Exit.inBlock, Exit.then])
  refine bodyPost_ret (v := .agg #[.int .i64 x0, .int .i64 x1, .int .i64 x2, .int .i64 x3, .string tx]) (by unfold results; go_simp) rfl ?_
  exact ⟨rfl, H9.out.r.r.toExt⟩

end Go.Proofs.Ytjeinldhbajknaa

/-
  A font is chosen. Conditions: those that each theorem names.
-/
namespace Go.Proofs.Ytjeinldhbajknaa
open Go.RowKit Go.Sp Go.Conc
variable {W w w' : World} {A : HProp}

theorem FileAt.allocD {b : Nat} {F : FileM} (h : FileAt W A b F w) {o : Obj} : FileAt W A b F (w.alloc o) := by
  obtain ⟨Y, h1, back⟩ := h.focus
  exact back _ _ h1.allocD
theorem FileAt.drewD {b : Nat} {F : FileM} (h : FileAt W A b F w) : FileAt W A b F w.drew := by
  obtain ⟨Y, h1, back⟩ := h.focus
  exact back _ _ h1.drew
theorem FileAt.ext {b : Nat} {F : FileM} (h : FileAt W A b F w) (k : Ext w w') : FileAt W A b F w' := by
  obtain ⟨Y, h1, back⟩ := h.focus
  exact back _ _ (h1.ext k)
theorem FileAt.allocX {b : Nat} {F : FileM} (h : FileAt W A b F w) (o : Obj) : FileAt W (pts w.heap.size o * A) b F (w.alloc o) := by
  obtain ⟨Y, h1, back⟩ := h.focus
  exact back _ _ ((h1.alloc o).asc')
theorem FileAt.less {B : HProp} {b : Nat} {F : FileM} (h : FileAt W (B * A) b F w) : FileAt W A b F w := by
  obtain ⟨Y, h1, back⟩ := h.focus
  exact back _ _ (h1.asc.r)

def zeroD : DefM := ⟨0, 0, 0, 0, ⟨#[]⟩⟩
theorem zero_def (w : World) : (zeroValue 56).run Try.prog w = .ok zeroD.val w := by kernel_rfl
theorem keyI : KeyT Try.prog 3 (Value.int .i64) := keyT_int Try.underlying3
/-- what the fonts tell of a number -/
theorem font_look {b : Nat} {F : FileM} {m : Nat → Option Obj} {fb tb nt : Nat} {ov av pv : Value} {V : List (Cmd × Value)}
    (h : Sat W (pts b (fileO ov fb av tb F pv) * (roH m * (row ov V.length 33 4 (flatO V) * (mapE (Value.int .i64) DefM.val fb F.nf F.fonts * (row av F.again.length 56 5 (flatD F.again) * (mapE (Value.int .i64) (Value.int .i64) tb nt F.told * A)))))) w) (n : Int) :
    (Instr.lookup 75 (.map (some fb)) (.int .i64 n) true).run Try.prog w = .ok (.tuple #[((F.fonts n).getD zeroD).val, .bool (F.fonts n).isSome]) w := by
  have := (h.r.r.r.mapE_weak).map_look (mt := 75) keyI Try.underlying75 zero_def n true
  rw [this]
  cases F.fonts n <;> rfl

def FileM.choose (F : FileM) (n : Int) : FileM := { F.fail (!(F.fonts n).isSome) with chosen := n, some_ := true }

set_option maxRecDepth 100000 in
set_option maxHeartbeats 4000000 in
theorem choose_any {b : Nat} {F : FileM} (n : Int) (h : FileAt W A b F w) : Calls Try.prog 50 #[.pointer (some ⟨b, 0, none⟩), .int .i64 n] w fun e w' => e = .returned (.tuple #[]) ∧ FileAt W A b (F.choose n) w' := by
  have H := Lib.hid h
  obtain ⟨m, fb, tb, nt, ov, av, pv, V, h1, h2⟩ := h
  have hlk := font_look h2 n
  have c1 := h2.cell (i := 1) rfl
  have lb := h2.lt
  have e0 : F.choose n = { F.fail (!(F.fonts n).isSome) with chosen := n, some_ := true } := rfl
  rw [e0]
  obtain ⟨x, hx⟩ : ∃ x, (F.fonts n).isSome = x := ⟨_, rfl⟩
  obtain ⟨d, hd⟩ : ∃ d, (F.fonts n).getD zeroD = d := ⟨_, rfl⟩
  rw [hx, hd] at hlk
  rw [hx]
  obtain ⟨d1, d2, d3, d4, d5⟩ := d
  unfold DefM.val at hlk
  simp only at hlk
  have HF := Lib.hid (fail_any (!x) (H.out.allocD (o := .cells #[.int .i64 d1, .int .i64 d2, .int .i64 d3, .int .i64 d4, .string d5] 56)))
  obtain ⟨F2, hF2⟩ : ∃ F2, F.fail (!x) = F2 := ⟨_, rfl⟩
  rw [hF2] at HF
  rw [hF2]
  clear h1 h2 hx hd e0 hF2 H
  go_enter Try.func50, Try.ntmps50
  go_wp2_with fail
  refine Calls.mono HF.out ?_
  rintro e w3 ⟨rfl, h3⟩
  obtain ⟨m', fb', tb', nt', ov', av', pv', V', h4, h5⟩ := h3
  have c9 := h5.cell (i := 9) rfl
  have c10 := h5.cell (i := 10) rfl
  have f9 := h5.free (i := 9)
  have f10 := h5.free (i := 10)
  have l5 := h5.lt
  have h6 := (h5.set (i := 9) (v := .int .i64 n)).set (i := 10) (v := .bool true)
  have H6 := Lib.hid h6
  have H4 := Lib.hid h4
  clear h4 h5 h6 HF hlk c1 lb
  go_wp2
  exact ⟨rfl, .tuple #[], by unfold results; go_simp, rfl, m', fb', tb', nt', ov', av', pv', V', H4.out, H6.out⟩

end Go.Proofs.Ytjeinldhbajknaa
