
/-
  What was read of a file, in memory. Conditions: those that each theorem names.
-/
import Derived.Test.YtjeinldhbajknaaDvM
import Derived.Test.YtjeinldhbajknaaMapE
namespace Go.Proofs.Ytjeinldhbajknaa
open Go.RowKit Go.Sp Go.Conc
variable {W w w' : World} {A : HProp}

/-- the part of the heap that nobody writes any more -/
def roH (m : Nat → Option Obj) : HProp := fun h => ∀ k, h k = m k
theorem _root_.Go.Sp.Sat.of_ro {m : Nat → Option Obj} {B : HProp} (h : Sat W (roH m * A) w) (hB : B m) : Sat W (B * A) w :=
  h.imp_l fun x hx => by rwa [show x = m from funext hx]
theorem _root_.Go.Sp.Sat.to_ro {B : HProp} (h : Sat W (B * A) w) : ∃ m, B m ∧ Sat W (roH m * A) w := by
  obtain ⟨h1, x, hx, a, r, hd, hu, hB, hr⟩ := h
  exact ⟨a, hB, h1, x, hx, a, r, hd, hu, fun k => rfl, hr⟩

/-- a font's definition -/
structure DefM where
  num : Int
  sum : Int
  scale : Int
  design : Int
  name : ByteArray
abbrev DefM.cells (d : DefM) : List Value := [.int .i64 d.num, .int .i64 d.sum, .int .i64 d.scale, .int .i64 d.design, .string d.name]
def DefM.val (d : DefM) : Value := .agg #[.int .i64 d.num, .int .i64 d.sum, .int .i64 d.scale, .int .i64 d.design, .string d.name]
abbrev Cmd.vals (o : Cmd) (va : Value) : List Value := [.int .i64 o.code, .int .i64 o.at_, va, .string ⟨o.text.toArray⟩]
def Cmd.val (o : Cmd) (va : Value) : Value := .agg #[.int .i64 o.code, .int .i64 o.at_, va, .string ⟨o.text.toArray⟩]
/-- the numbers of commands, each list for itself -/
def argsH : List (Cmd × Value) → HProp
  | [] => emp
  | x :: V => rowI x.2 x.1.args * argsH V
theorem argsH_snoc (V : List (Cmd × Value)) (x : Cmd × Value) : argsH (V ++ [x]) = rowI x.2 x.1.args * argsH V := by
  induction V with
  | nil => rfl
  | cons y V ih => simp only [List.cons_append, argsH, ih]; ac_rfl
theorem argsH_mem {V : List (Cmd × Value)} {x : Cmd × Value} (h : x ∈ V) : ∃ B, argsH V = rowI x.2 x.1.args * B := by
  induction V with
  | nil => cases h
  | cons y V ih =>
    rcases List.mem_cons.1 h with rfl | h
    · exact ⟨_, rfl⟩
    · obtain ⟨B, hB⟩ := ih h
      exact ⟨rowI y.2 y.1.args * B, by simp only [argsH, hB]; ac_rfl⟩
theorem _root_.Go.Sp.Sat.args_rd {m : Nat → Option Obj} {V : List (Cmd × Value)} {x : Cmd × Value} (h : Sat W (roH m * A) w) (hm : argsH V m) (hx : x ∈ V) : Rd w x.2 x.1.args.length 1 (intsL x.1.args) := by
  obtain ⟨B, hB⟩ := argsH_mem hx
  rw [hB] at hm
  exact Sat.rd (A := B * A) ((h.of_ro hm).of_eq (by ac_rfl))
def flatO (V : List (Cmd × Value)) : List Value := V.flatMap fun x => x.1.vals x.2
def flatD (l : List DefM) : List Value := l.flatMap DefM.cells

/-- what was read so far -/
structure FileM where
  ops : List Cmd
  fonts : Int → Option DefM
  nf : Nat
  again : List DefM
  told : Int → Option Int
  part : Int
  pages : Int
  last : Int
  stack : Int
  top : Int
  chosen : Int
  some_ : Bool
  post : Cmd
  bad : Bool
  keep : List (Cmd × Value)
abbrev fileO (ov : Value) (fb : Nat) (av : Value) (tb : Nat) (F : FileM) (pv : Value) : Obj := .cells #[ov, .map (some fb), av, .map (some tb), .int .i64 F.part, .int .i64 F.pages, .int .i64 F.last, .int .i64 F.stack, .int .i64 F.top, .int .i64 F.chosen, .bool F.some_,
  .int .i64 F.post.code, .int .i64 F.post.at_, pv, .string ⟨F.post.text.toArray⟩, .bool F.bad] 78
/-- the numbers of its end, in pv, are a command's, if there is one -/
def PostIn (V : List (Cmd × Value)) (F : FileM) (pv : Value) : Prop := (F.post, pv) ∈ V ∨ (F.post.args = [] ∧ pv = .slice none 0 0)
/-- it lies in block b -/
def FileAt (W : World) (A : HProp) (b : Nat) (F : FileM) (w : World) : Prop :=
  ∃ (m : Nat → Option Obj) (fb tb nt : Nat) (ov av pv : Value) (V : List (Cmd × Value)),
    (V.map Prod.fst = F.ops ∧ (argsH V m ∧ ∀ x ∈ F.keep, x ∈ V) ∧ PostIn V F pv) ∧
    Sat W (pts b (fileO ov fb av tb F pv) * (roH m * (row ov V.length 33 4 (flatO V) * (mapE (Value.int .i64) DefM.val fb F.nf F.fonts * (row av F.again.length 56 5 (flatD F.again) * (mapE (Value.int .i64) (Value.int .i64) tb nt F.told * A)))))) w

theorem FileAt.sat {b : Nat} {F : FileM} (h : FileAt W A b F w) : Sat W A w := by
  obtain ⟨m, fb, tb, nt, ov, av, pv, V, _, h⟩ := h
  exact h.r.r.r.r.r.r
theorem FileAt.focus {b : Nat} {F : FileM} (h : FileAt W A b F w) : ∃ Y : HProp, Sat W (A * Y) w ∧ ∀ (A' : HProp) (w' : World), Sat W (A' * Y) w' → FileAt W A' b F w' := by
  obtain ⟨m, fb, tb, nt, ov, av, pv, V, h1, h2⟩ := h
  exact ⟨pts b (fileO ov fb av tb F pv) * (roH m * (row ov V.length 33 4 (flatO V) * (mapE (Value.int .i64) DefM.val fb F.nf F.fonts * (row av F.again.length 56 5 (flatD F.again) * mapE (Value.int .i64) (Value.int .i64) tb nt F.told)))),
    h2.of_eq (by ac_rfl), fun A' w' h => ⟨m, fb, tb, nt, ov, av, pv, V, h1, h.of_eq (by ac_rfl)⟩⟩

def FileM.fail (F : FileM) (x : Bool) : FileM := if x then { F with bad := true } else F

set_option maxRecDepth 100000 in
theorem fail_any {b : Nat} {F : FileM} (x : Bool) (h : FileAt W A b F w) : Calls Try.prog 32 #[.pointer (some ⟨b, 0, none⟩), .bool x] w fun e w' => e = .returned (.tuple #[]) ∧ FileAt W A b (F.fail x) w' := by
  obtain ⟨m, fb, tb, nt, ov, av, pv, V, h1, h2⟩ := h
  have H2 := Lib.hid h2
  have c15 := h2.cell (i := 15) rfl
  have lb := h2.lt
  have f15 := h2.free (i := 15)
  have h3 := h2.set (i := 15) (v := .bool true)
  have H3 := Lib.hid h3
  have H1 := Lib.hid h1
  clear h2 h3 h1
  cases x with
  | true =>
    go_enter Try.func32, Try.ntmps32
    go_wp2
    exact ⟨rfl, .tuple #[], by unfold results; go_simp, rfl, m, fb, tb, nt, ov, av, pv, V, H1.out, H3.out⟩
  | false =>
    go_enter Try.func32, Try.ntmps32
    go_wp2
    exact ⟨rfl, .tuple #[], by unfold results; go_simp, rfl, m, fb, tb, nt, ov, av, pv, V, H1.out, H2.out⟩

end Go.Proofs.Ytjeinldhbajknaa
