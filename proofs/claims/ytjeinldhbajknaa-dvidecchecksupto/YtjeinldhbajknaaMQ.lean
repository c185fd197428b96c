import Derived.Test.YtjeinldhbajknaaMO
/-
  A file, read command by command, as a value. Conditions: none.
-/
namespace Go.Proofs.Ytjeinldhbajknaa
open Go.RowKit Go.Sp Go.Conc

theorem fail_eq (F : FileM) (x : Bool) : F.fail x = { F with bad := F.bad || x } := by
  unfold FileM.fail
  cases x <;> simp

/-- a command within a page -/
noncomputable def FileM.inside (F : FileM) (o : Cmd) : FileM :=
  if o.code ≤ 131 then F.fail (!F.some_)
  else if o.code = 132 then F
  else if o.code ≤ 136 then F.fail (!F.some_)
  else if o.code ≤ 138 then F
  else if o.code = 139 then { F with bad := true }
  else if o.code = 140 then { F.fail (!(F.stack == 0)) with part := 0 }
  else if o.code = 141 then { F with stack := F.stack + 1, top := if F.top < F.stack + 1 then F.stack + 1 else F.top }
  else if o.code = 142 then ({ F with stack := F.stack - 1 } : FileM).fail (decide (F.stack - 1 < 0))
  else if o.code ≤ 170 then F
  else if o.code ≤ 234 then F.choose ((o.code : Int) - 171)
  else if o.code ≤ 238 then F.choose (o.args.getD 0 0)
  else if o.code ≤ 242 then F
  else if o.code ≤ 246 then F.define o.def_
  else { F with bad := true }
/-- a command between pages, or behind the end's beginning -/
noncomputable def FileM.outside (F : FileM) (o : Cmd) : FileM :=
  if o.code = 138 then F
  else if 243 ≤ o.code ∧ o.code ≤ 246 then F.define o.def_
  else if F.part = 0 ∧ o.code = 139 then { F.fail (!(o.args.getD 10 0 == F.last)) with last := o.at_, part := 1, stack := 0, some_ := false, pages := F.pages + 1 }
  else if F.part = 0 ∧ o.code = 248 then { F with part := 2, post := o }
  else { F with bad := true }

/-- what holds of a file of so many commands -/
structure FileM.Fits (F : FileM) (n : Nat) : Prop where
  stack : -(n : Int) ≤ F.stack ∧ F.stack ≤ n
  pages : 0 ≤ F.pages ∧ F.pages ≤ n
  again : F.again.length ≤ n
  told : ∀ k, 0 ≤ (F.told k).getD 0 ∧ (F.told k).getD 0 ≤ n
  part : F.part = 0 ∨ F.part = 1 ∨ F.part = 2
  post : F.part = 2 → F.post.args.length = 8
def Cmd.Wf (o : Cmd) : Prop := o.args.length = (sizesM o.code).length ∧ o.code ≤ 255
theorem cmd_wf (f : Fd) : f.cmd.1.Wf := by
  refine ⟨?_, ?_⟩
  · unfold Fd.cmd
    simp only
    rw [args_len]
    simp
  · have := f.next_lt
    unfold Fd.cmd
    simp only
    omega
theorem FileM.Fits.le {F : FileM} {n m : Nat} (h : F.Fits n) (hm : n ≤ m) : F.Fits m :=
  ⟨⟨by have := h.stack; omega, by have := h.stack; omega⟩, ⟨h.pages.1, by have := h.pages; omega⟩, by have := h.again; omega, fun k => ⟨(h.told k).1, by have := h.told k; omega⟩, h.part, h.post⟩
theorem FileM.Fits.bads {F : FileM} {n : Nat} (h : F.Fits n) (x : Bool) : ({ F with bad := x } : FileM).Fits n := ⟨h.stack, h.pages, h.again, h.told, h.part, h.post⟩
theorem FileM.Fits.fail {F : FileM} {n : Nat} (h : F.Fits n) (x : Bool) : (F.fail x).Fits n := by rw [fail_eq]; exact h.bads _
theorem FileM.Fits.choose {F : FileM} {n : Nat} (h : F.Fits n) (x : Int) : (F.choose x).Fits n := by
  unfold FileM.choose
  rw [fail_eq]
  exact ⟨h.stack, h.pages, h.again, h.told, h.part, h.post⟩
theorem FileM.Fits.define {F : FileM} {n : Nat} (h : F.Fits n) (d : DefM) : (F.define d).Fits (n + 1) := by
  have h2 := h.le (Nat.le_succ n)
  unfold FileM.define
  simp only [fail_eq]
  split
  · refine ⟨h2.stack, h2.pages, ?_, ?_, h.part, h.post⟩
    · have := h.again
      simp only [List.length_append, List.length_singleton]; omega
    · intro k
      have h3 := h.told d.num
      have h4 := h2.told k
      unfold FileM.known mput
      simp only
      split
      · simp only [Option.getD_some]; omega
      · exact h4
  · exact ⟨h2.stack, h2.pages, h2.again, h2.told, h2.part, h2.post⟩
theorem ite_fits {c : Prop} [Decidable c] {F G : FileM} {n : Nat} (h1 : F.Fits n) (h2 : G.Fits n) : (if c then F else G).Fits n := by
  split
  · exact h1
  · exact h2
theorem FileM.Fits.inside {F : FileM} {n : Nat} (h : F.Fits n) (o : Cmd) : (F.inside o).Fits (n + 1) := by
  have h2 := h.le (Nat.le_succ n)
  have hs := h.stack
  unfold FileM.inside
  refine ite_fits (h2.fail _) ?_
  refine ite_fits h2 ?_
  refine ite_fits (h2.fail _) ?_
  refine ite_fits h2 ?_
  refine ite_fits (h2.bads _) ?_
  refine ite_fits ?_ ?_
  · rw [fail_eq]; exact ⟨h2.stack, h2.pages, h2.again, h2.told, .inl rfl, fun h => by cases h⟩
  refine ite_fits ?_ ?_
  · exact ⟨⟨by simp only; omega, by simp only; omega⟩, h2.pages, h2.again, h2.told, h2.part, h2.post⟩
  refine ite_fits ?_ ?_
  · refine FileM.Fits.fail ?_ _
    exact ⟨⟨by simp only; omega, by simp only; omega⟩, h2.pages, h2.again, h2.told, h2.part, h2.post⟩
  refine ite_fits h2 ?_
  refine ite_fits (h2.choose _) ?_
  refine ite_fits (h2.choose _) ?_
  refine ite_fits h2 ?_
  exact ite_fits (h.define _) (h2.bads _)
theorem FileM.Fits.outside {F : FileM} {n : Nat} (h : F.Fits n) (o : Cmd) (hw : o.Wf) : (F.outside o).Fits (n + 1) := by
  have h2 := h.le (Nat.le_succ n)
  have hp := h.pages
  unfold FileM.outside
  repeat' split
  all_goals first
    | exact h2
    | exact h2.bads _
    | exact h.define _
    | skip
  · rw [fail_eq]; exact ⟨⟨by simp only; omega, by simp only; omega⟩, ⟨by simp only; omega, by simp only; omega⟩, h2.again, h2.told, .inr (.inl rfl), fun h => by cases h⟩
  · rename_i hc
    refine ⟨h2.stack, h2.pages, h2.again, h2.told, .inr (.inr rfl), fun _ => ?_⟩
    simp only
    rw [hw.1, hc.2]
    rfl

theorem define_keep (F : FileM) (d : DefM) : (F.define d).keep = F.keep ∧ (F.define d).ops = F.ops ∧ (F.define d).post = F.post ∧ (F.define d).part = F.part := by
  unfold FileM.define
  simp only [fail_eq]
  split <;> exact ⟨rfl, rfl, rfl, rfl⟩
theorem ite_keep {c : Prop} [Decidable c] {F G H : FileM} (h1 : F.keep = H.keep ∧ F.ops = H.ops) (h2 : G.keep = H.keep ∧ G.ops = H.ops) : (if c then F else G).keep = H.keep ∧ (if c then F else G).ops = H.ops := by
  split
  · exact h1
  · exact h2
theorem fail_keep (F : FileM) (x : Bool) : (F.fail x).keep = F.keep ∧ (F.fail x).ops = F.ops := by rw [fail_eq]; exact ⟨rfl, rfl⟩
theorem inside_keep (F : FileM) (o : Cmd) : (F.inside o).keep = F.keep ∧ (F.inside o).ops = F.ops := by
  have hd := define_keep F o.def_
  unfold FileM.inside FileM.choose
  refine ite_keep (fail_keep F _) ?_
  refine ite_keep ⟨rfl, rfl⟩ ?_
  refine ite_keep (fail_keep F _) ?_
  refine ite_keep ⟨rfl, rfl⟩ ?_
  refine ite_keep ⟨rfl, rfl⟩ ?_
  refine ite_keep ?_ ?_
  · rw [fail_eq]; exact ⟨rfl, rfl⟩
  refine ite_keep ⟨rfl, rfl⟩ ?_
  refine ite_keep ?_ ?_
  · rw [fail_eq]; exact ⟨rfl, rfl⟩
  refine ite_keep ⟨rfl, rfl⟩ ?_
  refine ite_keep ?_ ?_
  · rw [fail_eq]; exact ⟨rfl, rfl⟩
  refine ite_keep ?_ ?_
  · rw [fail_eq]; exact ⟨rfl, rfl⟩
  refine ite_keep ⟨rfl, rfl⟩ ?_
  exact ite_keep ⟨hd.1, hd.2.1⟩ ⟨rfl, rfl⟩
theorem outside_keep (F : FileM) (o : Cmd) : (F.outside o).keep = F.keep ∧ (F.outside o).ops = F.ops := by
  unfold FileM.outside
  simp only [fail_eq]
  repeat' split
  all_goals first
    | exact ⟨rfl, rfl⟩
    | exact ⟨(define_keep F _).1, (define_keep F _).2.1⟩

/-- how many bytes there are in all stays -/
theorem next_sum (f : Fd) : f.next.2.at_ + f.next.2.l.length = f.at_ + f.l.length := by
  unfold Fd.next
  split
  · rename_i x l hl; simp only [hl, List.length_cons]; omega
  · rename_i hl; simp only [hl]
theorem num_sum : ∀ (k v : Nat) (f : Fd), (f.num k v).2.at_ + (f.num k v).2.l.length = f.at_ + f.l.length
  | 0, _, _ => rfl
  | k + 1, v, f => by rw [Fd.num, num_sum k, next_sum]
theorem args_sum : ∀ (zs acc : List Int) (f : Fd), (f.args zs acc).2.at_ + (f.args zs acc).2.l.length = f.at_ + f.l.length
  | [], _, _ => rfl
  | z :: zs, acc, f => by rw [Fd.args, args_sum zs, num_sum]
theorem txt_sum (n : Int) (f : Fd) : (f.txt n).2.at_ + (f.txt n).2.l.length = f.at_ + f.l.length := by
  unfold Fd.txt
  split
  · rfl
  · rename_i h
    simp only [List.length_drop]; omega
theorem cmd_sum (f : Fd) : f.cmd.2.at_ + f.cmd.2.l.length = f.at_ + f.l.length := by
  unfold Fd.cmd Fd.tail
  simp only
  split
  · rw [txt_sum, args_sum, next_sum]
  · split
    · simp only [args_sum, next_sum]
    · rw [args_sum, next_sum]
/-- a byte at least is read, or one was missing -/
theorem next_less (f : Fd) : f.next.2.lost = true ∨ f.next.2.l.length + 1 = f.l.length := by
  unfold Fd.next
  split
  · rename_i x l hl; right; simp only [hl, List.length_cons]
  · left; rfl
theorem next_lost (f : Fd) (h : f.lost = true) : f.next.2.lost = true := by
  unfold Fd.next
  split
  · exact h
  · rfl
theorem num_lost : ∀ (k v : Nat) (f : Fd), f.lost = true → (f.num k v).2.lost = true
  | 0, _, _, h => h
  | k + 1, v, f, h => by rw [Fd.num]; exact num_lost k _ _ (next_lost f h)
theorem args_lost : ∀ (zs acc : List Int) (f : Fd), f.lost = true → (f.args zs acc).2.lost = true
  | [], _, _, h => h
  | z :: zs, acc, f, h => by rw [Fd.args]; exact args_lost zs _ _ (num_lost _ _ _ h)
theorem txt_lost (n : Int) (f : Fd) (h : f.lost = true) : (f.txt n).2.lost = true := by
  unfold Fd.txt
  split
  · rfl
  · exact h
theorem next_le (f : Fd) : f.next.2.l.length ≤ f.l.length := by
  unfold Fd.next
  split
  · rename_i x l hl; simp only [hl, List.length_cons]; omega
  · exact Nat.zero_le _
theorem num_le : ∀ (k v : Nat) (f : Fd), (f.num k v).2.l.length ≤ f.l.length
  | 0, _, _ => Nat.le_refl _
  | k + 1, v, f => by rw [Fd.num]; exact Nat.le_trans (num_le k _ _) (next_le f)
theorem args_le : ∀ (zs acc : List Int) (f : Fd), (f.args zs acc).2.l.length ≤ f.l.length
  | [], _, _ => Nat.le_refl _
  | z :: zs, acc, f => by rw [Fd.args]; exact Nat.le_trans (args_le zs _ _) (num_le _ _ f)
theorem txt_le (n : Int) (f : Fd) : (f.txt n).2.l.length ≤ f.l.length := by
  unfold Fd.txt
  split
  · exact Nat.le_refl _
  · simp only [List.length_drop]; omega
theorem tail_le (c : Nat) (xs : List Int) (f : Fd) : (f.tail c xs).2.l.length ≤ f.l.length := by
  unfold Fd.tail
  split
  · exact txt_le _ _
  · split <;> exact Nat.le_refl _
theorem tail_lost (c : Nat) (xs : List Int) (f : Fd) (h : f.lost = true) : (f.tail c xs).2.lost = true := by
  unfold Fd.tail
  split
  · exact txt_lost _ _ h
  · split
    · rfl
    · exact h
theorem cmd_less (f : Fd) : f.cmd.2.lost = true ∨ f.cmd.2.l.length < f.l.length := by
  rcases next_less f with h | h
  · left
    exact tail_lost _ _ _ (args_lost _ _ _ h)
  · right
    have h1 := args_le (sizesM f.next.1) [] f.next.2
    have h2 := tail_le f.next.1 (f.next.2.args (sizesM f.next.1) []).1 (f.next.2.args (sizesM f.next.1) []).2
    show ((f.next.2.args (sizesM f.next.1) []).2.tail f.next.1 (f.next.2.args (sizesM f.next.1) []).1).2.l.length < _
    omega

/-- the commands behind the first one; none: they are wrong -/
noncomputable def loopM : Nat → Fd → FileM → Option (Fd × FileM)
  | 0, _, _ => none
  | n + 1, f, F =>
    if f.cmd.2.lost = true ∨ F.bad = true then none
    else if F.part = 1 then loopM n f.cmd.2 (({ F with ops := F.ops ++ [f.cmd.1] } : FileM).inside f.cmd.1)
    else if F.part = 2 ∧ f.cmd.1.code = 249 then some (f.cmd.2, ({ F with ops := F.ops ++ [f.cmd.1] } : FileM).fail (!(f.cmd.1.args.getD 0 0 == F.post.at_) || !(f.cmd.1.args.getD 1 0 == 2)))
    else loopM n f.cmd.2 (({ F with ops := F.ops ++ [f.cmd.1] } : FileM).outside f.cmd.1)
def noCmd : Cmd := ⟨0, 0, [], []⟩
noncomputable def FileM.new : FileM := ⟨[], fun _ => none, 0, [], fun _ => none, 0, 0, -1, 0, 0, 0, false, noCmd, false, []⟩
/-- the first command -/
def firstOk (o : Cmd) : Bool := o.code == 247 && (o.args.getD 0 0 == 2 && (o.args.getD 1 0 == 25400000 && (o.args.getD 2 0 == 473628672 && decide (1 ≤ o.args.getD 3 0))))
/-- what the end says is wrong -/
def postBad (p : List Int) (F : FileM) (a : List Int) : Bool := !(p.getD 0 0 == F.last) || (!(p.getD 1 0 == 25400000) || (!(p.getD 2 0 == 473628672) || (!(p.getD 3 0 == a.getD 3 0) || (decide (p.getD 4 0 < 0) || (decide (p.getD 5 0 < 0) || (!(p.getD 6 0 == F.top) || !(p.getD 7 0 == F.pages)))))))
def fillBad (n total : Nat) : Bool := decide (n < 4) || (decide (7 < n) || !(total % 4 == 0))
noncomputable def lastM (l : List UInt8) (first : Cmd) (g : Fd) (F : FileM) : FileM :=
  let F1 := F.fail (g.l.any fun x => !(x == 223))
  let F2 := F1.fail (fillBad g.l.length l.length)
  let F3 := F2.fail (postBad F.post.args F2 first.args)
  F3.fail (!((F3.again.length : Int) == F3.nf))
/-- a file, without a bound on its length -/
noncomputable def wholeM (K : List (Cmd × Value)) (l : List UInt8) : Option FileM :=
  if (Fd.cmd ⟨l, 0, false⟩).2.lost = true ∨ firstOk (Fd.cmd ⟨l, 0, false⟩).1 = false then none
  else match loopM (l.length + 1) (Fd.cmd ⟨l, 0, false⟩).2 { FileM.new with ops := [(Fd.cmd ⟨l, 0, false⟩).1], keep := K } with
    | none => none
    | some (g, F) => if (lastM l (Fd.cmd ⟨l, 0, false⟩).1 g F).bad = true then none else some (lastM l (Fd.cmd ⟨l, 0, false⟩).1 g F)

end Go.Proofs.Ytjeinldhbajknaa

/-
  A whole file, as a value that names no address. Conditions: none.
-/
namespace Go.Proofs.Ytjeinldhbajknaa
open Go.RowKit Go.Sp Go.Conc

def FileM.wk (F : FileM) (K : List (Cmd × Value)) : FileM := { F with keep := K }
theorem fail_wk (F : FileM) (K : List (Cmd × Value)) (x : Bool) : (F.wk K).fail x = (F.fail x).wk K := by rw [fail_eq, fail_eq]; rfl
theorem choose_wk (F : FileM) (K : List (Cmd × Value)) (x : Int) : (F.wk K).choose x = (F.choose x).wk K := by
  unfold FileM.choose
  rw [fail_eq, fail_eq]; rfl
theorem ite_wk {c : Prop} [Decidable c] {F G F' G' : FileM} {K : List (Cmd × Value)} (h1 : F' = F.wk K) (h2 : G' = G.wk K) : (if c then F' else G') = (if c then F else G).wk K := by
  split
  · exact h1
  · exact h2
theorem define_wk (F : FileM) (K : List (Cmd × Value)) (d : DefM) : (F.wk K).define d = (F.define d).wk K := by
  unfold FileM.define
  simp only [fail_eq]
  exact ite_wk rfl rfl
theorem inside_wk (F : FileM) (K : List (Cmd × Value)) (o : Cmd) : (F.wk K).inside o = (F.inside o).wk K := by
  unfold FileM.inside
  refine ite_wk (fail_wk F K _) ?_
  refine ite_wk rfl ?_
  refine ite_wk (fail_wk F K _) ?_
  refine ite_wk rfl ?_
  refine ite_wk rfl ?_
  refine ite_wk ?_ ?_
  · rw [fail_eq, fail_eq]; rfl
  refine ite_wk rfl ?_
  refine ite_wk ?_ ?_
  · rw [fail_eq, fail_eq]; rfl
  refine ite_wk rfl ?_
  refine ite_wk (choose_wk F K _) ?_
  refine ite_wk (choose_wk F K _) ?_
  refine ite_wk rfl ?_
  exact ite_wk (define_wk F K _) rfl
theorem outside_wk (F : FileM) (K : List (Cmd × Value)) (o : Cmd) : (F.wk K).outside o = (F.outside o).wk K := by
  unfold FileM.outside
  refine ite_wk rfl ?_
  refine ite_wk (define_wk F K _) ?_
  refine ite_wk ?_ ?_
  · rw [fail_eq, fail_eq]; rfl
  exact ite_wk rfl rfl
theorem loopM_wk (K : List (Cmd × Value)) : ∀ (n : Nat) (f : Fd) (F : FileM), loopM n f (F.wk K) = (loopM n f F).map fun x => (x.1, x.2.wk K)
  | 0, _, _ => rfl
  | n + 1, f, F => by
    have e : ({ (F.wk K) with ops := (F.wk K).ops ++ [f.cmd.1] } : FileM) = ({ F with ops := F.ops ++ [f.cmd.1] } : FileM).wk K := rfl
    unfold loopM
    rw [e, inside_wk, outside_wk, fail_wk, loopM_wk K n, loopM_wk K n]
    show (if f.cmd.2.lost = true ∨ F.bad = true then none else if F.part = 1 then _ else if F.part = 2 ∧ f.cmd.1.code = 249 then _ else _) = _
    split
    · rfl
    · split
      · rfl
      · split <;> rfl
theorem lastM_wk (K : List (Cmd × Value)) (l : List UInt8) (o : Cmd) (g : Fd) (F : FileM) : lastM l o g (F.wk K) = (lastM l o g F).wk K := by
  unfold lastM
  simp only [fail_wk]
  rfl
theorem wholeM_wk (K : List (Cmd × Value)) (l : List UInt8) : wholeM K l = (wholeM [] l).map (·.wk K) := by
  unfold wholeM
  split
  · rfl
  · have e := loopM_wk K (l.length + 1) (Fd.cmd ⟨l, 0, false⟩).2 { FileM.new with ops := [(Fd.cmd ⟨l, 0, false⟩).1], keep := [] }
    rw [show ({ FileM.new with ops := [(Fd.cmd ⟨l, 0, false⟩).1], keep := K } : FileM) = ({ FileM.new with ops := [(Fd.cmd ⟨l, 0, false⟩).1], keep := [] } : FileM).wk K from rfl, e]
    cases loopM (l.length + 1) (Fd.cmd ⟨l, 0, false⟩).2 { FileM.new with ops := [(Fd.cmd ⟨l, 0, false⟩).1], keep := [] } with
    | none => rfl
    | some x =>
      obtain ⟨g, F⟩ := x
      simp only [Option.map_some]
      rw [lastM_wk]
      show (if (lastM l _ g F).bad = true then none else _) = _
      split <;> rfl

/-- what was read of a file -/
noncomputable def fileM (l : List UInt8) : Option FileM := if 1048576 < l.length then none else wholeM [] l
noncomputable def errM (l : List UInt8) : Int := if 1048576 < l.length then 6 else if (wholeM [] l).isSome = true then 0 else 240
noncomputable def opsM (l : List UInt8) : List Cmd := match fileM l with | some F => F.ops | none => []
noncomputable def againM (l : List UInt8) : List DefM := match fileM l with | some F => F.again | none => []
noncomputable def postM (l : List UInt8) : List Int := match fileM l with | some F => F.post.args | none => []

/-- what holds of the commands' end -/
theorem loopM_fits : ∀ (n : Nat) (f : Fd) (F : FileM), F.Fits f.at_ → ∀ x, loopM n f F = some x → x.2.Fits (x.1.at_ + 1) ∧ x.2.part = 2
  | 0, _, _, _, _, h => by cases h
  | n + 1, f, F, hF, x, h => by
    have hw := cmd_wf f
    have hs := cmd_sum f
    have hl := cmd_less f
    unfold loopM at h
    split at h
    · cases h
    · rename_i hn
      have hlt : f.cmd.2.l.length < f.l.length := by
        rcases hl with h | h
        · exact absurd (.inl h) hn
        · exact h
      have h1 : ({ F with ops := F.ops ++ [f.cmd.1] } : FileM).Fits f.at_ := ⟨hF.stack, hF.pages, hF.again, hF.told, hF.part, hF.post⟩
      split at h
      · exact loopM_fits n _ _ ((h1.inside _).le (by omega)) x h
      · split at h
        · rename_i hp
          cases h
          exact ⟨(h1.fail _).le (by simp only; omega), by rw [fail_eq]; exact hp.1⟩
        · exact loopM_fits n _ _ ((h1.outside _ hw).le (by omega)) x h
theorem newM_fits (o : Cmd) (K : List (Cmd × Value)) (n : Nat) : ({ FileM.new with ops := [o], keep := K } : FileM).Fits n :=
  ⟨⟨by simp [FileM.new], by simp [FileM.new]⟩, ⟨by simp [FileM.new], by simp [FileM.new]⟩, by simp [FileM.new], fun _ => ⟨by simp [FileM.new], by simp [FileM.new]⟩, .inl rfl, fun h => by cases h⟩
theorem wholeM_post {K : List (Cmd × Value)} {l : List UInt8} {F : FileM} (h : wholeM K l = some F) : F.post.args.length = 8 := by
  unfold wholeM at h
  split at h
  · cases h
  · split at h
    · cases h
    · rename_i g G hg
      obtain ⟨h1, h2⟩ := loopM_fits _ _ _ (newM_fits _ _ _) _ hg
      split at h
      · cases h
      · cases h
        unfold lastM
        simp only [fail_eq]
        exact h1.post h2
theorem fileM_post {l : List UInt8} {F : FileM} (h : fileM l = some F) : F.post.args.length = 8 := by
  unfold fileM at h
  split at h
  · cases h
  · exact wholeM_post h

end Go.Proofs.Ytjeinldhbajknaa
