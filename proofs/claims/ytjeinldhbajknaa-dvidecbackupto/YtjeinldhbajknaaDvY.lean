
/-
  A file with one byte less, with one more, with another last pointer. Conditions: none.
-/
import Derived.Test.YtjeinldhbajknaaDvT
namespace Go.Proofs.Ytjeinldhbajknaa
open Go.RowKit Go.Sp Go.Conc

/-- two feeds that differ in the byte at place P alone -/
def Near (P : Nat) (v : UInt8) (f g : Fd) : Prop := f.at_ ≤ P ∧ g = ⟨f.l.set (P - f.at_) v, f.at_, f.lost⟩
variable {P : Nat} {v : UInt8} {f g : Fd}
theorem next_at (f : Fd) : f.at_ ≤ f.next.2.at_ := by
  unfold Fd.next
  split
  · exact Nat.le_succ _
  · exact Nat.le_refl _
theorem num_at : ∀ (k v : Nat) (f : Fd), f.at_ ≤ (f.num k v).2.at_
  | 0, _, _ => Nat.le_refl _
  | k + 1, v, f => by rw [Fd.num]; exact Nat.le_trans (next_at f) (num_at k _ _)
theorem args_at : ∀ (zs acc : List Int) (f : Fd), f.at_ ≤ (f.args zs acc).2.at_
  | [], _, _ => Nat.le_refl _
  | z :: zs, acc, f => by rw [Fd.args]; exact Nat.le_trans (num_at _ _ f) (args_at zs _ _)
theorem txt_at (n : Int) (f : Fd) : f.at_ ≤ (f.txt n).2.at_ := by
  unfold Fd.txt
  split
  · exact Nat.le_refl _
  · exact Nat.le_add_right _ _
theorem tail_at (c : Nat) (xs : List Int) (f : Fd) : f.at_ ≤ (f.tail c xs).2.at_ := by
  unfold Fd.tail
  split
  · exact txt_at _ _
  · split <;> exact Nat.le_refl _
theorem cmd_at (f : Fd) : f.at_ ≤ f.cmd.2.at_ := Nat.le_trans (next_at f) (Nat.le_trans (args_at _ _ _) (tail_at _ _ _))

theorem Near.next (h : Near P v f g) (he : f.next.2.at_ ≤ P) : g.next.1 = f.next.1 ∧ Near P v f.next.2 g.next.2 := by
  obtain ⟨h1, rfl⟩ := h
  obtain ⟨l, n, b⟩ := f
  cases l with
  | nil => exact ⟨rfl, h1, rfl⟩
  | cons x l =>
    simp only [Fd.next] at he
    simp only at h1
    obtain ⟨k, hk⟩ : ∃ k, P - n = k + 1 := ⟨P - n - 1, by omega⟩
    have e : P - (n + 1) = k := by omega
    refine ⟨?_, he, ?_⟩
    · simp only [hk, List.set_cons_succ, Fd.next]
    · simp only [hk, List.set_cons_succ, Fd.next, e]
theorem Near.num (k : Nat) : ∀ {f g : Fd} (a : Nat), Near P v f g → (f.num k a).2.at_ ≤ P → (g.num k a).1 = (f.num k a).1 ∧ Near P v (f.num k a).2 (g.num k a).2 := by
  induction k with
  | zero => intro f g a h _; exact ⟨rfl, h⟩
  | succ k ih =>
    intro f g a h he
    rw [Fd.num] at he
    obtain ⟨h1, h2⟩ := h.next (Nat.le_trans (num_at k _ _) he)
    rw [Fd.num, Fd.num, h1]
    exact ih _ h2 he
theorem Near.args (zs : List Int) : ∀ {f g : Fd} (a : List Int), Near P v f g → (f.args zs a).2.at_ ≤ P → (g.args zs a).1 = (f.args zs a).1 ∧ Near P v (f.args zs a).2 (g.args zs a).2 := by
  induction zs with
  | nil => intro f g a h _; exact ⟨rfl, h⟩
  | cons z zs ih =>
    intro f g a h he
    rw [Fd.args] at he
    obtain ⟨h1, h2⟩ := h.num z.natAbs 0 (Nat.le_trans (args_at zs _ _) he)
    rw [Fd.args, Fd.args, h1]
    exact ih _ h2 he
theorem Near.txt (n : Int) (h : Near P v f g) (he : (f.txt n).2.at_ ≤ P) : (g.txt n).1 = (f.txt n).1 ∧ Near P v (f.txt n).2 (g.txt n).2 := by
  obtain ⟨h1, rfl⟩ := h
  unfold Fd.txt at he ⊢
  simp only [List.length_set] at he ⊢
  split at he
  · rename_i hc; simp only [hc, if_true]; exact ⟨trivial, h1, rfl⟩
  · rename_i hc
    simp only [hc, if_false]
    simp only at he
    refine ⟨List.take_set_of_le (by omega), he, ?_⟩
    rw [List.drop_set, if_neg (by omega)]
    simp only [show P - (f.at_ + n.toNat) = P - f.at_ - n.toNat by omega]
theorem Near.tail (c : Nat) (xs : List Int) (h : Near P v f g) (he : (f.tail c xs).2.at_ ≤ P) : (g.tail c xs).1 = (f.tail c xs).1 ∧ Near P v (f.tail c xs).2 (g.tail c xs).2 := by
  unfold Fd.tail at he ⊢
  cases hc : textN c xs with
  | some n =>
    simp only [hc] at he ⊢
    exact h.txt _ he
  | none =>
    simp only [hc] at he ⊢
    refine ⟨trivial, ?_⟩
    split
    · obtain ⟨h1, rfl⟩ := h; exact ⟨h1, rfl⟩
    · exact h
theorem Near.cmd (h : Near P v f g) (he : f.cmd.2.at_ ≤ P) : g.cmd.1 = f.cmd.1 ∧ Near P v f.cmd.2 g.cmd.2 := by
  have e0 : g.at_ = f.at_ := by rw [h.2]
  have h2 : (f.next.2.args (sizesM f.next.1) []).2.at_ ≤ P := Nat.le_trans (tail_at f.next.1 (f.next.2.args (sizesM f.next.1) []).1 _) he
  obtain ⟨a1, a2⟩ := h.next (Nat.le_trans (args_at _ _ _) h2)
  obtain ⟨b1, b2⟩ := a2.args (sizesM f.next.1) [] h2
  obtain ⟨c1, c2⟩ := b2.tail f.next.1 (f.next.2.args (sizesM f.next.1) []).1 he
  unfold Fd.cmd
  simp only [e0, a1, b1, c1]
  exact ⟨trivial, c2⟩

/-- a whole 249 -/
theorem last_open (f : Fd) (hc : f.cmd.1.code = 249) (hl : f.cmd.2.lost = false) : f.lost = false ∧ ∃ b0 b1 b2 b3 b4 r, f.l = 249 :: b0 :: b1 :: b2 :: b3 :: b4 :: r := by
  obtain ⟨l, n, b⟩ := f
  have hb : b = false := by
    cases b with
    | false => rfl
    | true =>
      have := tail_lost (Fd.next ⟨l, n, true⟩).1 ((Fd.next ⟨l, n, true⟩).2.args (sizesM (Fd.next ⟨l, n, true⟩).1) []).1 _ (args_lost (sizesM (Fd.next ⟨l, n, true⟩).1) [] _ (next_lost ⟨l, n, true⟩ rfl))
      exact absurd (this.symm.trans hl) (by simp)
  subst hb
  refine ⟨rfl, ?_⟩
  cases l with
  | nil => simp [Fd.cmd, Fd.next] at hc
  | cons x l =>
    have hx : x = 249 := by
      simp only [Fd.cmd, Fd.next] at hc
      exact UInt8.toNat_inj.1 (hc.trans rfl)
    subst hx
    have hz : sizesM (249 : UInt8).toNat = [4, 1] := rfl
    rcases l with _ | ⟨b0, _ | ⟨b1, _ | ⟨b2, _ | ⟨b3, _ | ⟨b4, r⟩⟩⟩⟩⟩
    all_goals first
      | exact ⟨_, _, _, _, _, _, rfl⟩
      | (exfalso; revert hl; simp only [Fd.cmd, Fd.next, hz]; simp [Fd.args, Fd.num, Fd.next, Fd.tail, textN])
theorem last_arg (n : Nat) (b0 b1 b2 b3 b4 : UInt8) (r : List UInt8) : (Fd.cmd ⟨249 :: b0 :: b1 :: b2 :: b3 :: b4 :: r, n, false⟩).1.args.getD 0 0 = sgnV 4 false (((b0.toNat * 256 + b1.toNat) * 256 + b2.toNat) * 256 + b3.toNat) ∧
    (Fd.cmd ⟨249 :: b0 :: b1 :: b2 :: b3 :: b4 :: r, n, false⟩).1.code = 249 ∧ (Fd.cmd ⟨249 :: b0 :: b1 :: b2 :: b3 :: b4 :: r, n, false⟩).2 = ⟨r, n + 6, false⟩ := by
  have hz : sizesM (249 : UInt8).toNat = [4, 1] := rfl
  refine ⟨?_, rfl, ?_⟩
  · simp only [Fd.cmd, Fd.next, hz]
    simp [Fd.args, Fd.num, Fd.next]
  · simp only [Fd.cmd, Fd.next, hz]
    simp [Fd.args, Fd.num, Fd.next, Fd.tail, textN]
theorem sgn4_inj {x y : Nat} (hx : x < 4294967296) (hy : y < 4294967296) (h : sgnV 4 false x = sgnV 4 false y) : x = y := by
  unfold sgnV at h
  simp only [Bool.false_eq_true, false_or, true_and] at h
  split at h <;> split at h <;> omega

/-- so many bytes farther -/
def Past (f g : Fd) : Prop := ∃ m, g.at_ = f.at_ + m ∧ g.l = f.l.drop m
theorem Past.refl (f : Fd) : Past f f := ⟨0, rfl, rfl⟩
theorem Past.trans {f g h : Fd} (h1 : Past f g) (h2 : Past g h) : Past f h := by
  obtain ⟨m, a, b⟩ := h1
  obtain ⟨k, c, d⟩ := h2
  exact ⟨m + k, by omega, by rw [d, b, List.drop_drop]⟩
theorem past_next (f : Fd) : Past f f.next.2 := by
  unfold Fd.next
  split
  · rename_i x l hl; exact ⟨1, rfl, by rw [hl]; rfl⟩
  · rename_i hl; exact ⟨0, rfl, by rw [hl]; rfl⟩
theorem past_num : ∀ (k v : Nat) (f : Fd), Past f (f.num k v).2
  | 0, _, f => Past.refl f
  | k + 1, v, f => by rw [Fd.num]; exact (past_next f).trans (past_num k _ _)
theorem past_args : ∀ (zs acc : List Int) (f : Fd), Past f (f.args zs acc).2
  | [], _, f => Past.refl f
  | z :: zs, acc, f => by rw [Fd.args]; exact (past_num _ _ f).trans (past_args zs _ _)
theorem past_txt (n : Int) (f : Fd) : Past f (f.txt n).2 := by
  unfold Fd.txt
  split
  · exact ⟨0, rfl, rfl⟩
  · exact ⟨n.toNat, rfl, rfl⟩
theorem past_tail (c : Nat) (xs : List Int) (f : Fd) : Past f (f.tail c xs).2 := by
  unfold Fd.tail
  split
  · exact past_txt _ _
  · split
    · exact ⟨0, rfl, rfl⟩
    · exact Past.refl f
theorem past_cmd (f : Fd) : Past f f.cmd.2 := (past_next f).trans ((past_args _ _ _).trans (past_tail _ _ _))
theorem Past.get {f g : Fd} (h : Past f g) (P : Nat) (hP : g.at_ ≤ P) : g.l[P - g.at_]? = f.l[P - f.at_]? := by
  obtain ⟨m, a, b⟩ := h
  rw [b, List.getElem?_drop]
  congr 1
  omega

/-- the last command of all -/
theorem loopM_last : ∀ (n : Nat) (f : Fd) (F : FileM) (x : Fd × FileM), loopM n f F = some x →
    ∃ (e : Fd) (l0 : List Cmd), x.2.ops = l0 ++ [e.cmd.1] ∧ F.ops.length ≤ l0.length ∧ (F.part ≠ 2 → F.ops.length < l0.length) ∧ Past f e ∧ e.cmd.1.code = 249 ∧ e.cmd.2.lost = false ∧ x.1 = e.cmd.2
  | 0, _, _, _, h => by cases h
  | n + 1, f, F, x, h => by
    unfold loopM at h
    split at h
    · cases h
    · rename_i hn
      split at h
      · obtain ⟨e, l0, h1, h2, -, h3, h4⟩ := loopM_last n _ _ x h
        rw [(inside_keep _ _).2] at h2
        simp only [List.length_append, List.length_singleton] at h2
        exact ⟨e, l0, h1, by omega, fun _ => by omega, (past_cmd f).trans h3, h4⟩
      · split at h
        · rename_i hp
          cases h
          exact ⟨f, F.ops, by rw [fail_eq], Nat.le_refl _, fun h => absurd hp.1 h, Past.refl f, hp.2, by simpa using fun h => hn (.inl h), rfl⟩
        · obtain ⟨e, l0, h1, h2, -, h3, h4⟩ := loopM_last n _ _ x h
          rw [(outside_keep _ _).2] at h2
          simp only [List.length_append, List.length_singleton] at h2
          exact ⟨e, l0, h1, by omega, fun _ => by omega, (past_cmd f).trans h3, h4⟩

/-- with another last pointer it is none -/
theorem loopM_near (k : Nat) (hk : k < 4) : ∀ (n : Nat) (f g : Fd) (F : FileM) (x : Fd × FileM), loopM n f F = some x → x.2.bad = false → (∀ q, x.2.ops.getLast? = some q → P = q.at_ + 1 + k) → Near P v f g → f.l[P - f.at_]? ≠ some v →
    ∀ y, loopM n g F = some y → y.2.bad = true
  | 0, _, _, _, _, h, _, _, _, _, _, _ => by cases h
  | n + 1, f, g, F, x, h, hb, hP, hN, hv, y, hy => by
    have hlast := loopM_last (n + 1) f F x h
    unfold loopM at h hy
    split at h
    · cases h
    · rename_i hn
      have next : ∀ (F1 : FileM), loopM n f.cmd.2 F1 = some x → (g.cmd.1 = f.cmd.1 ∧ Near P v f.cmd.2 g.cmd.2) ∧ f.cmd.2.l[P - f.cmd.2.at_]? ≠ some v := fun F1 h1 => by
        obtain ⟨e, l0, h2, -, -, h3, -⟩ := loopM_last n _ _ x h1
        have h4 := hP e.cmd.1 (by rw [h2]; simp)
        have h5 : f.cmd.2.at_ ≤ e.at_ := by obtain ⟨m, a, -⟩ := h3; omega
        have h6 : e.cmd.1.at_ = e.at_ := rfl
        have h7 : f.cmd.2.at_ ≤ P := by omega
        exact ⟨hN.cmd h7, by rw [(past_cmd f).get P h7]; exact hv⟩
      split at h
      · rename_i hp
        obtain ⟨⟨c1, c2⟩, c3⟩ := next _ h
        rw [if_neg (by rw [c2.2]; exact hn), if_pos hp, c1] at hy
        exact loopM_near k hk n _ _ _ x h hb hP c2 c3 y hy
      · rename_i hp
        split at h
        · rename_i hp2
          obtain ⟨e, l0, h2, -⟩ := hlast
          cases h
          have h4 := hP f.cmd.1 (by rw [fail_eq]; simp)
          have h6 : f.cmd.1.at_ = f.at_ := rfl
          obtain ⟨hlo, b0, b1, b2, b3, b4, r, hl⟩ := last_open f hp2.2 (by simpa using fun h => hn (.inl h))
          have hk2 : P - f.at_ = 1 + k := by omega
          obtain ⟨l, a, b⟩ := f
          simp only at hlo hl hk2
          subst hlo hl
          obtain ⟨-, hg⟩ := hN
          simp only [hk2] at hg hv
          rw [fail_eq] at hb
          simp only [Bool.or_eq_false_iff, Bool.not_eq_false', beq_iff_eq] at hb
          have e1 := (last_arg a b0 b1 b2 b3 b4 r).1
          rw [hb.2.1] at e1
          have hlt := fun (c : UInt8) => c.toNat_lt
          have l0' := hlt b0
          have l1' := hlt b1
          have l2' := hlt b2
          have l3' := hlt b3
          have lv' := hlt v
          have hne : ∀ c : UInt8, c ≠ v → v.toNat ≠ c.toNat := fun c h h2 => h (UInt8.toNat_inj.1 h2.symm)
          obtain rfl | rfl | rfl | rfl : k = 0 ∨ k = 1 ∨ k = 2 ∨ k = 3 := by omega
          all_goals
            simp only [List.set_cons_succ, List.set_cons_zero, Nat.reduceAdd] at hg
            simp only [List.getElem?_cons_succ, List.getElem?_cons_zero, Nat.reduceAdd, ne_eq, Option.some.injEq] at hv
            have hv2 := hne _ hv
            subst hg
          · obtain ⟨d1, d2, d3⟩ := last_arg a v b1 b2 b3 b4 r
            rw [d3, d2, if_neg (by simpa using fun h => hn (.inr h)), if_neg hp, if_pos ⟨hp2.1, rfl⟩, d1] at hy
            cases hy
            rw [fail_eq]
            simp only [Bool.or_eq_true, Bool.not_eq_true', beq_eq_false_iff_ne]
            refine .inr (.inl fun h => ?_)
            have := sgn4_inj (by omega) (by omega) (h.trans e1)
            omega
          · obtain ⟨d1, d2, d3⟩ := last_arg a b0 v b2 b3 b4 r
            rw [d3, d2, if_neg (by simpa using fun h => hn (.inr h)), if_neg hp, if_pos ⟨hp2.1, rfl⟩, d1] at hy
            cases hy
            rw [fail_eq]
            simp only [Bool.or_eq_true, Bool.not_eq_true', beq_eq_false_iff_ne]
            refine .inr (.inl fun h => ?_)
            have := sgn4_inj (by omega) (by omega) (h.trans e1)
            omega
          · obtain ⟨d1, d2, d3⟩ := last_arg a b0 b1 v b3 b4 r
            rw [d3, d2, if_neg (by simpa using fun h => hn (.inr h)), if_neg hp, if_pos ⟨hp2.1, rfl⟩, d1] at hy
            cases hy
            rw [fail_eq]
            simp only [Bool.or_eq_true, Bool.not_eq_true', beq_eq_false_iff_ne]
            refine .inr (.inl fun h => ?_)
            have := sgn4_inj (by omega) (by omega) (h.trans e1)
            omega
          · obtain ⟨d1, d2, d3⟩ := last_arg a b0 b1 b2 v b4 r
            rw [d3, d2, if_neg (by simpa using fun h => hn (.inr h)), if_neg hp, if_pos ⟨hp2.1, rfl⟩, d1] at hy
            cases hy
            rw [fail_eq]
            simp only [Bool.or_eq_true, Bool.not_eq_true', beq_eq_false_iff_ne]
            refine .inr (.inl fun h => ?_)
            have := sgn4_inj (by omega) (by omega) (h.trans e1)
            omega
        · rename_i hp2
          obtain ⟨⟨c1, c2⟩, c3⟩ := next _ h
          rw [if_neg (by rw [c2.2]; exact hn), if_neg hp, c1, if_neg hp2] at hy
          exact loopM_near k hk n _ _ _ x h hb hP c2 c3 y hy

theorem lastM_bad (l : List UInt8) (o : Cmd) (g : Fd) (F : FileM) (h : F.bad = true) : (lastM l o g F).bad = true := by
  unfold lastM
  simp only [fail_eq, h, Bool.true_or]
theorem lastM_fill (l : List UInt8) (o : Cmd) (g : Fd) (F : FileM) (h : (lastM l o g F).bad = false) : fillBad g.l.length l.length = false ∧ F.bad = false := by
  unfold lastM at h
  simp only [fail_eq, Bool.or_eq_false_iff] at h
  exact ⟨h.1.1.2, h.1.1.1.1⟩
/-- a file, taken apart -/
theorem whole_open {K : List (Cmd × Value)} {l : List UInt8} {F : FileM} (h : wholeM K l = some F) :
    (Fd.cmd ⟨l, 0, false⟩).2.lost = false ∧ firstOk (Fd.cmd ⟨l, 0, false⟩).1 = true ∧ ∃ g G, loopM (l.length + 1) (Fd.cmd ⟨l, 0, false⟩).2 { FileM.new with ops := [(Fd.cmd ⟨l, 0, false⟩).1], keep := K } = some (g, G) ∧
      F = lastM l (Fd.cmd ⟨l, 0, false⟩).1 g G ∧ F.bad = false := by
  unfold wholeM at h
  split at h
  · cases h
  · rename_i hn
    refine ⟨by simpa using fun h => hn (.inl h), by simpa using fun h => hn (.inr h), ?_⟩
    split at h
    · cases h
    · rename_i g G hg
      split at h
      · cases h
      · rename_i hb
        cases h
        exact ⟨g, G, hg, rfl, by simpa using hb⟩
theorem lastM_ops (l : List UInt8) (o : Cmd) (g : Fd) (F : FileM) : (lastM l o g F).ops = F.ops ∧ (lastM l o g F).again = F.again ∧ (lastM l o g F).post = F.post := by
  unfold lastM
  simp only [fail_eq]
  exact ⟨trivial, trivial, trivial⟩
theorem whole_mod {K : List (Cmd × Value)} {l : List UInt8} {F : FileM} (h : wholeM K l = some F) : l.length % 4 = 0 ∧ 4 ≤ l.length := by
  obtain ⟨h1, h2, g, G, h3, h4, h5⟩ := whole_open h
  rw [h4] at h5
  have h6 := (lastM_fill _ _ _ _ h5).1
  unfold fillBad at h6
  simp only [Bool.or_eq_false_iff, decide_eq_false_iff_not, Bool.not_eq_false', beq_iff_eq] at h6
  obtain ⟨e, l0, a1, -, -, a2, a3, a4, a5⟩ := loopM_last _ _ _ _ h3
  simp only at a5
  have a6 := ((past_cmd ⟨l, 0, false⟩).trans a2).trans (past_cmd e)
  rw [← a5] at a6
  obtain ⟨m, b1, b2⟩ := a6
  have b3 := congrArg List.length b2
  simp only [List.length_drop] at b3
  omega
theorem whole_last {K : List (Cmd × Value)} {l : List UInt8} {F : FileM} (h : wholeM K l = some F) : 3 ≤ F.ops.length ∧ ∃ q, F.ops.getLast? = some q ∧ q.at_ + 6 ≤ l.length := by
  obtain ⟨h1, h2, g, G, h3, h4, h5⟩ := whole_open h
  obtain ⟨e, l0, a1, -, a2, a3, a4, a5, a6⟩ := loopM_last _ _ _ _ h3
  have a7 : 1 < l0.length := a2 (by simp [FileM.new])
  simp only at a1
  rw [h4, (lastM_ops _ _ _ _).1, a1]
  refine ⟨by simp only [List.length_append, List.length_singleton]; omega, e.cmd.1, by simp, ?_⟩
  have h6 : e.cmd.1.at_ = e.at_ := rfl
  obtain ⟨b1, c0, c1, c2, c3, c4, r, hl⟩ := last_open e a4 a5
  obtain ⟨m, d1, d2⟩ := (past_cmd ⟨l, 0, false⟩).trans a3
  have d3 := congrArg List.length d2
  rw [hl] at d3
  simp only [List.length_drop, List.length_cons] at d3
  simp only at d1
  omega
theorem whole_other {l : List UInt8} {F : FileM} {q : Cmd} {k : Nat} {c : UInt8} (h : wholeM [] l = some F) (hq : F.ops.getLast? = some q) (hk : k < 4) (hc : l[q.at_ + 1 + k]? = some c) (hv : v ≠ c) : wholeM [] (l.set (q.at_ + 1 + k) v) = none := by
  obtain ⟨h1, h2, g, G, h3, h4, h5⟩ := whole_open h
  obtain ⟨e, l0, a1, -, a2, a3, a4, a5, a6⟩ := loopM_last _ _ _ _ h3
  simp only at a1
  rw [h4, (lastM_ops _ _ _ _).1] at hq
  have hqe : q = e.cmd.1 := by rw [a1] at hq; simpa using hq.symm
  have h6 : e.cmd.1.at_ = e.at_ := rfl
  obtain ⟨P, hP⟩ : ∃ P, q.at_ + 1 + k = P := ⟨_, rfl⟩
  rw [hP] at hc ⊢
  have hN : Near P v ⟨l, 0, false⟩ ⟨l.set P v, 0, false⟩ := ⟨Nat.zero_le _, rfl⟩
  have hle : (Fd.cmd ⟨l, 0, false⟩).2.at_ ≤ P := by
    obtain ⟨m, b1, -⟩ := a3
    rw [hqe] at hP
    omega
  obtain ⟨c1, c2⟩ := hN.cmd hle
  have c3 := (past_cmd ⟨l, 0, false⟩).get P hle
  rw [h4] at h5
  have hb := (lastM_fill _ _ _ _ h5).2
  have hnear := loopM_near (P := P) (v := v) k hk _ _ (Fd.cmd ⟨l.set P v, 0, false⟩).2 _ _ h3 hb (fun q' hq' => by
    rw [hq] at hq'
    cases hq'
    exact hP.symm) c2 (by
    rw [c3]
    simp only [Nat.sub_zero]
    rw [hc]
    simp only [ne_eq, Option.some.injEq]
    exact fun h => hv h.symm)
  unfold wholeM
  rw [c1, c2.2, List.length_set]
  rw [c2.2] at hnear
  split
  · rfl
  · cases hy : loopM (l.length + 1) ⟨(Fd.cmd ⟨l, 0, false⟩).2.l.set (P - (Fd.cmd ⟨l, 0, false⟩).2.at_) v, (Fd.cmd ⟨l, 0, false⟩).2.at_, (Fd.cmd ⟨l, 0, false⟩).2.lost⟩ { FileM.new with ops := [(Fd.cmd ⟨l, 0, false⟩).1], keep := [] } with
    | none => rfl
    | some y =>
      have := hnear y hy
      obtain ⟨g', G'⟩ := y
      simp only
      rw [if_pos (lastM_bad _ _ _ _ this)]

/-- what the law asks: three answers -/
theorem err_zero {l : List UInt8} : errM l = 0 ↔ l.length ≤ 1048576 ∧ (wholeM [] l).isSome = true := by
  unfold errM
  by_cases h1 : 1048576 < l.length
  · rw [if_pos h1]
    exact ⟨fun h => absurd h (by decide), fun h => by omega⟩
  · rw [if_neg h1]
    by_cases h2 : (wholeM [] l).isSome = true
    · rw [if_pos h2]; exact ⟨fun _ => ⟨by omega, h2⟩, fun _ => rfl⟩
    · rw [if_neg h2]; exact ⟨fun h => absurd h (by decide), fun h3 => absurd h3.2 h2⟩
theorem err_less {l' : List UInt8} (hl : l'.length % 4 ≠ 0) : errM l' ≠ 0 := by
  intro h2
  obtain ⟨-, h3⟩ := err_zero.1 h2
  cases hh : wholeM [] l' with
  | none => rw [hh] at h3; cases h3
  | some F => exact hl (whole_mod hh).1
theorem err_mod {l : List UInt8} (h : errM l = 0) : l.length % 4 = 0 ∧ 4 ≤ l.length ∧ l.length ≤ 1048576 := by
  obtain ⟨h1, h3⟩ := err_zero.1 h
  cases hh : wholeM [] l with
  | none => rw [hh] at h3; cases h3
  | some F => exact ⟨(whole_mod hh).1, (whole_mod hh).2, h1⟩
theorem ops_last {l : List UInt8} (h : errM l = 0) : 3 ≤ (opsM l).length ∧ ∃ q, (opsM l).getLast? = some q ∧ q.at_ + 6 ≤ l.length ∧ ∀ k c v, k < 4 → l[q.at_ + 1 + k]? = some c → v ≠ c → errM (l.set (q.at_ + 1 + k) v) = 240 := by
  obtain ⟨h1, h3⟩ := err_zero.1 h
  cases hh : wholeM [] l with
  | none => rw [hh] at h3; cases h3
  | some F =>
    have e : opsM l = F.ops := by unfold opsM fileM; rw [if_neg (by omega), hh]
    rw [e]
    obtain ⟨a, q, b, c⟩ := whole_last hh
    refine ⟨a, q, b, c, fun k c v hk hc hv => ?_⟩
    unfold errM
    rw [List.length_set, if_neg (by omega), whole_other hh b hk hc hv]
    rfl

end Go.Proofs.Ytjeinldhbajknaa
