import Derived.Test.YtjeinldhbajknaaMQ
import Derived.Test.YtjeinldhbajknaaMU
import Derived.Test.YtjeinldhbajknaaMLA
/-
  A file with one byte less, with one more, with another last pointer. Conditions: none.
-/
namespace Go.Proofs.Ytjeinldhbajknaa
open Go.RowKit Go.Sp Go.Conc

/-- two feeds that differ in the byte at place P alone -/
def Near (P : Nat) (v : UInt8) (f g : Fd) : Prop := f.at_ ≤ P ∧ g = ⟨f.l.set (P - f.at_) v, f.at_, f.lost⟩
variable {P : Nat} {v : UInt8} {f g : Fd}
theorem next_at (f : Fd) : f.at_ ≤ f.next.2.at_ := by
  unfold Fd.next
  split
  · exact Nat.le_succ _
  · exact Nat.le_refl _
theorem num_at : ∀ (k v : Nat) (f : Fd), f.at_ ≤ (f.num k v).2.at_
  | 0, _, _ => Nat.le_refl _
  | k + 1, v, f => by rw [Fd.num]; exact Nat.le_trans (next_at f) (num_at k _ _)
theorem args_at : ∀ (zs acc : List Int) (f : Fd), f.at_ ≤ (f.args zs acc).2.at_
  | [], _, _ => Nat.le_refl _
  | z :: zs, acc, f => by rw [Fd.args]; exact Nat.le_trans (num_at _ _ f) (args_at zs _ _)
theorem txt_at (n : Int) (f : Fd) : f.at_ ≤ (f.txt n).2.at_ := by
  unfold Fd.txt
  split
  · exact Nat.le_refl _
  · exact Nat.le_add_right _ _
theorem tail_at (c : Nat) (xs : List Int) (f : Fd) : f.at_ ≤ (f.tail c xs).2.at_ := by
  unfold Fd.tail
  split
  · exact txt_at _ _
  · split <;> exact Nat.le_refl _
theorem cmd_at (f : Fd) : f.at_ ≤ f.cmd.2.at_ := Nat.le_trans (next_at f) (Nat.le_trans (args_at _ _ _) (tail_at _ _ _))

theorem Near.next (h : Near P v f g) (he : f.next.2.at_ ≤ P) : g.next.1 = f.next.1 ∧ Near P v f.next.2 g.next.2 := by
  obtain ⟨h1, rfl⟩ := h
  obtain ⟨l, n, b⟩ := f
  cases l with
  | nil => exact ⟨rfl, h1, rfl⟩
  | cons x l =>
    simp only [Fd.next] at he
    simp only at h1
    obtain ⟨k, hk⟩ : ∃ k, P - n = k + 1 := ⟨P - n - 1, by omega⟩
    have e : P - (n + 1) = k := by omega
    refine ⟨?_, he, ?_⟩
    · simp only [hk, List.set_cons_succ, Fd.next]
    · simp only [hk, List.set_cons_succ, Fd.next, e]
theorem Near.num (k : Nat) : ∀ {f g : Fd} (a : Nat), Near P v f g → (f.num k a).2.at_ ≤ P → (g.num k a).1 = (f.num k a).1 ∧ Near P v (f.num k a).2 (g.num k a).2 := by
  induction k with
  | zero => intro f g a h _; exact ⟨rfl, h⟩
  | succ k ih =>
    intro f g a h he
    rw [Fd.num] at he
    obtain ⟨h1, h2⟩ := h.next (Nat.le_trans (num_at k _ _) he)
    rw [Fd.num, Fd.num, h1]
    exact ih _ h2 he
theorem Near.args (zs : List Int) : ∀ {f g : Fd} (a : List Int), Near P v f g → (f.args zs a).2.at_ ≤ P → (g.args zs a).1 = (f.args zs a).1 ∧ Near P v (f.args zs a).2 (g.args zs a).2 := by
  induction zs with
  | nil => intro f g a h _; exact ⟨rfl, h⟩
  | cons z zs ih =>
    intro f g a h he
    rw [Fd.args] at he
    obtain ⟨h1, h2⟩ := h.num z.natAbs 0 (Nat.le_trans (args_at zs _ _) he)
    rw [Fd.args, Fd.args, h1]
    exact ih _ h2 he
theorem Near.txt (n : Int) (h : Near P v f g) (he : (f.txt n).2.at_ ≤ P) : (g.txt n).1 = (f.txt n).1 ∧ Near P v (f.txt n).2 (g.txt n).2 := by
  obtain ⟨h1, rfl⟩ := h
  unfold Fd.txt at he ⊢
  simp only [List.length_set] at he ⊢
  split at he
  · rename_i hc; simp only [hc, if_true]; exact ⟨trivial, h1, rfl⟩
  · rename_i hc
    simp only [hc, if_false]
    simp only at he
    refine ⟨List.take_set_of_le (by omega), he, ?_⟩
    rw [List.drop_set, if_neg (by omega)]
    simp only [show P - (f.at_ + n.toNat) = P - f.at_ - n.toNat by omega]
theorem Near.tail (c : Nat) (xs : List Int) (h : Near P v f g) (he : (f.tail c xs).2.at_ ≤ P) : (g.tail c xs).1 = (f.tail c xs).1 ∧ Near P v (f.tail c xs).2 (g.tail c xs).2 := by
  unfold Fd.tail at he ⊢
  cases hc : textN c xs with
  | some n =>
    simp only [hc] at he ⊢
    exact h.txt _ he
  | none =>
    simp only [hc] at he ⊢
    refine ⟨trivial, ?_⟩
    split
    · obtain ⟨h1, rfl⟩ := h; exact ⟨h1, rfl⟩
    · exact h
theorem Near.cmd (h : Near P v f g) (he : f.cmd.2.at_ ≤ P) : g.cmd.1 = f.cmd.1 ∧ Near P v f.cmd.2 g.cmd.2 := by
  have e0 : g.at_ = f.at_ := by rw [h.2]
  have h2 : (f.next.2.args (sizesM f.next.1) []).2.at_ ≤ P := Nat.le_trans (tail_at f.next.1 (f.next.2.args (sizesM f.next.1) []).1 _) he
  obtain ⟨a1, a2⟩ := h.next (Nat.le_trans (args_at _ _ _) h2)
  obtain ⟨b1, b2⟩ := a2.args (sizesM f.next.1) [] h2
  obtain ⟨c1, c2⟩ := b2.tail f.next.1 (f.next.2.args (sizesM f.next.1) []).1 he
  unfold Fd.cmd
  simp only [e0, a1, b1, c1]
  exact ⟨trivial, c2⟩

/-- a whole 249 -/
theorem last_open (f : Fd) (hc : f.cmd.1.code = 249) (hl : f.cmd.2.lost = false) : f.lost = false ∧ ∃ b0 b1 b2 b3 b4 r, f.l = 249 :: b0 :: b1 :: b2 :: b3 :: b4 :: r := by
  obtain ⟨l, n, b⟩ := f
  have hb : b = false := by
    cases b with
    | false => rfl
    | true =>
      have := tail_lost (Fd.next ⟨l, n, true⟩).1 ((Fd.next ⟨l, n, true⟩).2.args (sizesM (Fd.next ⟨l, n, true⟩).1) []).1 _ (args_lost (sizesM (Fd.next ⟨l, n, true⟩).1) [] _ (next_lost ⟨l, n, true⟩ rfl))
      exact absurd (this.symm.trans hl) (by simp)
  subst hb
  refine ⟨rfl, ?_⟩
  cases l with
  | nil => simp [Fd.cmd, Fd.next] at hc
  | cons x l =>
    have hx : x = 249 := by
      simp only [Fd.cmd, Fd.next] at hc
      exact UInt8.toNat_inj.1 (hc.trans rfl)
    subst hx
    have hz : sizesM (249 : UInt8).toNat = [4, 1] := rfl
    rcases l with _ | ⟨b0, _ | ⟨b1, _ | ⟨b2, _ | ⟨b3, _ | ⟨b4, r⟩⟩⟩⟩⟩
    all_goals first
      | exact ⟨_, _, _, _, _, _, rfl⟩
      | (exfalso; revert hl; simp only [Fd.cmd, Fd.next, hz]; simp [Fd.args, Fd.num, Fd.next, Fd.tail, textN])
theorem last_arg (n : Nat) (b0 b1 b2 b3 b4 : UInt8) (r : List UInt8) : (Fd.cmd ⟨249 :: b0 :: b1 :: b2 :: b3 :: b4 :: r, n, false⟩).1.args.getD 0 0 = sgnV 4 false (((b0.toNat * 256 + b1.toNat) * 256 + b2.toNat) * 256 + b3.toNat) ∧
    (Fd.cmd ⟨249 :: b0 :: b1 :: b2 :: b3 :: b4 :: r, n, false⟩).1.code = 249 ∧ (Fd.cmd ⟨249 :: b0 :: b1 :: b2 :: b3 :: b4 :: r, n, false⟩).2 = ⟨r, n + 6, false⟩ := by
  have hz : sizesM (249 : UInt8).toNat = [4, 1] := rfl
  refine ⟨?_, rfl, ?_⟩
  · simp only [Fd.cmd, Fd.next, hz]
    simp [Fd.args, Fd.num, Fd.next]
  · simp only [Fd.cmd, Fd.next, hz]
    simp [Fd.args, Fd.num, Fd.next, Fd.tail, textN]
theorem sgn4_inj {x y : Nat} (hx : x < 4294967296) (hy : y < 4294967296) (h : sgnV 4 false x = sgnV 4 false y) : x = y := by
  unfold sgnV at h
  simp only [Bool.false_eq_true, false_or, true_and] at h
  split at h <;> split at h <;> omega

/-- so many bytes farther -/
def Past (f g : Fd) : Prop := ∃ m, g.at_ = f.at_ + m ∧ g.l = f.l.drop m
theorem Past.refl (f : Fd) : Past f f := ⟨0, rfl, rfl⟩
theorem Past.trans {f g h : Fd} (h1 : Past f g) (h2 : Past g h) : Past f h := by
  obtain ⟨m, a, b⟩ := h1
  obtain ⟨k, c, d⟩ := h2
  exact ⟨m + k, by omega, by rw [d, b, List.drop_drop]⟩
theorem past_next (f : Fd) : Past f f.next.2 := by
  unfold Fd.next
  split
  · rename_i x l hl; exact ⟨1, rfl, by rw [hl]; rfl⟩
  · rename_i hl; exact ⟨0, rfl, by rw [hl]; rfl⟩
theorem past_num : ∀ (k v : Nat) (f : Fd), Past f (f.num k v).2
  | 0, _, f => Past.refl f
  | k + 1, v, f => by rw [Fd.num]; exact (past_next f).trans (past_num k _ _)
theorem past_args : ∀ (zs acc : List Int) (f : Fd), Past f (f.args zs acc).2
  | [], _, f => Past.refl f
  | z :: zs, acc, f => by rw [Fd.args]; exact (past_num _ _ f).trans (past_args zs _ _)
theorem past_txt (n : Int) (f : Fd) : Past f (f.txt n).2 := by
  unfold Fd.txt
  split
  · exact ⟨0, rfl, rfl⟩
  · exact ⟨n.toNat, rfl, rfl⟩
theorem past_tail (c : Nat) (xs : List Int) (f : Fd) : Past f (f.tail c xs).2 := by
  unfold Fd.tail
  split
  · exact past_txt _ _
  · split
    · exact ⟨0, rfl, rfl⟩
    · exact Past.refl f
theorem past_cmd (f : Fd) : Past f f.cmd.2 := (past_next f).trans ((past_args _ _ _).trans (past_tail _ _ _))
theorem Past.get {f g : Fd} (h : Past f g) (P : Nat) (hP : g.at_ ≤ P) : g.l[P - g.at_]? = f.l[P - f.at_]? := by
  obtain ⟨m, a, b⟩ := h
  rw [b, List.getElem?_drop]
  congr 1
  omega

/-- the last command of all -/
theorem loopM_last : ∀ (n : Nat) (f : Fd) (F : FileM) (x : Fd × FileM), loopM n f F = some x →
    ∃ (e : Fd) (l0 : List Cmd), x.2.ops = l0 ++ [e.cmd.1] ∧ F.ops.length ≤ l0.length ∧ (F.part ≠ 2 → F.ops.length < l0.length) ∧ Past f e ∧ e.cmd.1.code = 249 ∧ e.cmd.2.lost = false ∧ x.1 = e.cmd.2
  | 0, _, _, _, h => by cases h
  | n + 1, f, F, x, h => by
    unfold loopM at h
    split at h
    · cases h
    · rename_i hn
      split at h
      · obtain ⟨e, l0, h1, h2, -, h3, h4⟩ := loopM_last n _ _ x h
        rw [(inside_keep _ _).2] at h2
        simp only [List.length_append, List.length_singleton] at h2
        exact ⟨e, l0, h1, by omega, fun _ => by omega, (past_cmd f).trans h3, h4⟩
      · split at h
        · rename_i hp
          cases h
          exact ⟨f, F.ops, by rw [fail_eq], Nat.le_refl _, fun h => absurd hp.1 h, Past.refl f, hp.2, by simpa using fun h => hn (.inl h), rfl⟩
        · obtain ⟨e, l0, h1, h2, -, h3, h4⟩ := loopM_last n _ _ x h
          rw [(outside_keep _ _).2] at h2
          simp only [List.length_append, List.length_singleton] at h2
          exact ⟨e, l0, h1, by omega, fun _ => by omega, (past_cmd f).trans h3, h4⟩

/-- with another last pointer it is none -/
theorem loopM_near (k : Nat) (hk : k < 4) : ∀ (n : Nat) (f g : Fd) (F : FileM) (x : Fd × FileM), loopM n f F = some x → x.2.bad = false → (∀ q, x.2.ops.getLast? = some q → P = q.at_ + 1 + k) → Near P v f g → f.l[P - f.at_]? ≠ some v →
    ∀ y, loopM n g F = some y → y.2.bad = true
  | 0, _, _, _, _, h, _, _, _, _, _, _ => by cases h
  | n + 1, f, g, F, x, h, hb, hP, hN, hv, y, hy => by
    have hlast := loopM_last (n + 1) f F x h
    unfold loopM at h hy
    split at h
    · cases h
    · rename_i hn
      have next : ∀ (F1 : FileM), loopM n f.cmd.2 F1 = some x → (g.cmd.1 = f.cmd.1 ∧ Near P v f.cmd.2 g.cmd.2) ∧ f.cmd.2.l[P - f.cmd.2.at_]? ≠ some v := fun F1 h1 => by
        obtain ⟨e, l0, h2, -, -, h3, -⟩ := loopM_last n _ _ x h1
        have h4 := hP e.cmd.1 (by rw [h2]; simp)
        have h5 : f.cmd.2.at_ ≤ e.at_ := by obtain ⟨m, a, -⟩ := h3; omega
        have h6 : e.cmd.1.at_ = e.at_ := rfl
        have h7 : f.cmd.2.at_ ≤ P := by omega
        exact ⟨hN.cmd h7, by rw [(past_cmd f).get P h7]; exact hv⟩
      split at h
      · rename_i hp
        obtain ⟨⟨c1, c2⟩, c3⟩ := next _ h
        rw [if_neg (by rw [c2.2]; exact hn), if_pos hp, c1] at hy
        exact loopM_near k hk n _ _ _ x h hb hP c2 c3 y hy
      · rename_i hp
        split at h
        · rename_i hp2
          obtain ⟨e, l0, h2, -⟩ := hlast
          cases h
          have h4 := hP f.cmd.1 (by rw [fail_eq]; simp)
          have h6 : f.cmd.1.at_ = f.at_ := rfl
          obtain ⟨hlo, b0, b1, b2, b3, b4, r, hl⟩ := last_open f hp2.2 (by simpa using fun h => hn (.inl h))
          have hk2 : P - f.at_ = 1 + k := by omega
          obtain ⟨l, a, b⟩ := f
          simp only at hlo hl hk2
          subst hlo hl
          obtain ⟨-, hg⟩ := hN
          simp only [hk2] at hg hv
          rw [fail_eq] at hb
          simp only [Bool.or_eq_false_iff, Bool.not_eq_false', beq_iff_eq] at hb
          have e1 := (last_arg a b0 b1 b2 b3 b4 r).1
          rw [hb.2.1] at e1
          have hlt := fun (c : UInt8) => c.toNat_lt
          have l0' := hlt b0
          have l1' := hlt b1
          have l2' := hlt b2
          have l3' := hlt b3
          have lv' := hlt v
          have hne : ∀ c : UInt8, c ≠ v → v.toNat ≠ c.toNat := fun c h h2 => h (UInt8.toNat_inj.1 h2.symm)
          obtain rfl | rfl | rfl | rfl : k = 0 ∨ k = 1 ∨ k = 2 ∨ k = 3 := by omega
          all_goals
            simp only [List.set_cons_succ, List.set_cons_zero, Nat.reduceAdd] at hg
            simp only [List.getElem?_cons_succ, List.getElem?_cons_zero, Nat.reduceAdd, ne_eq, Option.some.injEq] at hv
            have hv2 := hne _ hv
            subst hg
          · obtain ⟨d1, d2, d3⟩ := last_arg a v b1 b2 b3 b4 r
            rw [d3, d2, if_neg (by simpa using fun h => hn (.inr h)), if_neg hp, if_pos ⟨hp2.1, rfl⟩, d1] at hy
            cases hy
            rw [fail_eq]
            simp only [Bool.or_eq_true, Bool.not_eq_true', beq_eq_false_iff_ne]
            refine .inr (.inl fun h => ?_)
            have := sgn4_inj (by omega) (by omega) (h.trans e1)
            omega
          · obtain ⟨d1, d2, d3⟩ := last_arg a b0 v b2 b3 b4 r
            rw [d3, d2, if_neg (by simpa using fun h => hn (.inr h)), if_neg hp, if_pos ⟨hp2.1, rfl⟩, d1] at hy
            cases hy
            rw [fail_eq]
            simp only [Bool.or_eq_true, Bool.not_eq_true', beq_eq_false_iff_ne]
            refine .inr (.inl fun h => ?_)
            have := sgn4_inj (by omega) (by omega) (h.trans e1)
            omega
          · obtain ⟨d1, d2, d3⟩ := last_arg a b0 b1 v b3 b4 r
            rw [d3, d2, if_neg (by simpa using fun h => hn (.inr h)), if_neg hp, if_pos ⟨hp2.1, rfl⟩, d1] at hy
            cases hy
            rw [fail_eq]
            simp only [Bool.or_eq_true, Bool.not_eq_true', beq_eq_false_iff_ne]
            refine .inr (.inl fun h => ?_)
            have := sgn4_inj (by omega) (by omega) (h.trans e1)
            omega
          · obtain ⟨d1, d2, d3⟩ := last_arg a b0 b1 b2 v b4 r
            rw [d3, d2, if_neg (by simpa using fun h => hn (.inr h)), if_neg hp, if_pos ⟨hp2.1, rfl⟩, d1] at hy
            cases hy
            rw [fail_eq]
            simp only [Bool.or_eq_true, Bool.not_eq_true', beq_eq_false_iff_ne]
            refine .inr (.inl fun h => ?_)
            have := sgn4_inj (by omega) (by omega) (h.trans e1)
            omega
        · rename_i hp2
          obtain ⟨⟨c1, c2⟩, c3⟩ := next _ h
          rw [if_neg (by rw [c2.2]; exact hn), if_neg hp, c1, if_neg hp2] at hy
          exact loopM_near k hk n _ _ _ x h hb hP c2 c3 y hy

theorem lastM_bad (l : List UInt8) (o : Cmd) (g : Fd) (F : FileM) (h : F.bad = true) : (lastM l o g F).bad = true := by
  unfold lastM
  simp only [fail_eq, h, Bool.true_or]
theorem lastM_fill (l : List UInt8) (o : Cmd) (g : Fd) (F : FileM) (h : (lastM l o g F).bad = false) : fillBad g.l.length l.length = false ∧ F.bad = false := by
  unfold lastM at h
  simp only [fail_eq, Bool.or_eq_false_iff] at h
  exact ⟨h.1.1.2, h.1.1.1.1⟩
/-- a file, taken apart -/
theorem whole_open {K : List (Cmd × Value)} {l : List UInt8} {F : FileM} (h : wholeM K l = some F) :
    (Fd.cmd ⟨l, 0, false⟩).2.lost = false ∧ firstOk (Fd.cmd ⟨l, 0, false⟩).1 = true ∧ ∃ g G, loopM (l.length + 1) (Fd.cmd ⟨l, 0, false⟩).2 { FileM.new with ops := [(Fd.cmd ⟨l, 0, false⟩).1], keep := K } = some (g, G) ∧
      F = lastM l (Fd.cmd ⟨l, 0, false⟩).1 g G ∧ F.bad = false := by
  unfold wholeM at h
  split at h
  · cases h
  · rename_i hn
    refine ⟨by simpa using fun h => hn (.inl h), by simpa using fun h => hn (.inr h), ?_⟩
    split at h
    · cases h
    · rename_i g G hg
      split at h
      · cases h
      · rename_i hb
        cases h
        exact ⟨g, G, hg, rfl, by simpa using hb⟩
theorem lastM_ops (l : List UInt8) (o : Cmd) (g : Fd) (F : FileM) : (lastM l o g F).ops = F.ops ∧ (lastM l o g F).again = F.again ∧ (lastM l o g F).post = F.post := by
  unfold lastM
  simp only [fail_eq]
  exact ⟨trivial, trivial, trivial⟩
theorem whole_mod {K : List (Cmd × Value)} {l : List UInt8} {F : FileM} (h : wholeM K l = some F) : l.length % 4 = 0 ∧ 4 ≤ l.length := by
  obtain ⟨h1, h2, g, G, h3, h4, h5⟩ := whole_open h
  rw [h4] at h5
  have h6 := (lastM_fill _ _ _ _ h5).1
  unfold fillBad at h6
  simp only [Bool.or_eq_false_iff, decide_eq_false_iff_not, Bool.not_eq_false', beq_iff_eq] at h6
  obtain ⟨e, l0, a1, -, -, a2, a3, a4, a5⟩ := loopM_last _ _ _ _ h3
  simp only at a5
  have a6 := ((past_cmd ⟨l, 0, false⟩).trans a2).trans (past_cmd e)
  rw [← a5] at a6
  obtain ⟨m, b1, b2⟩ := a6
  have b3 := congrArg List.length b2
  simp only [List.length_drop] at b3
  omega
theorem whole_last {K : List (Cmd × Value)} {l : List UInt8} {F : FileM} (h : wholeM K l = some F) : 3 ≤ F.ops.length ∧ ∃ q, F.ops.getLast? = some q ∧ q.at_ + 6 ≤ l.length := by
  obtain ⟨h1, h2, g, G, h3, h4, h5⟩ := whole_open h
  obtain ⟨e, l0, a1, -, a2, a3, a4, a5, a6⟩ := loopM_last _ _ _ _ h3
  have a7 : 1 < l0.length := a2 (by simp [FileM.new])
  simp only at a1
  rw [h4, (lastM_ops _ _ _ _).1, a1]
  refine ⟨by simp only [List.length_append, List.length_singleton]; omega, e.cmd.1, by simp, ?_⟩
  have h6 : e.cmd.1.at_ = e.at_ := rfl
  obtain ⟨b1, c0, c1, c2, c3, c4, r, hl⟩ := last_open e a4 a5
  obtain ⟨m, d1, d2⟩ := (past_cmd ⟨l, 0, false⟩).trans a3
  have d3 := congrArg List.length d2
  rw [hl] at d3
  simp only [List.length_drop, List.length_cons] at d3
  simp only at d1
  omega
theorem whole_other {l : List UInt8} {F : FileM} {q : Cmd} {k : Nat} {c : UInt8} (h : wholeM [] l = some F) (hq : F.ops.getLast? = some q) (hk : k < 4) (hc : l[q.at_ + 1 + k]? = some c) (hv : v ≠ c) : wholeM [] (l.set (q.at_ + 1 + k) v) = none := by
  obtain ⟨h1, h2, g, G, h3, h4, h5⟩ := whole_open h
  obtain ⟨e, l0, a1, -, a2, a3, a4, a5, a6⟩ := loopM_last _ _ _ _ h3
  simp only at a1
  rw [h4, (lastM_ops _ _ _ _).1] at hq
  have hqe : q = e.cmd.1 := by rw [a1] at hq; simpa using hq.symm
  have h6 : e.cmd.1.at_ = e.at_ := rfl
  obtain ⟨P, hP⟩ : ∃ P, q.at_ + 1 + k = P := ⟨_, rfl⟩
  rw [hP] at hc ⊢
  have hN : Near P v ⟨l, 0, false⟩ ⟨l.set P v, 0, false⟩ := ⟨Nat.zero_le _, rfl⟩
  have hle : (Fd.cmd ⟨l, 0, false⟩).2.at_ ≤ P := by
    obtain ⟨m, b1, -⟩ := a3
    rw [hqe] at hP
    omega
  obtain ⟨c1, c2⟩ := hN.cmd hle
  have c3 := (past_cmd ⟨l, 0, false⟩).get P hle
  rw [h4] at h5
  have hb := (lastM_fill _ _ _ _ h5).2
  have hnear := loopM_near (P := P) (v := v) k hk _ _ (Fd.cmd ⟨l.set P v, 0, false⟩).2 _ _ h3 hb (fun q' hq' => by
    rw [hq] at hq'
    cases hq'
    exact hP.symm) c2 (by
    rw [c3]
    simp only [Nat.sub_zero]
    rw [hc]
    simp only [ne_eq, Option.some.injEq]
    exact fun h => hv h.symm)
  unfold wholeM
  rw [c1, c2.2, List.length_set]
  rw [c2.2] at hnear
  split
  · rfl
  · cases hy : loopM (l.length + 1) ⟨(Fd.cmd ⟨l, 0, false⟩).2.l.set (P - (Fd.cmd ⟨l, 0, false⟩).2.at_) v, (Fd.cmd ⟨l, 0, false⟩).2.at_, (Fd.cmd ⟨l, 0, false⟩).2.lost⟩ { FileM.new with ops := [(Fd.cmd ⟨l, 0, false⟩).1], keep := [] } with
    | none => rfl
    | some y =>
      have := hnear y hy
      obtain ⟨g', G'⟩ := y
      simp only
      rw [if_pos (lastM_bad _ _ _ _ this)]

/-- what the law asks: three answers -/
theorem err_zero {l : List UInt8} : errM l = 0 ↔ l.length ≤ 1048576 ∧ (wholeM [] l).isSome = true := by
  unfold errM
  by_cases h1 : 1048576 < l.length
  · rw [if_pos h1]
    exact ⟨fun h => absurd h (by decide), fun h => by omega⟩
  · rw [if_neg h1]
    by_cases h2 : (wholeM [] l).isSome = true
    · rw [if_pos h2]; exact ⟨fun _ => ⟨by omega, h2⟩, fun _ => rfl⟩
    · rw [if_neg h2]; exact ⟨fun h => absurd h (by decide), fun h3 => absurd h3.2 h2⟩
theorem err_less {l' : List UInt8} (hl : l'.length % 4 ≠ 0) : errM l' ≠ 0 := by
  intro h2
  obtain ⟨-, h3⟩ := err_zero.1 h2
  cases hh : wholeM [] l' with
  | none => rw [hh] at h3; cases h3
  | some F => exact hl (whole_mod hh).1
theorem err_mod {l : List UInt8} (h : errM l = 0) : l.length % 4 = 0 ∧ 4 ≤ l.length ∧ l.length ≤ 1048576 := by
  obtain ⟨h1, h3⟩ := err_zero.1 h
  cases hh : wholeM [] l with
  | none => rw [hh] at h3; cases h3
  | some F => exact ⟨(whole_mod hh).1, (whole_mod hh).2, h1⟩
theorem ops_last {l : List UInt8} (h : errM l = 0) : 3 ≤ (opsM l).length ∧ ∃ q, (opsM l).getLast? = some q ∧ q.at_ + 6 ≤ l.length ∧ ∀ k c v, k < 4 → l[q.at_ + 1 + k]? = some c → v ≠ c → errM (l.set (q.at_ + 1 + k) v) = 240 := by
  obtain ⟨h1, h3⟩ := err_zero.1 h
  cases hh : wholeM [] l with
  | none => rw [hh] at h3; cases h3
  | some F =>
    have e : opsM l = F.ops := by unfold opsM fileM; rw [if_neg (by omega), hh]
    rw [e]
    obtain ⟨a, q, b, c⟩ := whole_last hh
    refine ⟨a, q, b, c, fun k c v hk hc hv => ?_⟩
    unfold errM
    rw [List.length_set, if_neg (by omega), whole_other hh b hk hc hv]
    rfl

end Go.Proofs.Ytjeinldhbajknaa

/-
  DvidecSpoilt's walk. Conditions: those that each theorem names.
-/
namespace Go.Proofs.Ytjeinldhbajknaa
open Go.RowKit Go.Sp Go.Conc
variable {W w w' : World} {A G : HProp}

theorem rd_take {a : Option Addr} {n cap m : Nat} {l : List UInt8} (h : Rd w (.slice a n cap) l.length 1 (l.map byteV)) (hm : m ≤ l.length) : Rd w (.slice a m cap) (l.take m).length 1 ((l.take m).map byteV) := by
  obtain ⟨h1, h2, a', c', e, h3⟩ := h
  cases e
  have hlt : (l.take m).length = m := by rw [List.length_take]; omega
  exact ⟨by rw [List.length_map]; omega, by omega, a, cap, by rw [hlt], fun j u hu => h3 j u (by
    rw [List.map_take, List.getElem?_take] at hu
    split at hu
    · exact hu
    · cases hu)⟩
theorem empty_row (h : Sat W A w) : Sat W (rowB (.slice (some ⟨w.heap.size, 0, none⟩) 0 0) [] * A) (w.alloc (.cells #[] 5)) :=
  Sat.row_whole (e := 5) 0 (h.alloc (.cells #[] 5)) (Nat.zero_le _) rfl

theorem flatO_get : ∀ (V : List (Cmd × Value)) (j k : Nat) (x : Cmd × Value), k < 4 → V[j]? = some x → (flatO V)[j * 4 + k]? = (x.1.vals x.2)[k]?
  | [], j, k, x, _, h => by simp at h
  | y :: V, 0, k, x, hk, h => by
    simp only [List.getElem?_cons_zero, Option.some.injEq] at h
    subst h
    have e : flatO (y :: V) = y.1.vals y.2 ++ flatO V := by simp [flatO]
    rw [e, List.getElem?_append_left (by simp [Cmd.vals]; omega), Nat.zero_mul, Nat.zero_add]
  | y :: V, j + 1, k, x, hk, h => by
    simp only [List.getElem?_cons_succ] at h
    have e : flatO (y :: V) = y.1.vals y.2 ++ flatO V := by simp [flatO]
    have e2 : (y.1.vals y.2).length = 4 := rfl
    rw [e, List.getElem?_append_right (by omega), e2, show (j + 1) * 4 + k - 4 = j * 4 + k by omega]
    exact flatO_get V j k x hk h

theorem wrap64_mid {x : Int} (h1 : -4000000000 ≤ x) (h2 : x ≤ 4000000000) : wrap64 x = x := by unfold wrap64; omega
set_option maxRecDepth 100000 in
set_option maxHeartbeats 8000000 in
theorem spoilt_law {l : List UInt8} {a : Option Addr} {cap : Nat} (i : Int) (hl : l.length ≤ 1048576) (hcap : l.length ≤ cap) (hv : Rd w (.slice a l.length cap) l.length 1 (l.map byteV)) :
    Calls Try.prog 5 #[.slice a l.length cap, .int .i64 i] w fun e w' => e = .returned (.bool true) ∧ Sat w (own w) w' := by
  have HCK := Lib.hid (check_any hv)
  have HV := Lib.hid hv
  have HL := Lib.hid hl
  clear hv hl
  go_enter Try.func5, Try.ntmps5
  go_wp2_with fail
  with_reducible refine Calls.mono HCK.out ?_
  rintro e w1 ⟨rfl, h1⟩
  obtain ⟨x, hx⟩ : ∃ x, errM l = x := ⟨_, rfl⟩
  rw [hx]
  have H1 := Lib.hid h1
  have HX := Lib.hid hx
  clear h1 hx HCK
  by_cases hz : x = 0
  rotate_left
  · have hzb : (x != 0) = true := by simpa using hz
    go_wp2_with (first | (go_at_call 10; with_reducible refine Calls.mono (num_any _ _) ?_; rintro e _ ⟨rfl, rfl⟩) | fail)
    with_reducible refine Calls.mono (live_any H1.out) ?_
    rintro e w2 ⟨rfl, h2⟩
    have H2 := Lib.hid h2
    clear h2
    go_wp2
    go_ret
    exact ⟨rfl, H2.out⟩
  subst hz
  have HO := Lib.hid (ops_any (HV.out.ext H1.out.toExt))
  rw [HX.out] at HO
  go_wp2_with (first | (go_at_call 10; with_reducible refine Calls.mono (num_any _ _) ?_; rintro e _ ⟨rfl, rfl⟩) | fail)
  with_reducible refine Calls.mono HO.out ?_
  rintro e w2 ⟨V, ov, hV, rfl, h2⟩
  obtain ⟨o3, q, oq, oe, oth⟩ := ops_last HX.out
  have hvl : V.length = (opsM l).length := by rw [← hV, List.length_map]
  have hvq : ∃ vq, V[V.length - 1]? = some (q, vq) := by
    rw [← hV, List.getLast?_map] at oq
    rw [List.getLast?_eq_getElem?] at oq
    cases hh : V[V.length - 1]? with
    | none => rw [hh] at oq; cases oq
    | some y =>
      rw [hh] at oq
      simp only [Option.map_some, Option.some.injEq] at oq
      exact ⟨y.2, by rw [← oq]⟩
  obtain ⟨vq, hvq⟩ := hvq
  obtain ⟨oa, oc, hov, hoat⟩ := h2.row_val
  have hget : (flatO V)[(V.length - 1) * 4 + 1]? = some (.int .i64 q.at_) := (flatO_get V (V.length - 1) 1 _ (by decide) hvq).trans rfl
  obtain ⟨og, hoa, hqc⟩ := hoat _ _ hget
  subst hoa hov
  have hn3 : 3 ≤ V.length := by omega
  obtain ⟨em1, em2, -⟩ := err_mod HX.out
  have HV3 := Lib.hid h2.row_len
  have h3 := Sat.frame H1.out (A := row (.slice (some ⟨og, 0, none⟩) V.length oc) V.length 33 4 (flatO V) * argsH V) (h2.of_eq (by ac_rfl))
  obtain ⟨R, hR⟩ : ∃ R, row (.slice (some ⟨og, 0, none⟩) V.length oc) V.length 33 4 (flatO V) * argsH V * own w = R := ⟨_, rfl⟩
  rw [hR] at h3
  obtain ⟨ga, oa, ha⟩ : ∃ ga oa, a = some ⟨ga, oa, none⟩ := by
    obtain ⟨_, _, a', c', e, h4⟩ := HV.out
    obtain ⟨g, o, h5, -⟩ := h4 0 _ (List.getElem?_eq_getElem (by rw [List.length_map]; omega))
    cases e
    exact ⟨g, o, h5⟩
  subst ha
  have HRR := Lib.hid (show ∀ w', Sat w R w' → Sat w (own w) w' ∧ Rd w' (.slice (some ⟨ga, oa, none⟩) l.length cap) l.length 1 (l.map byteV) ∧ w'.cell? ⟨og, (V.length - 1) * 4 + 1, none⟩ = some (.int .i64 q.at_) from fun w' h => by
    rw [← hR] at h
    obtain ⟨_, _, e1, e2⟩ := h.asc.row_val
    obtain ⟨g, e3, e4⟩ := e2 _ _ hget
    simp only [Value.slice.injEq] at e1
    obtain ⟨e1, -, -⟩ := e1
    rw [e3] at e1
    simp only [Option.some.injEq, Addr.mk.injEq] at e1
    obtain ⟨rfl, -, -⟩ := e1
    exact ⟨h.r, HV.out.ext h.r.toExt, e4⟩)
  have H3 := Lib.hid h3
  have HOT := Lib.hid oth
  clear h2 hR h3 hget hV hvq hoat oth H1 HO hvl oq hqc o3
  obtain ⟨i0, hi, hz0, hz1, hz2⟩ := info_parts3B info_u8B
  have HI := Lib.hid hi
  have HZ0 := Lib.hid hz0
  have HZ1 := Lib.hid hz1
  have HZ2 := Lib.hid hz2
  clear hi hz0 hz1 hz2
  obtain ⟨m, hm⟩ : ∃ m, l.length = m + 1 := ⟨l.length - 1, by omega⟩
  have HVB := Lib.hid (show V.length ≤ 9223372036854775807 from by
    have h := (HV3.out).2
    simp only [maxLen] at h
    exact h)
  have hn3i : ¬ ((V.length : Int) < 3) := by omega
  have hwm : wrap64 ((l.length : Int) - 1) = (m : Int) := by rw [hm]; unfold wrap64; have := HL.out; omega
  have HM := Lib.hid hm
  have hmc : (m : Int) ≤ (cap : Int) := by omega
  clear hm
  have htk : (l.take m).length = m := by rw [List.length_take, HM.out]; omega
  have HTK := Lib.hid htk
  clear htk
  have HR3 := Lib.hid (HRR.out _ H3.out)
  have hrd0 : Rd (w2.alloc (.cells #[] 5)) (.slice (some ⟨ga, oa, none⟩) m cap) m 1 (bytesB (l.take m)) := by
    have h := rd_take (m := m) HR3.out.2.1 (by rw [HM.out]; omega)
    rw [HTK.out] at h
    exact h.ext ((Ext.refl w2).alloc)
  have HRD0 := Lib.hid hrd0
  clear hrd0 HR3
  go_wp2_with (first | (go_at_call 10; with_reducible refine Calls.mono (num_any _ _) ?_; rintro e _ ⟨rfl, rfl⟩) | (at_builtin; refine wpList_append_rd rfl _ _ 22 rfl i0 _ 1 Try.underlying22 HI.out HZ0.out HZ1.out HZ2.out rfl (by decide) rfl (empty_row H3.out) (.slice (some ⟨ga, oa, none⟩) m cap) m (bytesB (l.take m)) rfl ?_ ?_ ?_ ?_ ?_))
  · exact HRD0.out
  · exact bytesB_one _
  · have := HL.out; have := HM.out; simp [maxLen]; omega
  · have := HL.out; have := HM.out; simp; omega
  intro v7 w4 h4
  have H4 := Lib.hid (show Sat w (rowB v7 (l.take m) * R) w4 from rowB_app (acc := []) (l := l.take m) h4 (by rw [HTK.out]; simp) rfl)
  clear h4 H3 HRD0
  have HRD1 := Lib.hid ((HRR.out _ H4.out.r).2.1.ext ((Ext.refl w4).alloc (o := .cells #[] 5)))
  go_wp2_with (at_builtin; refine wpList_append_rd rfl _ _ 22 rfl i0 _ 1 Try.underlying22 HI.out HZ0.out HZ1.out HZ2.out rfl (by decide) rfl (empty_row H4.out) (.slice (some ⟨ga, oa, none⟩) l.length cap) l.length (bytesB (l)) rfl ?_ ?_ ?_ ?_ ?_)
  · exact HRD1.out
  · exact bytesB_one _
  · have := HL.out; have := HM.out; simp [maxLen]; omega
  · have := HL.out; have := HM.out; simp; omega
  intro v8 w5 h5
  have H5 := Lib.hid (show Sat w (rowB v8 l * (rowB v7 (l.take m) * R)) w5 from rowB_app (acc := []) (l := l) h5 (by simp) rfl)
  clear h5 H4 HRD1
  go_wp2_with (at_builtin; refine wpList_append_sep rfl _ _ 22 rfl i0 _ 1 Try.underlying22 HI.out HZ0.out HZ1.out HZ2.out rfl rfl H5.out.allocD ⟨w5.heap.size, 0, none⟩ 1 1 (bytesB [223]) rfl rfl ?_ ?_ ?_ ?_ ?_)
  · exact new_cells _ _ _
  · exact bytesB_one _
  · have := HL.out; simp [maxLen]; omega
  · have := HL.out; simp; omega
  intro v9 w6 h6
  have H6 := Lib.hid (show Sat w (rowB v9 (l ++ [223]) * (rowB v7 (l.take m) * R)) w6 from rowB_app (acc := l) (l := [223]) h6 rfl rfl)
  clear h6 H5
  have HRD2 := Lib.hid ((HRR.out _ H6.out.r.r).2.1.ext ((Ext.refl w6).alloc (o := .cells #[] 5)))
  go_wp2_with (at_builtin; refine wpList_append_rd rfl _ _ 22 rfl i0 _ 1 Try.underlying22 HI.out HZ0.out HZ1.out HZ2.out rfl (by decide) rfl (empty_row H6.out) (.slice (some ⟨ga, oa, none⟩) l.length cap) l.length (bytesB (l)) rfl ?_ ?_ ?_ ?_ ?_)
  · exact HRD2.out
  · exact bytesB_one _
  · have := HL.out; have := HM.out; simp [maxLen]; omega
  · have := HL.out; have := HM.out; simp; omega
  intro v10 w7 h7
  have H7 := Lib.hid (show Sat w (rowB v10 l * (rowB v9 (l ++ [223]) * (rowB v7 (l.take m) * R))) w7 from rowB_app (acc := []) (l := l) h7 (by simp) rfl)
  clear h7 H6 HRD2
  obtain ⟨nv, hnv⟩ : ∃ nv, V.length = nv + 1 := ⟨V.length - 1, by omega⟩
  have hwv : wrap64 ((V.length : Int) - 1) = (nv : Int) := by rw [hnv]; unfold wrap64; have := HVB.out; omega
  have hqc := (HRR.out _ H7.out.r.r.r).2.2
  rw [hnv, Nat.add_sub_cancel] at hqc
  have hb1 : (nv : Int) < (V.length : Int) := by omega
  have hb2 : (0 : Int) ≤ (nv : Int) := by omega
  clear hnv
  have hidx : ∃ k : Nat, k < 4 ∧ wrap64 (wrap64 ((q.at_ : Int) + 1) + (wrap64 (i.tmod 4 + 4)).tmod 4) = (q.at_ : Int) + 1 + k := by
    have r1 := Int.lt_tmod_of_pos i (b := 4) (by decide)
    have r2 := Int.tmod_lt_of_pos i (b := 4) (by decide)
    have hL := HL.out
    have hq : (q.at_ : Int) + 6 ≤ 1048576 := by omega
    have hq0 : (0 : Int) ≤ (q.at_ : Int) := by omega
    generalize (q.at_ : Int) = z at *
    generalize i.tmod 4 = r at *
    have e1 : wrap64 (r + 4) = r + 4 := wrap64_mid (by omega) (by omega)
    rw [e1, Int.tmod_eq_emod_of_nonneg (by omega), wrap64_mid (x := z + 1) (by omega) (by omega)]
    have e2 : 0 ≤ (r + 4) % 4 ∧ (r + 4) % 4 < 4 := by omega
    generalize (r + 4) % 4 = t at *
    exact ⟨t.toNat, by omega, by rw [wrap64_mid (by omega) (by omega)]; omega⟩
  obtain ⟨k, hk4, hidx⟩ := hidx
  have HIDX := Lib.hid hidx
  clear hidx
  obtain ⟨j, hj⟩ : ∃ j, q.at_ + 1 + k = j := ⟨_, rfl⟩
  have hjl : j < l.length := by omega
  obtain ⟨a10, c10, hv10, hc10, hat10⟩ := rowB_val (l := l) H7.out
  obtain ⟨g10, ha10, -⟩ := hat10 j hjl
  subst hv10 ha10
  obtain ⟨c, hcj⟩ : ∃ c, l[j] = c := ⟨_, rfl⟩
  have hjc : l[j]? = some c := by rw [List.getElem?_eq_getElem hjl, hcj]
  have hcell : w7.cell? ⟨g10, j, none⟩ = some (.int .u8 c.toNat) := (Sat.row_cell (xs := bytesB l) H7.out (by simp [bytesB, hjc]))
  have hfree : w7.frozen? ⟨g10, j, none⟩ = false := Sat.row_free (xs := bytesB l) H7.out
  have hblt : g10 < w7.heap.size := World.block_lt_of_cell? w7 _ hcell
  have hj0 : (0 : Int) ≤ (j : Int) := by omega
  have hj1 : (j : Int) < (l.length : Int) := by omega
  have HOT2 := Lib.hid (HOT.out k c (c + 1) hk4 (by rw [hj]; exact hjc) (by
    intro h
    have := congrArg UInt8.toNat h
    rw [UInt8.toNat_add] at this
    have h1 := c.toNat_lt
    have h2 : (1 : UInt8).toNat = 1 := rfl
    omega))
  rw [hj] at HOT2
  have h8 := Sat.row_set (xs := bytesB l) (i := j) (u := .int .u8 (((c + 1 : UInt8).toNat : Nat) : Int)) H7.out
  have hset : (bytesB l).set j (.int .u8 (((c + 1 : UInt8).toNat : Nat) : Int)) = bytesB (l.set j (c + 1)) := by simp [bytesB, List.map_set]
  rw [hset] at h8
  have hwb : (((c.toNat : Nat) : Int) + 1) % 256 = (((c + 1 : UInt8).toNat : Nat) : Int) := by
    rw [UInt8.toNat_add]
    have h2 : (1 : UInt8).toNat = 1 := rfl
    omega
  generalize c + 1 = c2 at *
  have H8 := Lib.hid h8
  have HJC := Lib.hid hjc
  have hjz : (q.at_ : Int) + 1 + k = (j : Int) := by omega
  have HJZ := Lib.hid hjz
  clear hat10 hcj hjc h8 hset hj hjz
  go_upto_region 10 with fail
  rw [HIDX.out, HJZ.out]
  clear HIDX HJZ hqc hwv hb1 hb2
  generalize (wrap64 (i.tmod 4 + 4)).tmod 4 = z1 at *
  generalize wrap64 (i.tmod 4 + 4) = z2 at *
  generalize i.tmod 4 = z3 at *
  go_upto_region 11 with fail
  have h9 : Sat w (rowB (.slice (some ⟨g10, 0, none⟩) l.length c10) (l.set j c2) * _) _ := H8.out.of_eq (by unfold rowB; rw [List.length_set])
  generalize w7.setCell ⟨g10, j, none⟩ (.int .u8 (c2.toNat : Int)) = W8 at *
  have HK7 := Lib.hid (check_any (rowB_rd h9.r.r))
  have HN7 := Lib.hid (show errM (l.take m) ≠ 0 from err_less (by rw [HTK.out]; have := HM.out; omega))
  have HN9 := Lib.hid (show errM (l ++ [223]) ≠ 0 from err_less (by simp; omega))
  have H9 := Lib.hid h9
  clear h9 H7 H8 hcell hfree hblt hj0 hj1 hwb
  generalize errM (l.take m) = x7 at *
  go_wp2_with fail
  with_reducible refine Calls.mono HK7.out ?_
  rintro e w8 ⟨rfl, h10⟩
  have h11 := H9.out.thru h10
  have HK9 := Lib.hid (check_any (rowB_rd h11.r))
  have H11 := Lib.hid h11
  have hx7 : (x7 != 0) = true := by simpa using HN7.out
  have hx7b : ¬ (x7 = 0) := HN7.out
  clear h10 h11 H9 HK7
  generalize errM (l ++ [223]) = x9 at *
  go_wp2_with (first | (go_at_call 10; with_reducible refine Calls.mono (num_any _ _) ?_; rintro e _ ⟨rfl, rfl⟩) | fail)
  with_reducible refine Calls.mono HK9.out ?_
  rintro e w9 ⟨rfl, h10⟩
  have h11 := H11.out.thru h10
  have HK10 := Lib.hid (check_any (rowB_rd h11))
  rw [HOT2.out] at HK10
  have H12 := Lib.hid h11
  have hx9 : (x9 != 0) = true := by simpa using HN9.out
  have hx9b : ¬ (x9 = 0) := HN9.out
  clear h10 h11 H11 HK9
  go_wp2_with (first | (go_at_call 10; with_reducible refine Calls.mono (num_any _ _) ?_; rintro e _ ⟨rfl, rfl⟩) | fail)
  with_reducible refine Calls.mono HK10.out ?_
  rintro e w10 ⟨rfl, h10⟩
  have h11 := H12.out.thru h10
  have HLV := Lib.hid (live_any (h11.r.r.r))
  clear h10 h11 H12 HK10
  go_wp2_with (first | (go_at_call 10; with_reducible refine Calls.mono (num_any _ _) ?_; rintro e _ ⟨rfl, rfl⟩) | fail)
  with_reducible refine Calls.mono HLV.out ?_
  rintro e w11 ⟨rfl, h12⟩
  have H13 := Lib.hid (HRR.out _ h12).1
  clear h12 HLV
  go_wp2
  go_ret
  exact ⟨rfl, H13.out⟩
theorem spoilt_ext {l : List UInt8} {a : Option Addr} {cap : Nat} (i : Int) (hl : l.length ≤ 1048576) (hcap : l.length ≤ cap) (hv : Rd w (.slice a l.length cap) l.length 1 (l.map byteV)) :
    Calls Try.prog 5 #[.slice a l.length cap, .int .i64 i] w fun e w' => e = .returned (.bool true) ∧ Ext w w' :=
  (spoilt_law i hl hcap hv).mono fun _ _ h => ⟨h.1, h.2.toExt⟩

end Go.Proofs.Ytjeinldhbajknaa
