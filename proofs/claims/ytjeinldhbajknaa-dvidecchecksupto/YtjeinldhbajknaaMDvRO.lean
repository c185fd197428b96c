import Derived.Test.YtjeinldhbajknaaMRH
import Derived.Test.YtjeinldhbajknaaMQ
/-
  The two readings of a file agree. Conditions: none.
-/
namespace Go.Proofs.Ytjeinldhbajknaa
open Go.RowKit Go.Sp Go.Conc

theorem foundM_le (n : Int) : ∀ l : List DefM, foundM n l ≤ l.length
  | [] => Nat.le_refl _
  | d :: l => by
    have := foundM_le n l
    rw [foundM]; split <;> simp only [List.length_cons] <;> omega
theorem foundM_snoc (n : Int) (d : DefM) : ∀ l : List DefM, foundM n (l ++ [d]) = if foundM n l < l.length then foundM n l else if d.num = n then l.length else l.length + 1
  | [] => by
    rw [List.nil_append, foundM]
    simp [foundM]
  | x :: l => by
    have ih := foundM_snoc n d l
    have hle := foundM_le n l
    rw [List.cons_append, foundM, foundM]
    by_cases hx : x.num = n
    · simp [hx]
    · simp only [hx, if_false, ih, List.length_cons]
      repeat' split
      all_goals omega

/-- the program's reading and the document's, at the same command -/
structure Rel (o0 : Cmd) (F : FileM) (s : StM) : Prop where
  first : firstOk o0 = true
  part : s.part = F.part + 1
  pt : F.part = 0 ∨ F.part = 1 ∨ F.part = 2
  bad : F.bad = false
  pre : s.pre = o0
  last : F.last = s.last
  pages : F.pages = s.pages
  top : F.top = s.most
  again : F.again = s.again
  nf : F.nf = s.defs.length
  fonts : ∀ k, F.fonts k = s.defs[foundM k s.defs]?
  told : ∀ k, 0 < (F.told k).getD 0 ↔ foundM k s.again < s.again.length
  toldN : ∀ k, 0 ≤ (F.told k).getD 0
  inside : F.part = 1 → F.stack = s.deep ∧ F.some_ = s.font
  post : F.part = 2 → s.tail = F.post ∧ s.post = F.post.at_ ∧ postBad F.post.args F o0.args = false
theorem Rel.opsD {o0 : Cmd} {F : FileM} {s : StM} (R : Rel o0 F s) (x : List Cmd) : Rel o0 { F with ops := x } s :=
  ⟨R.first, R.part, R.pt, R.bad, R.pre, R.last, R.pages, R.top, R.again, R.nf, R.fonts, R.told, R.toldN, R.inside, R.post⟩
theorem Rel.there {o0 : Cmd} {F : FileM} {s : StM} (R : Rel o0 F s) (k : Int) : (F.fonts k).isSome = decide (foundM k s.defs < s.defs.length) := by
  rw [R.fonts]
  by_cases h : foundM k s.defs < s.defs.length
  · rw [List.getElem?_eq_getElem h]; simp [h]
  · rw [List.getElem?_eq_none (by omega)]; simp [h]

theorem Rel.define {o0 : Cmd} {F : FileM} {s : StM} (R : Rel o0 F s) (d : DefM) : ((s.fontDef d).2 = true ∧ Rel o0 (F.define d) (s.fontDef d).1) ∨ ((s.fontDef d).2 = false ∧ (F.define d).bad = true) := by
  have hth := R.there d.num
  unfold StM.fontDef FileM.define
  simp only [fail_eq]
  by_cases hw : wrongD d = true
  · right
    rw [if_pos hw]
    refine ⟨rfl, ?_⟩
    split <;> simp [hw]
  · rw [if_neg hw]
    have hw' : wrongD d = false := by simpa using hw
    have hpart := R.part
    by_cases hp : F.part = 2
    · have hs3 : s.part = 3 := by omega
      rw [if_pos hs3, if_pos hp]
      have hfn := R.fonts d.num
      have htd := R.told d.num
      have hle := foundM_le d.num s.defs
      by_cases hc : foundM d.num s.defs = s.defs.length ∨ defB ((s.defs[foundM d.num s.defs]?).getD zeroD) d = false ∨ foundM d.num s.again < s.again.length
      · right
        rw [if_pos hc]
        refine ⟨rfl, ?_⟩
        simp only [FileM.there, FileM.known, hfn]
        rcases hc with h | h | h
        · simp [h]
        · simp [h]
        · rw [← htd] at h
          simp [h]
      · left
        rw [if_neg hc]
        simp only [not_or] at hc
        obtain ⟨c1, c2, c3⟩ := hc
        have c3' : ¬ 0 < (F.told d.num).getD 0 := fun h => c3 (htd.1 h)
        have c4 : foundM d.num s.defs < s.defs.length := by omega
        refine ⟨rfl, ?_⟩
        have hpost := R.post hp
        refine ⟨R.first, R.part, R.pt, ?_, R.pre, R.last, R.pages, R.top, ?_, R.nf, R.fonts, ?_, ?_, ?_, ?_⟩
        · have c2' : defB ((s.defs[foundM d.num s.defs]?).getD zeroD) d = true := by
            cases h : defB ((s.defs[foundM d.num s.defs]?).getD zeroD) d with
            | true => rfl
            | false => exact absurd h c2
          simp only [FileM.there, FileM.known, hfn, R.bad, hw', c2']
          simp [c4, c3']
        · simp only [R.again]
        · intro k
          have h1 := R.told k
          have h2 := foundM_snoc k d s.again
          have h3 := foundM_le k s.again
          have h4 := R.toldN d.num
          simp only [h2, List.length_append, List.length_singleton]
          by_cases hk : k = d.num
          · subst hk
            rw [mput_same, if_neg c3, if_pos rfl]
            simp only [Option.getD_some, FileM.known]
            omega
          · rw [mput_other _ _ hk, h1]
            split
            · omega
            · rw [if_neg (fun h => hk h.symm)]
              omega
        · intro k
          have h4 := R.toldN d.num
          have h5 := R.toldN k
          simp only [mput, FileM.known]
          split
          · simp only [Option.getD_some]; omega
          · exact h5
        · intro h
          exact absurd (hp.symm.trans h) (by decide)
        · intro _
          exact hpost
    · have hs3 : ¬ s.part = 3 := by omega
      have hpt := R.pt
      rw [if_neg hs3, if_neg hp]
      by_cases hc : foundM d.num s.defs < s.defs.length
      · right
        rw [if_pos (.inr hc)]
        refine ⟨rfl, ?_⟩
        simp only [FileM.there, hth, hc]
        simp
      · left
        rw [if_neg (by omega)]
        have hd0 : decide (foundM d.num s.defs < s.defs.length) = false := by simpa using hc
        refine ⟨rfl, ?_⟩
        refine ⟨R.first, R.part, R.pt, ?_, R.pre, R.last, R.pages, R.top, R.again, ?_, ?_, R.told, R.toldN, R.inside, fun h => absurd h hp⟩
        · simp only [FileM.there, hth, R.bad, hw', hd0]
          rfl
        · simp only [hth, hd0, List.length_append, List.length_singleton, R.nf]
          simp
        · intro k
          have h2 := foundM_snoc k d s.defs
          have h3 := foundM_le k s.defs
          have h4 := foundM_le d.num s.defs
          by_cases hk : k = d.num
          · subst hk
            show mput F.fonts d.num d d.num = (s.defs ++ [d])[foundM d.num (s.defs ++ [d])]?
            rw [h2, mput_same, if_neg hc, if_pos rfl]
            simp
          · show mput F.fonts d.num d k = (s.defs ++ [d])[foundM k (s.defs ++ [d])]?
            rw [h2, mput_other _ _ hk, R.fonts]
            split
            · rename_i h
              rw [List.getElem?_append_left h]
            · rename_i h
              rw [if_neg (fun h => hk h.symm), List.getElem?_eq_none (by omega), List.getElem?_eq_none (by simp)]

theorem Rel.choose {o0 : Cmd} {F : FileM} {s : StM} (R : Rel o0 F s) (hp : F.part = 1) (k : Int) :
    ((decide (foundM k s.defs < s.defs.length)) = true ∧ Rel o0 (F.choose k) { s with font := true }) ∨ ((decide (foundM k s.defs < s.defs.length)) = false ∧ (F.choose k).bad = true) := by
  have hth := R.there k
  unfold FileM.choose
  simp only [fail_eq, hth]
  by_cases hc : foundM k s.defs < s.defs.length
  · left
    have e : decide (foundM k s.defs < s.defs.length) = true := by simpa using hc
    rw [e]
    refine ⟨rfl, R.first, R.part, R.pt, ?_, R.pre, R.last, R.pages, R.top, R.again, R.nf, R.fonts, R.told, R.toldN, fun h => ⟨(R.inside h).1, rfl⟩, fun h => ?_⟩
    · simp only [R.bad]; rfl
    · exact absurd (hp.symm.trans h) (by decide)
  · right
    have e : decide (foundM k s.defs < s.defs.length) = false := by simpa using hc
    rw [e]
    exact ⟨rfl, by simp⟩

/-- what a step of both makes of them -/
def Both1 (o0 : Cmd) (F : FileM) (r : StM × Bool) : Prop := (r.2 = true ∧ Rel o0 F r.1) ∨ (r.2 = false ∧ F.bad = true)
theorem Rel.both {o0 : Cmd} {F : FileM} {s : StM} (R : Rel o0 F s) : Both1 o0 F (s, true) := .inl ⟨rfl, R⟩
theorem Rel.flag {o0 : Cmd} {F : FileM} {s : StM} (R : Rel o0 F s) (hp : F.part = 1) : Both1 o0 (F.fail (!F.some_)) (s, s.font) := by
  have hin := (R.inside hp).2
  rw [fail_eq]
  cases h : s.font with
  | true =>
    rw [h] at hin
    refine .inl ⟨rfl, R.first, R.part, R.pt, ?_, R.pre, R.last, R.pages, R.top, R.again, R.nf, R.fonts, R.told, R.toldN, R.inside, R.post⟩
    simp only [R.bad, hin]; rfl
  | false =>
    rw [h] at hin
    exact .inr ⟨rfl, by simp only [hin]; simp⟩
theorem Rel.inside_both {o0 : Cmd} {F : FileM} {s : StM} (R : Rel o0 F s) (hp : F.part = 1) (o : Cmd) (hc : o.code ≤ 249) : Both1 o0 (F.inside o) (s.step o) := by
  have hs2 : s.part = 2 := by have := R.part; omega
  have hin := R.inside hp
  by_cases h141 : o.code = 141
  · have es : s.step o = ({ s with deep := s.deep + 1, most := if s.most < s.deep + 1 then s.deep + 1 else s.most }, true) := by
      unfold StM.step
      rw [if_neg (by omega), if_neg (by omega), if_neg (by omega), if_neg (by omega), if_neg (by omega), if_neg (by omega), if_neg (by omega), if_pos hs2]
      unfold StM.page
      rw [if_neg (by omega), if_neg (by omega), if_pos h141]
    have ef : F.inside o = { F with stack := F.stack + 1, top := if F.top < F.stack + 1 then F.stack + 1 else F.top } := by
      unfold FileM.inside
      rw [if_neg (by omega), if_neg (by omega), if_neg (by omega), if_neg (by omega), if_neg (by omega), if_neg (by omega), if_pos h141]
    rw [es, ef]
    refine .inl ⟨rfl, R.first, R.part, R.pt, R.bad, R.pre, R.last, R.pages, ?_, R.again, R.nf, R.fonts, R.told, R.toldN, fun h => ⟨?_, hin.2⟩, fun h => ?_⟩
    · simp only [hin.1, R.top]
    · simp only [hin.1]
    · exact absurd (hp.symm.trans h) (by decide)
  have hcs : (o.code ≤ 131) ∨ (o.code = 132) ∨ (133 ≤ o.code ∧ o.code ≤ 136) ∨ (o.code = 137) ∨ (o.code = 138) ∨ (o.code = 139) ∨ (o.code = 140) ∨ (o.code = 142) ∨ (143 ≤ o.code ∧ o.code ≤ 170) ∨ (171 ≤ o.code ∧ o.code ≤ 234) ∨ (235 ≤ o.code ∧ o.code ≤ 238) ∨ (239 ≤ o.code ∧ o.code ≤ 242) ∨ (243 ≤ o.code ∧ o.code ≤ 246) ∨ o.code = 247 ∨ o.code = 248 ∨ o.code = 249 := by omega
  rcases hcs with hb | hb | hb | hb | hb | hb | hb | hb | hb | hb | hb | hb | hb | hb | hb | hb
  all_goals
    unfold StM.step FileM.inside
    repeat (first | rw [if_pos (by omega)] | rw [if_neg (by omega)])
    try unfold StM.page
    repeat (first | rw [if_pos (by omega)] | rw [if_neg (by omega)])
  · exact R.flag hp
  · exact R.both
  · exact R.flag hp
  · exact R.both
  · exact R.both
  · refine .inr ⟨?_, rfl⟩
    simp [hs2]
  · rw [fail_eq]
    by_cases h0 : s.deep = 0
    · refine .inl ⟨by simpa using h0, R.first, ?_, .inl rfl, ?_, R.pre, R.last, R.pages, R.top, R.again, R.nf, R.fonts, R.told, R.toldN, fun h => ?_, fun h => ?_⟩
      · rfl
      · simp only [R.bad, hin.1, h0]; rfl
      · cases h
      · cases h
    · refine .inr ⟨by simpa using h0, ?_⟩
      simp only [hin.1]
      simp [h0]
  · rw [fail_eq]
    by_cases h0 : 0 ≤ s.deep - 1
    · refine .inl ⟨by simpa using h0, R.first, R.part, R.pt, ?_, R.pre, R.last, R.pages, R.top, R.again, R.nf, R.fonts, R.told, R.toldN, fun h => ⟨?_, hin.2⟩, fun h => ?_⟩
      · simp only [R.bad, hin.1]
        simp; omega
      · simp only [hin.1]
      · exact absurd (hp.symm.trans h) (by decide)
    · refine .inr ⟨by simpa using h0, ?_⟩
      simp only [hin.1]
      simp; right; omega
  · exact R.both
  · exact R.choose hp _
  · exact R.choose hp _
  · exact R.both
  · exact R.define _
  · exact .inr ⟨rfl, rfl⟩
  · exact .inr ⟨rfl, rfl⟩
  · refine .inr ⟨?_, rfl⟩
    simp [hs2]

/-- the program reads on behind an end that says what is wrong -/
def Off (o0 : Cmd) (F : FileM) : Prop := F.part = 2 ∧ postBad F.post.args F o0.args = true
theorem post_bad {o0 : Cmd} {F : FileM} {s : StM} (R : Rel o0 F s) (o : Cmd) : postBad o.args { F with part := 2, post := o } o0.args = !(s.post_ o).2 := by
  have hf := R.first
  unfold firstOk at hf
  simp only [Bool.and_eq_true, beq_iff_eq] at hf
  unfold postBad StM.post_
  simp only [R.pre, R.last, R.top, R.pages, hf.2.2.1, hf.2.2.2.1]
  have e : ∀ x : Int, decide (x < 0) = !decide (0 ≤ x) := fun x => by
    by_cases h : x < 0
    · simp [h]
    · simp [h]; omega
  simp only [e, Bool.not_and]
theorem Rel.outside_both {o0 : Cmd} {F : FileM} {s : StM} (R : Rel o0 F s) (hp : F.part ≠ 1) (o : Cmd) (hc : o.code ≤ 249) (h9 : ¬ (F.part = 2 ∧ o.code = 249)) :
    Both1 o0 (F.outside o) (s.step o) ∨ ((s.step o).2 = false ∧ Off o0 (F.outside o)) := by
  have hpt := R.pt
  have hpart := R.part
  have hs0 : ¬ s.part = 0 := by omega
  have hs2 : ¬ s.part = 2 := by omega
  unfold StM.step FileM.outside
  rw [if_neg hs0]
  by_cases c1 : o.code = 138
  · rw [if_pos c1, if_neg (by omega), if_pos c1]
    exact .inl R.both
  rw [if_neg c1]
  by_cases c2 : 243 ≤ o.code ∧ o.code ≤ 246
  · rw [if_pos c2, if_pos c2]
    exact .inl (R.define _)
  rw [if_neg c2, if_neg c2, if_neg c1]
  by_cases c7 : o.code = 247
  · rw [if_neg (by omega), if_neg (by omega), if_pos c7]
    exact .inl (.inr ⟨rfl, rfl⟩)
  rw [if_neg c7]
  by_cases c3 : o.code = 139
  · rw [if_pos c3]
    by_cases h0 : F.part = 0
    · rw [if_pos ⟨h0, c3⟩, fail_eq]
      have hs1 : s.part = 1 := by omega
      left
      by_cases hl : o.args.getD 10 0 = s.last
      · refine .inl ⟨by simp only [hs1, hl]; simp, R.first, rfl, .inr (.inl rfl), ?_, R.pre, rfl, ?_, R.top, R.again, R.nf, R.fonts, R.told, R.toldN, fun h => ⟨rfl, rfl⟩, fun h => ?_⟩
        · simp only [R.bad, R.last, hl]
          simp
        · simp only [R.pages]
        · cases h
      · have hl' : (o.args.getD 10 0 == s.last) = false := by rw [beq_eq_false_iff_ne]; exact hl
        refine .inr ⟨by simp only [hl']; simp, ?_⟩
        simp only [R.last, hl']
        simp
    · rw [if_neg (by omega), if_neg (by omega)]
      refine .inl (.inr ⟨?_, rfl⟩)
      have : ¬ s.part = 1 := by omega
      simp [this]
  rw [if_neg c3, if_neg (by omega)]
  by_cases c8 : o.code = 248
  · rw [if_pos c8]
    by_cases h0 : F.part = 0
    · rw [if_pos ⟨h0, c8⟩, if_pos (by omega)]
      have hb := post_bad R o
      cases h : (s.post_ o).2 with
      | true =>
        rw [h] at hb
        refine .inl (.inl ⟨h, R.first, rfl, .inr (.inr rfl), R.bad, R.pre, R.last, R.pages, R.top, R.again, R.nf, R.fonts, R.told, R.toldN, fun h => ?_, fun _ => ⟨rfl, rfl, hb⟩⟩)
        cases h
      | false =>
        rw [h] at hb
        exact .inr ⟨rfl, rfl, hb⟩
    · rw [if_neg (by omega), if_neg (by omega)]
      exact .inl (.inr ⟨rfl, rfl⟩)
  rw [if_neg c8, if_neg (by omega)]
  by_cases c9 : o.code = 249
  · rw [if_pos c9]
    refine .inl (.inr ⟨?_, rfl⟩)
    have : ¬ s.part = 3 := by omega
    simp [this]
  rw [if_neg c9, if_neg hs2]
  exact .inl (.inr ⟨rfl, rfl⟩)

theorem bad_loop (n : Nat) (f : Fd) (F : FileM) (h : F.bad = true) : loopM n f F = none := by
  cases n with
  | zero => rfl
  | succ n => unfold loopM; rw [if_pos (.inr h)]
theorem define2 (F : FileM) (d : DefM) : (F.define d).last = F.last ∧ (F.define d).top = F.top ∧ (F.define d).pages = F.pages := by
  unfold FileM.define
  simp only [fail_eq]
  split <;> exact ⟨rfl, rfl, rfl⟩
theorem Off.outside {o0 : Cmd} {F : FileM} (h : Off o0 F) (o : Cmd) : Off o0 (F.outside o) := by
  obtain ⟨h1, h2⟩ := h
  unfold FileM.outside
  split
  · exact ⟨h1, h2⟩
  split
  · obtain ⟨k1, k2, k3, k4⟩ := define_keep F o.def_
    obtain ⟨m1, m2, m3⟩ := define2 F o.def_
    refine ⟨k4.trans h1, ?_⟩
    unfold postBad at h2 ⊢
    rw [k3, m1, m2, m3]
    exact h2
  rw [if_neg (by omega), if_neg (by omega)]
  exact ⟨h1, h2⟩
theorem Off.loop {o0 : Cmd} : ∀ (n : Nat) (f : Fd) (F : FileM), Off o0 F → ∀ x, loopM n f F = some x → postBad x.2.post.args x.2 o0.args = true
  | 0, _, _, _, _, h => by cases h
  | n + 1, f, F, hF, x, h => by
    unfold loopM at h
    split at h
    · cases h
    have h1 : Off o0 { F with ops := F.ops ++ [f.cmd.1] } := hF
    split at h
    · rename_i h2
      exact absurd (hF.1.symm.trans h2) (by decide)
    split at h
    · cases h
      rw [fail_eq]
      exact hF.2
    · exact Off.loop n _ _ (h1.outside _) x h

/-- the document's reading, command by command -/
def refGo : Nat → Fd → StM → List Cmd → Option (List Cmd × Fd × StM)
  | 0, _, _, _ => none
  | n + 1, f, s, acc => if f.cmd.2.lost = true then none else if f.cmd.1.code = 249 then (if (s.step f.cmd.1).2 = true then some (acc ++ [f.cmd.1], f.cmd.2, (s.step f.cmd.1).1) else none)
    else if (s.step f.cmd.1).2 = true then refGo n f.cmd.2 (s.step f.cmd.1).1 (acc ++ [f.cmd.1]) else none
theorem stepsM_append : ∀ (a b : List Cmd) (s : StM), stepsM s (a ++ b) = (stepsM s a).bind fun t => stepsM t b
  | [], _, _ => rfl
  | o :: a, b, s => by
    rw [List.cons_append, stepsM, stepsM]
    split
    · exact stepsM_append a b _
    · rfl
theorem cmdsM_more : ∀ (n : Nat) (f : Fd) (acc os : List Cmd) (g : Fd), cmdsM n f acc = some (os, g) → ∃ more, os = acc ++ more
  | 0, _, _, _, _, h => by cases h
  | n + 1, f, acc, os, g, h => by
    unfold cmdsM at h
    split at h
    · cases h
    split at h
    · cases h; exact ⟨_, rfl⟩
    · obtain ⟨m, hm⟩ := cmdsM_more n _ _ _ _ h
      exact ⟨[f.cmd.1] ++ m, by rw [hm, List.append_assoc]⟩
theorem refGo_eq (s0 : StM) : ∀ (n : Nat) (f : Fd) (s : StM) (acc : List Cmd), stepsM s0 acc = some s →
    ((cmdsM n f acc).bind fun x => (stepsM s0 x.1).map fun t => (x.1, x.2, t)) = refGo n f s acc
  | 0, _, _, _, _ => rfl
  | n + 1, f, s, acc, h => by
    have e1 : stepsM s0 (acc ++ [f.cmd.1]) = if (s.step f.cmd.1).2 = true then some (s.step f.cmd.1).1 else none := by
      rw [stepsM_append, h]
      simp only [Option.bind_some, stepsM]
    unfold cmdsM refGo
    split
    · rfl
    split
    · simp only [Option.bind_some]
      rw [e1]
      split <;> rfl
    · split
      · rename_i hs
        rw [if_pos hs] at e1
        exact refGo_eq s0 n _ _ _ e1
      · rename_i hs
        rw [if_neg hs] at e1
        cases hc : cmdsM n f.cmd.2 (acc ++ [f.cmd.1]) with
        | none => rfl
        | some x =>
          obtain ⟨os, g⟩ := x
          obtain ⟨m, hm⟩ := cmdsM_more _ _ _ _ _ hc
          simp only [Option.bind_some]
          rw [hm, stepsM_append, e1]
          rfl

/-- what both make of all that follows -/
def Agree (o0 : Cmd) (r : Option (List Cmd × Fd × StM)) (p : Option (Fd × FileM)) : Prop :=
  (∃ os g s F, r = some (os, g, s) ∧ p = some (g, F) ∧ F.ops = os ∧ F.bad = false ∧ F.again = s.again ∧ F.post = s.tail ∧ postBad F.post.args F o0.args = false ∧ F.again.length = F.nf) ∨
  (r = none ∧ ∀ g F, p = some (g, F) → F.bad = true ∨ postBad F.post.args F o0.args = true ∨ F.again.length ≠ F.nf)
theorem outside_ops (F : FileM) (o : Cmd) : (F.outside o).ops = F.ops := (outside_keep F o).2
theorem inside_ops (F : FileM) (o : Cmd) : (F.inside o).ops = F.ops := (inside_keep F o).2
theorem go_agree (o0 : Cmd) : ∀ (n m : Nat) (f : Fd) (F : FileM) (s : StM), f.l.length < n → f.l.length < m → Rel o0 F s → Agree o0 (refGo n f s F.ops) (loopM m f F)
  | 0, _, _, _, _, h, _, _ => by omega
  | n + 1, 0, _, _, _, _, h, _ => by omega
  | n + 1, m + 1, f, F, s, hn, hm, R => by
    unfold refGo loopM
    by_cases hl : f.cmd.2.lost = true
    · rw [if_pos hl, if_pos (.inl hl)]
      exact .inr ⟨rfl, fun _ _ h => by cases h⟩
    have hlf : f.cmd.2.lost = false := by simpa using hl
    have hcs := code_small _ hlf
    rw [if_neg hl, if_neg (show ¬ (f.cmd.2.lost = true ∨ F.bad = true) from by rw [R.bad]; simp [hl])]
    have hless : f.cmd.2.l.length < f.l.length := by
      rcases cmd_less f with h | h
      · exact absurd h hl
      · exact h
    have R1 : Rel o0 { F with ops := F.ops ++ [f.cmd.1] } s := R.opsD _
    generalize f.cmd.1 = o at *
    generalize f.cmd.2 = g at *
    have hstop : ∀ F2 : FileM, F2.bad = true → Agree o0 none (loopM m g F2) := fun F2 h2 => .inr ⟨rfl, fun _ _ h => by rw [bad_loop _ _ _ h2] at h; cases h⟩
    by_cases h249 : o.code = 249
    · rw [if_pos h249]
      by_cases hp1 : F.part = 1
      · rw [if_pos hp1]
        rcases R1.inside_both hp1 o hcs with ⟨h1, h2⟩ | ⟨h1, h2⟩
        · exfalso
          have hs2 : s.part = 2 := by have := R.part; omega
          unfold StM.step at h1
          repeat (first | rw [if_pos (by omega)] at h1 | rw [if_neg (by omega)] at h1)
          simp [hs2] at h1
        · rw [h1, if_neg (by simp)]
          exact hstop _ h2
      · rw [if_neg hp1]
        by_cases hp2 : F.part = 2
        · rw [if_pos (show F.part = 2 ∧ o.code = 249 from ⟨hp2, h249⟩)]
          obtain ⟨q1, q2, q3⟩ := R.post hp2
          have hs3 : s.part = 3 := by have := R.part; omega
          have es : s.step o = ({ s with part := 4 }, s.part == 3 && (o.args.getD 0 0 == s.post && (o.args.getD 1 0 == 2 && s.again.length == s.defs.length))) := by
            unfold StM.step
            repeat (first | rw [if_pos (by omega)] | rw [if_neg (by omega)])
          rw [es, fail_eq]
          simp only [hs3, q2]
          generalize o.args.getD 0 0 = a0
          generalize o.args.getD 1 0 = a1
          by_cases k1 : a0 = (F.post.at_ : Int)
          · by_cases k2 : a1 = 2
            · by_cases k3 : s.again.length = s.defs.length
              · rw [if_pos (by simp [k1, k2, k3])]
                refine .inl ⟨_, _, _, _, rfl, rfl, rfl, ?_, R.again, q1.symm, q3, ?_⟩
                · simp only [R.bad, k1, k2]
                  simp
                · simp only [R.again, R.nf, k3]
              · rw [if_neg (by simp [k3])]
                refine .inr ⟨rfl, fun _ _ h => ?_⟩
                cases h
                exact .inr (.inr (by simp only [R.again, R.nf]; exact k3))
            · rw [if_neg (by simp [k2])]
              refine .inr ⟨rfl, fun _ _ h => ?_⟩
              cases h
              exact .inl (by simp [k2])
          · rw [if_neg (by simp [k1])]
            refine .inr ⟨rfl, fun _ _ h => ?_⟩
            cases h
            exact .inl (by simp [k1])
        · rw [if_neg (show ¬ (F.part = 2 ∧ o.code = 249) from fun h => hp2 h.1)]
          rcases R1.outside_both hp1 o hcs (fun h => hp2 h.1) with (⟨h1, h2⟩ | ⟨h1, h2⟩) | ⟨h1, h2⟩
          · exfalso
            have hs1 : s.part = 1 := by have := R.part; have := R.pt; omega
            unfold StM.step at h1
            repeat (first | rw [if_pos (by omega)] at h1 | rw [if_neg (by omega)] at h1)
            simp [hs1] at h1
          · rw [h1, if_neg (by simp)]
            exact hstop _ h2
          · rw [h1, if_neg (by simp)]
            refine .inr ⟨rfl, fun g' F' h => .inr (.inl (Off.loop _ _ _ h2 (g', F') h))⟩
    · rw [if_neg h249]
      by_cases hp1 : F.part = 1
      · rw [if_pos hp1]
        have ho := inside_ops { F with ops := F.ops ++ [o] } o
        rcases R1.inside_both hp1 o hcs with ⟨h1, h2⟩ | ⟨h1, h2⟩
        · rw [h1, if_pos rfl]
          have ih := go_agree o0 n m g _ _ (by omega) (by omega) h2
          rw [ho] at ih
          exact ih
        · rw [h1, if_neg (by simp)]
          exact hstop _ h2
      · rw [if_neg hp1, if_neg (show ¬ (F.part = 2 ∧ o.code = 249) from fun h => h249 h.2)]
        have ho := outside_ops { F with ops := F.ops ++ [o] } o
        rcases R1.outside_both hp1 o hcs (fun h => h249 h.2) with (⟨h1, h2⟩ | ⟨h1, h2⟩) | ⟨h1, h2⟩
        · rw [h1, if_pos rfl]
          have ih := go_agree o0 n m g _ _ (by omega) (by omega) h2
          rw [ho] at ih
          exact ih
        · rw [h1, if_neg (by simp)]
          exact hstop _ h2
        · rw [h1, if_neg (by simp)]
          refine .inr ⟨rfl, fun g' F' h => .inr (.inl (Off.loop _ _ _ h2 (g', F') h))⟩

theorem lastM_badR (l : List UInt8) (o : Cmd) (g : Fd) (F : FileM) : (lastM l o g F).bad = (F.bad || ((g.l.any fun x => !(x == 223)) || (fillBad g.l.length l.length || (postBad F.post.args F o.args || !((F.again.length : Int) == F.nf))))) := by
  unfold lastM
  simp only [fail_eq, Bool.or_assoc]
  rfl
theorem lastM_sameR (l : List UInt8) (o : Cmd) (g : Fd) (F : FileM) : (lastM l o g F).ops = F.ops ∧ (lastM l o g F).again = F.again ∧ (lastM l o g F).post = F.post := by
  refine ⟨?_, ?_, ?_⟩ <;> (unfold lastM; simp only [fail_eq])
theorem rel_start (o0 : Cmd) (hf : firstOk o0 = true) : Rel o0 { FileM.new with ops := [o0], keep := [] } (StM.start.step o0).1 := by
  have e : StM.start.step o0 = ({ StM.start with part := 1, pre := o0 }, firstOk o0) := rfl
  rw [e]
  refine ⟨hf, rfl, .inl rfl, rfl, rfl, rfl, rfl, rfl, rfl, rfl, fun k => ?_, fun k => ?_, fun k => ?_, fun h => ?_, fun h => ?_⟩
  · simp [FileM.new, StM.start]
  · simp [FileM.new, StM.start, foundM]
  · simp [FileM.new]
  · cases h
  · cases h
/-- both readings of a whole file -/
theorem whole_agree (l : List UInt8) : (∃ os s F, wholeR l = some (os, s) ∧ wholeM [] l = some F ∧ F.ops = os ∧ F.again = s.again ∧ F.post = s.tail) ∨ (wholeR l = none ∧ wholeM [] l = none) := by
  have e0 : feedAt l 0 = ⟨l, 0, false⟩ := by unfold feedAt; rw [List.drop_zero]
  have hR : wholeR l = (refGo (l.length + 1) (feedAt l 0) StM.start []).bind fun x => if fillBad x.2.1.l.length l.length = true ∨ (x.2.1.l.any fun x => !(x == 223)) = true then none else some (x.1, x.2.2) := by
    rw [← refGo_eq StM.start _ _ _ _ rfl]
    unfold wholeR
    cases cmdsM (l.length + 1) (feedAt l 0) [] with
    | none => rfl
    | some x =>
      obtain ⟨os, g⟩ := x
      simp only [Option.bind_some]
      cases stepsM StM.start os with
      | none => simp only [Option.map_none]; split <;> rfl
      | some t => simp only [Option.map_some]; rfl
  unfold wholeM
  rw [hR, ← e0]
  unfold refGo
  obtain ⟨f, hf⟩ : ∃ f, feedAt l 0 = f := ⟨_, rfl⟩
  have hfl : f.l.length = l.length := by rw [← hf, e0]
  rw [hf]
  by_cases hl : f.cmd.2.lost = true
  · rw [if_pos hl, if_pos (.inl hl)]
    exact .inr ⟨rfl, rfl⟩
  have hless : f.cmd.2.l.length < f.l.length := by
    rcases cmd_less f with h | h
    · exact absurd h hl
    · exact h
  rw [if_neg hl]
  have hst : (StM.start.step f.cmd.1).2 = firstOk f.cmd.1 := rfl
  cases hfo : firstOk f.cmd.1 with
  | false =>
    rw [hst, hfo, if_pos (show f.cmd.2.lost = true ∨ false = false from .inr rfl)]
    refine .inr ⟨?_, rfl⟩
    by_cases h : f.cmd.1.code = 249
    · rw [if_pos h, if_neg (by simp)]; rfl
    · rw [if_neg h, if_neg (by simp)]; rfl
  | true =>
    have h247 : f.cmd.1.code = 247 := by
      unfold firstOk at hfo
      simp only [Bool.and_eq_true, beq_iff_eq] at hfo
      exact hfo.1
    rw [hst, hfo, if_neg (by omega), if_pos rfl, if_neg (by simp [hl])]
    have ha := go_agree f.cmd.1 l.length (l.length + 1) f.cmd.2 _ _ (by omega) (by omega) (rel_start _ hfo)
    generalize (StM.start.step f.cmd.1).1 = s1 at *
    rcases ha with ⟨os, g, s, F, h1, h2, h3, h4, h5, h6, h7, h8⟩ | ⟨h1, h2⟩
    · have h1' : refGo l.length f.cmd.2 s1 ([] ++ [f.cmd.1]) = some (os, g, s) := h1
      rw [h1', h2]
      simp only [Option.bind_some]
      rw [lastM_badR, h4, h7]
      have e8 : ((F.again.length : Int) == F.nf) = true := by rw [beq_iff_eq, h8]
      rw [e8]
      by_cases hb : fillBad g.l.length l.length = true ∨ (g.l.any fun x => !(x == 223)) = true
      · rw [if_pos hb]
        right
        refine ⟨rfl, ?_⟩
        rw [if_pos]
        rcases hb with h | h <;> simp [h]
      · rw [if_neg hb]
        left
        obtain ⟨k1, k2, k3⟩ := lastM_sameR l f.cmd.1 g F
        refine ⟨os, s, _, rfl, ?_, k1.trans h3, k2.trans h5, k3.trans h6⟩
        rw [if_neg]
        simp only [not_or, Bool.not_eq_true] at hb
        simp only [hb.1, hb.2]
        simp
    · have h1' : refGo l.length f.cmd.2 s1 ([] ++ [f.cmd.1]) = none := h1
      rw [h1']
      refine .inr ⟨rfl, ?_⟩
      cases hlp : loopM (l.length + 1) f.cmd.2 { FileM.new with ops := [f.cmd.1], keep := [] } with
      | none => rfl
      | some x =>
        obtain ⟨g, F⟩ := x
        simp only
        rw [if_pos]
        rw [lastM_badR]
        rcases h2 g F hlp with h | h | h
        · simp [h]
        · simp [h]
        · have e8 : ((F.again.length : Int) == F.nf) = false := by rw [beq_eq_false_iff_ne]; omega
          rw [e8]
          simp

end Go.Proofs.Ytjeinldhbajknaa
