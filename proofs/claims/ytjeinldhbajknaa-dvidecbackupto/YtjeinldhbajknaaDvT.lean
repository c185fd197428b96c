
/-
  A whole file, as a value that names no address. Conditions: none.
-/
import Derived.Test.YtjeinldhbajknaaDvQ
namespace Go.Proofs.Ytjeinldhbajknaa
open Go.RowKit Go.Sp Go.Conc

def FileM.wk (F : FileM) (K : List (Cmd × Value)) : FileM := { F with keep := K }
theorem fail_wk (F : FileM) (K : List (Cmd × Value)) (x : Bool) : (F.wk K).fail x = (F.fail x).wk K := by rw [fail_eq, fail_eq]; rfl
theorem choose_wk (F : FileM) (K : List (Cmd × Value)) (x : Int) : (F.wk K).choose x = (F.choose x).wk K := by
  unfold FileM.choose
  rw [fail_eq, fail_eq]; rfl
theorem ite_wk {c : Prop} [Decidable c] {F G F' G' : FileM} {K : List (Cmd × Value)} (h1 : F' = F.wk K) (h2 : G' = G.wk K) : (if c then F' else G') = (if c then F else G).wk K := by
  split
  · exact h1
  · exact h2
theorem define_wk (F : FileM) (K : List (Cmd × Value)) (d : DefM) : (F.wk K).define d = (F.define d).wk K := by
  unfold FileM.define
  simp only [fail_eq]
  exact ite_wk rfl rfl
theorem inside_wk (F : FileM) (K : List (Cmd × Value)) (o : Cmd) : (F.wk K).inside o = (F.inside o).wk K := by
  unfold FileM.inside
  refine ite_wk (fail_wk F K _) ?_
  refine ite_wk rfl ?_
  refine ite_wk (fail_wk F K _) ?_
  refine ite_wk rfl ?_
  refine ite_wk rfl ?_
  refine ite_wk ?_ ?_
  · rw [fail_eq, fail_eq]; rfl
  refine ite_wk rfl ?_
  refine ite_wk ?_ ?_
  · rw [fail_eq, fail_eq]; rfl
  refine ite_wk rfl ?_
  refine ite_wk (choose_wk F K _) ?_
  refine ite_wk (choose_wk F K _) ?_
  refine ite_wk rfl ?_
  exact ite_wk (define_wk F K _) rfl
theorem outside_wk (F : FileM) (K : List (Cmd × Value)) (o : Cmd) : (F.wk K).outside o = (F.outside o).wk K := by
  unfold FileM.outside
  refine ite_wk rfl ?_
  refine ite_wk (define_wk F K _) ?_
  refine ite_wk ?_ ?_
  · rw [fail_eq, fail_eq]; rfl
  exact ite_wk rfl rfl
theorem loopM_wk (K : List (Cmd × Value)) : ∀ (n : Nat) (f : Fd) (F : FileM), loopM n f (F.wk K) = (loopM n f F).map fun x => (x.1, x.2.wk K)
  | 0, _, _ => rfl
  | n + 1, f, F => by
    have e : ({ (F.wk K) with ops := (F.wk K).ops ++ [f.cmd.1] } : FileM) = ({ F with ops := F.ops ++ [f.cmd.1] } : FileM).wk K := rfl
    unfold loopM
    rw [e, inside_wk, outside_wk, fail_wk, loopM_wk K n, loopM_wk K n]
    show (if f.cmd.2.lost = true ∨ F.bad = true then none else if F.part = 1 then _ else if F.part = 2 ∧ f.cmd.1.code = 249 then _ else _) = _
    split
    · rfl
    · split
      · rfl
      · split <;> rfl
theorem lastM_wk (K : List (Cmd × Value)) (l : List UInt8) (o : Cmd) (g : Fd) (F : FileM) : lastM l o g (F.wk K) = (lastM l o g F).wk K := by
  unfold lastM
  simp only [fail_wk]
  rfl
theorem wholeM_wk (K : List (Cmd × Value)) (l : List UInt8) : wholeM K l = (wholeM [] l).map (·.wk K) := by
  unfold wholeM
  split
  · rfl
  · have e := loopM_wk K (l.length + 1) (Fd.cmd ⟨l, 0, false⟩).2 { FileM.new with ops := [(Fd.cmd ⟨l, 0, false⟩).1], keep := [] }
    rw [show ({ FileM.new with ops := [(Fd.cmd ⟨l, 0, false⟩).1], keep := K } : FileM) = ({ FileM.new with ops := [(Fd.cmd ⟨l, 0, false⟩).1], keep := [] } : FileM).wk K from rfl, e]
    cases loopM (l.length + 1) (Fd.cmd ⟨l, 0, false⟩).2 { FileM.new with ops := [(Fd.cmd ⟨l, 0, false⟩).1], keep := [] } with
    | none => rfl
    | some x =>
      obtain ⟨g, F⟩ := x
      simp only [Option.map_some]
      rw [lastM_wk]
      show (if (lastM l _ g F).bad = true then none else _) = _
      split <;> rfl

/-- what was read of a file -/
noncomputable def fileM (l : List UInt8) : Option FileM := if 1048576 < l.length then none else wholeM [] l
noncomputable def errM (l : List UInt8) : Int := if 1048576 < l.length then 6 else if (wholeM [] l).isSome = true then 0 else 240
noncomputable def opsM (l : List UInt8) : List Cmd := match fileM l with | some F => F.ops | none => []
noncomputable def againM (l : List UInt8) : List DefM := match fileM l with | some F => F.again | none => []
noncomputable def postM (l : List UInt8) : List Int := match fileM l with | some F => F.post.args | none => []

/-- what holds of the commands' end -/
theorem loopM_fits : ∀ (n : Nat) (f : Fd) (F : FileM), F.Fits f.at_ → ∀ x, loopM n f F = some x → x.2.Fits (x.1.at_ + 1) ∧ x.2.part = 2
  | 0, _, _, _, _, h => by cases h
  | n + 1, f, F, hF, x, h => by
    have hw := cmd_wf f
    have hs := cmd_sum f
    have hl := cmd_less f
    unfold loopM at h
    split at h
    · cases h
    · rename_i hn
      have hlt : f.cmd.2.l.length < f.l.length := by
        rcases hl with h | h
        · exact absurd (.inl h) hn
        · exact h
      have h1 : ({ F with ops := F.ops ++ [f.cmd.1] } : FileM).Fits f.at_ := ⟨hF.stack, hF.pages, hF.again, hF.told, hF.part, hF.post⟩
      split at h
      · exact loopM_fits n _ _ ((h1.inside _).le (by omega)) x h
      · split at h
        · rename_i hp
          cases h
          exact ⟨(h1.fail _).le (by simp only; omega), by rw [fail_eq]; exact hp.1⟩
        · exact loopM_fits n _ _ ((h1.outside _ hw).le (by omega)) x h
theorem newM_fits (o : Cmd) (K : List (Cmd × Value)) (n : Nat) : ({ FileM.new with ops := [o], keep := K } : FileM).Fits n :=
  ⟨⟨by simp [FileM.new], by simp [FileM.new]⟩, ⟨by simp [FileM.new], by simp [FileM.new]⟩, by simp [FileM.new], fun _ => ⟨by simp [FileM.new], by simp [FileM.new]⟩, .inl rfl, fun h => by cases h⟩
theorem wholeM_post {K : List (Cmd × Value)} {l : List UInt8} {F : FileM} (h : wholeM K l = some F) : F.post.args.length = 8 := by
  unfold wholeM at h
  split at h
  · cases h
  · split at h
    · cases h
    · rename_i g G hg
      obtain ⟨h1, h2⟩ := loopM_fits _ _ _ (newM_fits _ _ _) _ hg
      split at h
      · cases h
      · cases h
        unfold lastM
        simp only [fail_eq]
        exact h1.post h2
theorem fileM_post {l : List UInt8} {F : FileM} (h : fileM l = some F) : F.post.args.length = 8 := by
  unfold fileM at h
  split at h
  · cases h
  · exact wholeM_post h

end Go.Proofs.Ytjeinldhbajknaa
