/-
  Does a pair's row go on for ever: what the program computes, and that it ends. Conditions: none.
-/
import Derived.Test.YtigjfbbgbiajbaaLgB
namespace Go.Proofs.Ytigjfbbgbiajbaa
open Go.RowKit Go.Sp
variable {F : Fnt}

abbrev KM := Int × Int → Option Int
def kput (f : KM) (k : Int × Int) (v : Int) : KM := fun j => if j = k then some v else f j

/-- the marks that come behind the first one -/
def pairGo (fol : KM → Int → Int → Int × KM) : KM → Int → List Int → Int × KM
  | kn, at_, [] => (at_, kn)
  | kn, at_, c :: l => if (fol kn at_ c).1 = -3 then (-3, (fol kn at_ c).2) else pairGo fol (fol kn at_ c).2 (fol kn at_ c).1 l
def stpKeep (s : Stp) : Nat := s.op.toNat / 2 % 2
def stpLast (s : Stp) : Nat := s.op.toNat % 2
def stpPass (s : Stp) : Nat := min (s.op.toNat / 4) (stpKeep s + stpLast s)
def pairL (x y : Int) (s : Stp) : List Int := (if stpKeep s = 1 then [x] else []) ++ (s.rest.toNat : Int) :: (if stpLast s = 1 then [y] else [])
def pairM (F : Fnt) (fol : KM → Int → Int → Int × KM) (kn : KM) (x y : Int) : Int × KM :=
  match findM F x y with
  | none => (y, kn)
  | some s =>
    if 128 ≤ s.op.toNat then (y, kn) else pairGo fol kn (((pairL x y s).drop (stpPass s)).headD 0) ((pairL x y s).drop (stpPass s)).tail
def followM (F : Fnt) : Nat → KM → Int → Int → Int × KM
  | 0, kn, _, _ => (-3, kn)
  | g + 1, kn, x, c =>
    match kn (x, c) with
    | some v => if v = 1 then (-3, kn) else (v - 10, kn)
    | none =>
      if (pairM F (followM F g) (kput kn (x, c) 1) x c).1 = -3 then ((pairM F (followM F g) (kput kn (x, c) 1) x c).1, (pairM F (followM F g) (kput kn (x, c) 1) x c).2)
      else ((pairM F (followM F g) (kput kn (x, c) 1) x c).1, kput (pairM F (followM F g) (kput kn (x, c) 1) x c).2 (x, c) ((pairM F (followM F g) (kput kn (x, c) 1) x c).1 + 10))

def MkR (x : Int) : Prop := -1 ≤ x ∧ x ≤ 256
def KOk (f : KM) : Prop := ∀ k v, f k = some v → v = 1 ∨ (9 ≤ v ∧ v ≤ 266)
def boxK : List (Int × Int) := (List.range 258).flatMap fun (i : Nat) => (List.range 258).map fun (j : Nat) => ((i : Int) - 1, (j : Int) - 1)
theorem box_mem {x y : Int} (hx : MkR x) (hy : MkR y) : (x, y) ∈ boxK := by
  unfold MkR at hx hy
  unfold boxK
  rw [List.mem_flatMap]
  refine ⟨(x + 1).toNat, List.mem_range.2 (by omega), List.mem_map.2 ⟨(y + 1).toNat, List.mem_range.2 (by omega), ?_⟩⟩
  ext <;> simp <;> omega
theorem box_len : boxK.length = 66564 := by
  unfold boxK
  rw [List.length_flatMap]
  simp only [List.length_map, List.length_range]
  rw [List.map_const', List.length_range, List.sum_replicate_nat]
def unk (f : KM) : Nat := boxK.countP fun k => (f k).isNone
theorem unk_le (f : KM) : unk f ≤ 66564 := by rw [← box_len]; exact List.countP_le_length
/-- no key is lost -/
def KSub (f g : KM) : Prop := ∀ k, g k = none → f k = none
theorem KSub.refl (f : KM) : KSub f f := fun _ h => h
theorem KSub.trans {f g h : KM} (a : KSub f g) (b : KSub g h) : KSub f h := fun k hk => a k (b k hk)
theorem KSub.put (f : KM) (k : Int × Int) (v : Int) : KSub f (kput f k v) := fun j hj => by
  unfold kput at hj
  split at hj
  · cases hj
  · exact hj
theorem KSub.unk {f g : KM} (h : KSub f g) : unk g ≤ unk f := by
  unfold Go.Proofs.Ytigjfbbgbiajbaa.unk
  refine List.countP_mono_left fun k _ hk => ?_
  rw [Option.isNone_iff_eq_none] at hk ⊢
  exact h k hk
theorem countP_lt {α : Type} {p q : α → Bool} {l : List α} (h : ∀ x ∈ l, p x = true → q x = true) {a : α} (ha : a ∈ l) (hp : p a = false) (hq : q a = true) : l.countP p < l.countP q := by
  induction l with
  | nil => cases ha
  | cons x l ih =>
    rw [List.countP_cons, List.countP_cons]
    rcases List.mem_cons.1 ha with rfl | ha
    · rw [hp, hq]
      have := List.countP_mono_left (p := p) (q := q) (l := l) fun y hy => h y (List.mem_cons_of_mem _ hy)
      simp
      omega
    · have h1 := ih (fun y hy => h y (List.mem_cons_of_mem _ hy)) ha
      have h2 : (if p x = true then 1 else 0) ≤ (if q x = true then 1 else 0) := by
        split
        · rw [if_pos (h x (List.mem_cons_self ..) (by assumption))]; exact Nat.le_refl _
        · exact Nat.zero_le _
      omega
theorem unk_put {f : KM} {x y v : Int} (hx : MkR x) (hy : MkR y) (hf : f (x, y) = none) : unk (kput f (x, y) v) < unk f := by
  unfold unk
  refine countP_lt (fun k _ hk => ?_) (box_mem hx hy) ?_ ?_
  · rw [Option.isNone_iff_eq_none] at hk ⊢
    exact KSub.put f _ _ k hk
  · simp [kput]
  · rw [hf]; rfl
theorem KOk.put {f : KM} (h : KOk f) (k : Int × Int) {v : Int} (hv : v = 1 ∨ (9 ≤ v ∧ v ≤ 266)) : KOk (kput f k v) := fun j u hu => by
  unfold kput at hu
  split at hu
  · cases hu; exact hv
  · exact h j u hu

/-- what a call of follow keeps -/
def FolOk (fol : KM → Int → Int → Int × KM) (g : Nat) : Prop :=
  ∀ kn x c, KOk kn → MkR x → MkR c → unk kn < g → KSub kn (fol kn x c).2 ∧ KOk (fol kn x c).2 ∧ ((fol kn x c).1 = -3 ∨ MkR (fol kn x c).1)
theorem pairGo_ok {fol : KM → Int → Int → Int × KM} {g : Nat} (hf : FolOk fol g) : ∀ (l : List Int) (kn : KM) (x : Int), KOk kn → MkR x → (∀ c ∈ l, MkR c) → unk kn < g →
    KSub kn (pairGo fol kn x l).2 ∧ KOk (pairGo fol kn x l).2 ∧ ((pairGo fol kn x l).1 = -3 ∨ MkR (pairGo fol kn x l).1)
  | [], kn, x, hk, hx, _, _ => ⟨KSub.refl _, hk, .inr hx⟩
  | c :: l, kn, x, hk, hx, hl, hu => by
    obtain ⟨h1, h2, h3⟩ := hf kn x c hk hx (hl c (List.mem_cons_self ..)) hu
    rw [pairGo]
    split
    · exact ⟨h1, h2, .inl rfl⟩
    · rename_i hne
      obtain ⟨h4, h5, h6⟩ := pairGo_ok hf l _ _ h2 (h3.resolve_left hne) (fun d hd => hl d (List.mem_cons_of_mem _ hd)) (Nat.lt_of_le_of_lt h1.unk hu)
      exact ⟨h1.trans h4, h5, h6⟩
theorem pairL_ok {x y : Int} (hx : MkR x) (hy : MkR y) (s : Stp) : ∀ c ∈ pairL x y s, MkR c := by
  intro c hc
  have := u8i s.rest
  unfold pairL at hc
  rw [List.mem_append, List.mem_cons] at hc
  rcases hc with hc | rfl | hc
  · split at hc
    · rw [List.mem_singleton] at hc; rw [hc]; exact hx
    · cases hc
  · unfold MkR; omega
  · split at hc
    · rw [List.mem_singleton] at hc; rw [hc]; exact hy
    · cases hc
theorem pairL_len (x y : Int) (s : Stp) : (pairL x y s).length = stpKeep s + 1 + stpLast s := by
  unfold pairL
  have h1 : stpKeep s < 2 := Nat.mod_lt _ (by decide)
  have h2 : stpLast s < 2 := Nat.mod_lt _ (by decide)
  rw [List.length_append, List.length_cons]
  split <;> split <;> simp <;> omega
theorem pairL_drop {x y : Int} (hx : MkR x) (hy : MkR y) (s : Stp) : MkR (((pairL x y s).drop (stpPass s)).headD 0) ∧ ∀ c ∈ ((pairL x y s).drop (stpPass s)).tail, MkR c := by
  have h1 := pairL_len x y s
  have h2 : stpPass s ≤ stpKeep s + stpLast s := Nat.min_le_right _ _
  have hm : ∀ c ∈ (pairL x y s).drop (stpPass s), MkR c := fun c hc => pairL_ok hx hy s c (List.mem_of_mem_drop hc)
  cases hd : (pairL x y s).drop (stpPass s) with
  | nil =>
    have := congrArg List.length hd
    rw [List.length_drop, h1] at this
    simp at this
    omega
  | cons a l =>
    rw [hd] at hm
    exact ⟨hm a (List.mem_cons_self ..), fun c hc => hm c (List.mem_cons_of_mem _ hc)⟩
theorem pairM_ok {fol : KM → Int → Int → Int × KM} {g : Nat} (hf : FolOk fol g) {kn : KM} {x y : Int} (hk : KOk kn) (hx : MkR x) (hy : MkR y) (hu : unk kn < g) :
    KSub kn (pairM F fol kn x y).2 ∧ KOk (pairM F fol kn x y).2 ∧ ((pairM F fol kn x y).1 = -3 ∨ MkR (pairM F fol kn x y).1) := by
  unfold pairM
  cases findM F x y with
  | none => exact ⟨KSub.refl _, hk, .inr hy⟩
  | some s =>
    simp only
    split
    · exact ⟨KSub.refl _, hk, .inr hy⟩
    · obtain ⟨h1, h2⟩ := pairL_drop hx hy s
      exact pairGo_ok hf _ _ _ hk h1 h2 hu
theorem followM_ok (F : Fnt) : ∀ g, FolOk (followM F g) g
  | 0 => fun kn x c _ _ _ hu => by omega
  | g + 1 => fun kn x c hk hx hc hu => by
    rw [followM]
    cases hv : kn (x, c) with
    | some v =>
      simp only
      have := hk _ _ hv
      split
      · exact ⟨KSub.refl _, hk, .inl rfl⟩
      · refine ⟨KSub.refl _, hk, .inr ?_⟩
        unfold MkR
        simp only
        omega
    | none =>
      simp only
      obtain ⟨h1, h2, h3⟩ := pairM_ok (F := F) (followM_ok F g) (hk.put (x, c) (.inl rfl)) hx hc (Nat.lt_of_lt_of_le (unk_put (v := 1) hx hc hv) (Nat.le_of_lt_succ hu))
      split
      · exact ⟨(KSub.put _ _ _).trans h1, h2, .inl (by assumption)⟩
      · rename_i hne
        have h4 := h3.resolve_left hne
        refine ⟨((KSub.put _ _ _).trans h1).trans (KSub.put _ _ _), h2.put _ ?_, .inr h4⟩
        unfold MkR at h4
        omega

/-! ### loops -/
def allM (F : Fnt) : List Int := ((List.range F.chars.length).filter fun (i : Nat) => decide (0 ≤ (metM F i).tag)).map fun (i : Nat) => F.first + (i : Int)
/-- a mark against many; none: one goes on for ever -/
def loopsIn (F : Fnt) (g : Nat) (x : Int) : KM → List Int → Option KM
  | kn, [] => some kn
  | kn, y :: l => if (followM F g kn x y).1 = -3 then none else loopsIn F g x (followM F g kn x y).2 l
def loopsOut (F : Fnt) (g : Nat) (ys : List Int) : KM → List Int → Option KM
  | kn, [] => some kn
  | kn, x :: l => if beginM F x < 0 then loopsOut F g ys kn l else
    match loopsIn F g x kn ys with
    | none => none
    | some kn' => loopsOut F g ys kn' l
def loopsB (F : Fnt) (g : Nat) : Bool := (loopsOut F g (256 :: allM F) (fun _ => none) (-1 :: allM F)).isNone
/-- what is true of the marks of a right font -/
def allUpto (F : Fnt) (k : Nat) : List Int := ((List.range k).filter fun (i : Nat) => decide (0 ≤ (metM F i).tag)).map fun (i : Nat) => F.first + (i : Int)
theorem allUpto_succ (F : Fnt) (k : Nat) : allUpto F (k + 1) = allUpto F k ++ if 0 ≤ (metM F k).tag then [F.first + (k : Int)] else [] := by
  unfold allUpto
  rw [List.range_succ, List.filter_append, List.map_append]
  by_cases h : 0 ≤ (metM F k).tag
  · simp [h]
  · simp [h]
theorem allUpto_len (F : Fnt) (k : Nat) : (allUpto F k).length ≤ k := by
  unfold allUpto
  rw [List.length_map]
  have := List.length_filter_le (fun (i : Nat) => decide (0 ≤ (metM F i).tag)) (List.range k)
  rw [List.length_range] at this
  exact this
theorem allM_mk {F : Fnt} (h : FOk F) : ∀ y ∈ allM F, MkR y := by
  intro y hy
  unfold allM at hy
  rw [List.mem_map] at hy
  obtain ⟨i, hi, rfl⟩ := hy
  have := List.mem_range.1 (List.mem_filter.1 hi).1
  have h0 := h.h0
  have hc := h.hc
  unfold MkR
  omega
end Go.Proofs.Ytigjfbbgbiajbaa
