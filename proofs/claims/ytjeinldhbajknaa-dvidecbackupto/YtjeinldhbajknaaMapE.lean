
/-
  Maps that the call owns, of just n entries. Conditions: those of the theorems.
-/
import Derived.Test.YtjeinldhbajknaaMap
namespace Go.Sp
open Go Go.RowKit Go.MapKept
section
variable {K V : Type} {W w w' : World} {A : HProp} {kE : K → Value} {vE : V → Value} {b n : Nat} {f : K → Option V} {P : Program} {kt et mt : TypeId}

/-- A map of just n entries, that is a function. -/
def mapE (kE : K → Value) (vE : V → Value) (b n : Nat) (f : K → Option V) : HProp := fun h =>
  ∃ (arr : Array MapEntry) (clock : Nat), Stamped arr clock ∧ arr.size = n ∧ MapR kE vE arr f ∧ pts b (.map arr clock) h

theorem Sat.mapE_open (h : Sat W (mapE kE vE b n f * A) w) : ∃ (arr : Array MapEntry) (clock : Nat), Stamped arr clock ∧ arr.size = n ∧ MapR kE vE arr f ∧ Sat W (pts b (.map arr clock) * A) w := by
  obtain ⟨h1, x, hx, a, r, hd, hu, ⟨arr, clock, h2, h3, h4, h5⟩, hr⟩ := h
  exact ⟨arr, clock, h2, h3, h4, h1, x, hx, a, r, hd, hu, h5, hr⟩
theorem Sat.mapE_mk {arr : Array MapEntry} {clock : Nat} (h : Sat W (pts b (.map arr clock) * A) w) (h2 : Stamped arr clock) (h3 : arr.size = n) (h4 : MapR kE vE arr f) : Sat W (mapE kE vE b n f * A) w :=
  h.imp_l fun _ hx => ⟨arr, clock, h2, h3, h4, hx⟩
theorem Sat.mapE_weak (h : Sat W (mapE kE vE b n f * A) w) : Sat W (mapH kE vE b n f * A) w := by
  obtain ⟨arr, clock, h2, h3, h4, h5⟩ := h.mapE_open
  exact h5.map_mk h2 (Nat.le_of_eq h3) h4
theorem Sat.mapE_nil (h : Sat W A w) : Sat W (mapE kE vE w.heap.size 0 (fun _ => none) * A) (w.alloc (.map #[] 0)) :=
  (h.alloc (.map #[] 0)).mapE_mk (stamped_empty 0) rfl ⟨fun e he => by simp at he, fun k v h => by cases h⟩

/-- 'm[k] = v' of a new key -/
theorem Sat.mapE_new (T : KeyT P kt kE) (ht : P.underlying mt = some (.map kt et)) (h : Sat W (mapE kE vE b n f * A) w) (k : K) (v : V) (hk : f k = none) :
    ∃ w', (Instr.mapUpdate mt (.map (some b)) (kE k) (vE v)).run P w = .ok () w' ∧ Sat W (mapE kE vE b (n + 1) (mput f k v) * A) w' := by
  obtain ⟨arr, clock, h2, h3, h4, h5⟩ := h.mapE_open
  have hb := h5.blk
  simp only [Instr.mapUpdate, Sem.run_bind, run_underlying ht, Result.andThen_ok, Go.MapKept.run_getObj_map hb, T.chk]
  rcases T.fnd k w arr.toList h4.keys with ⟨h6, h7⟩ | ⟨i, e, h6, h7, h8⟩
  · simp only [h6, Result.andThen_ok, Go.MapKept.run_setObj_map _ hb]
    refine ⟨_, rfl, (h5.map_set _).mapE_mk (stamped_push h2 h7) (by simp; omega) ⟨fun x hx => ?_, fun j u hj => ?_⟩⟩
    · rw [Array.toList_push, List.mem_append] at hx
      rcases hx with hx | hx
      · obtain ⟨j, u, h9, h10, h11⟩ := h4.1 x hx
        refine ⟨j, u, h9, h10, ?_⟩
        rw [mput_other f v (fun e => h7 x hx (by rw [h9, e]))]
        exact h11
      · obtain rfl := List.mem_singleton.1 hx
        exact ⟨k, v, rfl, rfl, mput_same f k v⟩
    · by_cases hjk : j = k
      · subst hjk
        rw [mput_same] at hj
        cases hj
        exact ⟨_, by rw [Array.toList_push]; exact List.mem_append_right _ (List.mem_singleton.2 rfl), rfl, rfl⟩
      · rw [mput_other f v hjk] at hj
        obtain ⟨x, hx, h9, h10⟩ := h4.2 j u hj
        exact ⟨x, by rw [Array.toList_push]; exact List.mem_append_left _ hx, h9, h10⟩
  · obtain ⟨u, hf, _⟩ := h4.some T (List.mem_of_getElem? h7) h8
    rw [hk] at hf
    cases hf

/-- 'm[k] = v', whatever was there -/
theorem Sat.mapE_upd (T : KeyT P kt kE) (ht : P.underlying mt = some (.map kt et)) (h : Sat W (mapE kE vE b n f * A) w) (k : K) (v : V) :
    ∃ w', (Instr.mapUpdate mt (.map (some b)) (kE k) (vE v)).run P w = .ok () w' ∧ ∃ n', (f k = none → n' = n + 1) ∧ Sat W (mapE kE vE b n' (mput f k v) * A) w' := by
  cases hk : f k with
  | none =>
    obtain ⟨w', h1, h2⟩ := h.mapE_new T ht k v hk
    exact ⟨w', h1, n + 1, fun _ => rfl, h2⟩
  | some u =>
    obtain ⟨w', h1, h2⟩ := h.mapE_weak.map_upd T ht k v
    obtain ⟨arr, clock, h3, _, h5, h6⟩ := h2.map_open
    exact ⟨w', h1, arr.size, (fun h => by cases h), h6.mapE_mk h3 rfl h5⟩
/-- 'm[k] = v' of a key that is there -/
theorem Sat.mapE_old (T : KeyT P kt kE) (ht : P.underlying mt = some (.map kt et)) (h : Sat W (mapE kE vE b n f * A) w) (k : K) (v : V) (hk : (f k).isSome = true) :
    ∃ w', (Instr.mapUpdate mt (.map (some b)) (kE k) (vE v)).run P w = .ok () w' ∧ Sat W (mapE kE vE b n (mput f k v) * A) w' := by
  obtain ⟨arr, clock, h2, h3, h4, h5⟩ := h.mapE_open
  have hb := h5.blk
  simp only [Instr.mapUpdate, Sem.run_bind, run_underlying ht, Result.andThen_ok, Go.MapKept.run_getObj_map hb, T.chk]
  rcases T.fnd k w arr.toList h4.keys with ⟨h6, h7⟩ | ⟨i, e, h6, h7, h8⟩
  · rw [h4.none h7] at hk
    cases hk
  · have hi : arr[i]? = some e := by simpa using h7
    have hlt : i < arr.size := (Array.getElem?_eq_some_iff.1 hi).1
    simp only [h6, Result.andThen_ok, hi, Option.map_some, Option.getD_some, h8, T.stay, Sem.run_bind, Go.MapKept.run_setObj_map _ hb]
    refine ⟨_, rfl, (h5.map_set _).mapE_mk (stamped_modify h2 i _ (fun _ _ => rfl) (fun x hx hxi => by rw [hi] at hxi; cases hxi; exact h8.symm)) (by simp [h3]) ⟨fun x hx => ?_, fun j u hj => ?_⟩⟩
    · obtain ⟨m, hm⟩ := List.mem_iff_getElem?.1 hx
      rw [Array.getElem?_toList, Array.getElem?_modify] at hm
      by_cases him : i = m
      · subst him
        simp [hi] at hm
        subst hm
        exact ⟨k, v, rfl, rfl, mput_same f k v⟩
      · simp [him] at hm
        have hx2 : x ∈ arr.toList := List.mem_of_getElem? (by rw [Array.getElem?_toList]; exact hm)
        obtain ⟨j, u, h9, h10, h11⟩ := h4.1 x hx2
        refine ⟨j, u, h9, h10, ?_⟩
        rw [mput_other f v ?_]
        · exact h11
        · rintro rfl
          have hp := (stamped_iff _ _).1 h2
          have := List.pairwise_iff_getElem.1 hp.2.2
          have hml : m < arr.size := (Array.getElem?_eq_some_iff.1 hm).1
          have hem : arr[m] = x := (Array.getElem?_eq_some_iff.1 hm).2
          have hei : arr[i] = e := (Array.getElem?_eq_some_iff.1 hi).2
          rcases Nat.lt_or_gt_of_ne him with hl | hl
          · exact this i m (by simpa using hlt) (by simpa using hml) hl (by simp [hem, hei, h8, h9])
          · exact this m i (by simpa using hml) (by simpa using hlt) hl (by simp [hem, hei, h8, h9])
    · by_cases hjk : j = k
      · subst hjk
        rw [mput_same] at hj
        cases hj
        refine ⟨{ e with key := kE j, val := vE v }, List.mem_of_getElem? (i := i) ?_, rfl, rfl⟩
        rw [Array.getElem?_toList, Array.getElem?_modify]
        simp [hi]
      · rw [mput_other f v hjk] at hj
        obtain ⟨x, hx, h9, h10⟩ := h4.2 j u hj
        obtain ⟨m, hm⟩ := List.mem_iff_getElem?.1 hx
        refine ⟨x, List.mem_of_getElem? (i := m) ?_, h9, h10⟩
        rw [Array.getElem?_toList] at hm
        rw [Array.getElem?_toList, Array.getElem?_modify]
        have : i ≠ m := by
          rintro rfl
          rw [hi] at hm
          cases hm
          exact hjk (T.inj _ _ (h9.symm.trans h8))
        simp [this, hm]

/-- 'm[k] = v' -/
theorem Sat.mapE_put (T : KeyT P kt kE) (ht : P.underlying mt = some (.map kt et)) (h : Sat W (mapE kE vE b n f * A) w) (k : K) (v : V) :
    ∃ w', (Instr.mapUpdate mt (.map (some b)) (kE k) (vE v)).run P w = .ok () w' ∧ Sat W (mapE kE vE b (if (f k).isSome then n else n + 1) (mput f k v) * A) w' := by
  cases hk : (f k).isSome with
  | true => exact h.mapE_old T ht k v hk
  | false => exact h.mapE_new T ht k v (by cases hf : f k with | none => rfl | some u => rw [hf] at hk; cases hk)
theorem Sat.mapE_len (ht : P.underlying mt = some (.map kt et)) (h : Sat W (mapE kE vE b n f * A) w) (ty : TypeId) :
    (Builtin.len_ #[mt] ty #[.map (some b)]).run P w = .ok (.int .i64 n) w := by
  obtain ⟨arr, clock, h2, h3, h4, h5⟩ := h.mapE_open
  subst h3
  simp [Builtin.len_, run_underlying ht, Go.MapKept.run_getObj_map h5.blk, Result.andThen, goInt]
end
end Go.Sp
