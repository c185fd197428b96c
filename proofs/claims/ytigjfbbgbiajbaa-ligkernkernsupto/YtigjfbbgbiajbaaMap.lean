/-
  Maps that the call owns, said as functions from keys to values. Conditions: those of the theorems.
-/
import Derived.Test.YtigjfbbgbiajbaaSep
import Derived.MapKept
import Derived.Maps.RangeRun
import Derived.DeepKeys3
import Derived.WideKeyRuns
import Derived.Carry
namespace Go.Sp
open Go Go.RowKit Go.MapKept

/-- Values of one type that can be keys, as Lean's. -/
structure KeyT (P : Program) (kt : TypeId) {K : Type} (kE : K → Value) : Prop where
  inj : ∀ a b, kE a = kE b → a = b
  chk : ∀ (em : Bool) (w : World) (k : K), (Instr.checkKey em 10000 kt (kE k)).run P w = .ok () w
  fnd : ∀ (k : K) (w : World) (l : List MapEntry), (∀ e ∈ l, ∃ k', e.key = kE k') →
    ((Instr.findKey kt (kE k) l).run P w = .ok none w ∧ ∀ e ∈ l, e.key ≠ kE k) ∨ ∃ i e, (Instr.findKey kt (kE k) l).run P w = .ok (some (i, e.val)) w ∧ l[i]? = some e ∧ e.key = kE k
  stay : ∀ (k : K) (w : World), (Instr.keyThatStays (kE k) (kE k)).run P w = .ok (kE k) w

/-- the keys that are strings -/
theorem keyT_string {P : Program} {kt : TypeId} (hk : P.underlying kt = some .string) : KeyT P kt Value.string where
  inj := fun a b h => by simpa using h
  chk := fun em w k => run_checkKey hk (by trivial) em 9999
  fnd := fun k w l hl => by
    rcases findNow_spec (d := .string) (k := .string k) (by trivial) l 0 (fun x hx => by obtain ⟨k', e⟩ := hl x hx; rw [e]; trivial) with ⟨h1, h2⟩ | ⟨j, e, h1, h2, h3⟩
    · exact .inl ⟨run_findKey hk h1, h2⟩
    · exact .inr ⟨j, e, by rw [Nat.zero_add] at h1; exact run_findKey hk h1, h2, h3⟩
  stay := fun k w => run_keyThatStays (d := .string) (by trivial)

/-- the keys that are whole numbers -/
theorem keyT_int {P : Program} {kt : TypeId} {q : IntKind} (hk : P.underlying kt = some (.int q)) : KeyT P kt (Value.int q) where
  inj := fun a b h => by simpa using h
  chk := fun em w k => run_checkKey hk (show IsKey (.int q) (.int q k) from rfl) em 9999
  fnd := fun k w l hl => by
    rcases findNow_spec (d := .int q) (k := .int q k) rfl l 0 (fun x hx => by obtain ⟨k', e⟩ := hl x hx; rw [e]; rfl) with ⟨h1, h2⟩ | ⟨j, e, h1, h2, h3⟩
    · exact .inl ⟨run_findKey hk h1, h2⟩
    · exact .inr ⟨j, e, by rw [Nat.zero_add] at h1; exact run_findKey hk h1, h2, h3⟩
  stay := fun k w => run_keyThatStays (d := .int q) rfl

section
variable {K V : Type}
/-- entries that are a function -/
def MapR (kE : K → Value) (vE : V → Value) (arr : Array MapEntry) (f : K → Option V) : Prop :=
  (∀ e ∈ arr.toList, ∃ k v, e.key = kE k ∧ e.val = vE v ∧ f k = some v) ∧ ∀ k v, f k = some v → ∃ e ∈ arr.toList, e.key = kE k ∧ e.val = vE v

/-- A map of at most n entries, that is a function. -/
def mapH (kE : K → Value) (vE : V → Value) (b n : Nat) (f : K → Option V) : HProp := fun h =>
  ∃ (arr : Array MapEntry) (clock : Nat), Stamped arr clock ∧ arr.size ≤ n ∧ MapR kE vE arr f ∧ pts b (.map arr clock) h

open Classical in
noncomputable def mput (f : K → Option V) (k : K) (v : V) : K → Option V := fun j => if j = k then some v else f j
open Classical in
noncomputable def mdel (f : K → Option V) (k : K) : K → Option V := fun j => if j = k then none else f j

theorem mput_same (f : K → Option V) (k : K) (v : V) : mput f k v k = some v := by simp [mput]
theorem mput_other (f : K → Option V) {k j : K} (v : V) (h : j ≠ k) : mput f k v j = f j := by simp [mput, h]
theorem mdel_same (f : K → Option V) (k : K) : mdel f k k = none := by simp [mdel]
theorem mdel_other (f : K → Option V) {k j : K} (h : j ≠ k) : mdel f k j = f j := by simp [mdel, h]

variable {W w w' : World} {A : HProp} {kE : K → Value} {vE : V → Value} {b n : Nat} {f : K → Option V} {P : Program} {kt et mt : TypeId}

theorem Sat.map_open (h : Sat W (mapH kE vE b n f * A) w) : ∃ (arr : Array MapEntry) (clock : Nat), Stamped arr clock ∧ arr.size ≤ n ∧ MapR kE vE arr f ∧ Sat W (pts b (.map arr clock) * A) w := by
  obtain ⟨h1, x, hx, a, r, hd, hu, ⟨arr, clock, h2, h3, h4, h5⟩, hr⟩ := h
  exact ⟨arr, clock, h2, h3, h4, h1, x, hx, a, r, hd, hu, h5, hr⟩
theorem Sat.map_mk {arr : Array MapEntry} {clock : Nat} (h : Sat W (pts b (.map arr clock) * A) w) (h2 : Stamped arr clock) (h3 : arr.size ≤ n) (h4 : MapR kE vE arr f) : Sat W (mapH kE vE b n f * A) w :=
  h.imp_l fun _ hx => ⟨arr, clock, h2, h3, h4, hx⟩
theorem Sat.map_mono (h : Sat W (mapH kE vE b n f * A) w) {m : Nat} (hm : n ≤ m) : Sat W (mapH kE vE b m f * A) w := by
  obtain ⟨arr, clock, h2, h3, h4, h5⟩ := h.map_open
  exact h5.map_mk h2 (Nat.le_trans h3 hm) h4

/-- 'make(map..)' -/
theorem Sat.map_new (h : Sat W A w) : Sat W (mapH kE vE w.heap.size 0 (fun _ => none) * A) (w.alloc (.map #[] 0)) :=
  (h.alloc (.map #[] 0)).map_mk (stamped_empty 0) (Nat.le_refl _) ⟨fun e he => by simp at he, fun k v h => by cases h⟩

theorem MapR.keys {arr : Array MapEntry} (h : MapR kE vE arr f) : ∀ e ∈ arr.toList, ∃ k', e.key = kE k' := fun e he => let ⟨k, _, h1, _⟩ := h.1 e he; ⟨k, h1⟩

theorem MapR.none {arr : Array MapEntry} (h : MapR kE vE arr f) {k : K} (hn : ∀ e ∈ arr.toList, e.key ≠ kE k) : f k = none := by
  cases hf : f k with
  | none => rfl
  | some v =>
    obtain ⟨e, he, h1, _⟩ := h.2 k v hf
    exact absurd h1 (hn e he)
theorem MapR.some (T : KeyT P kt kE) {arr : Array MapEntry} (h : MapR kE vE arr f) {k : K} {e : MapEntry} (he : e ∈ arr.toList) (hk : e.key = kE k) : ∃ v, f k = some v ∧ e.val = vE v := by
  obtain ⟨k', v, h1, h2, h3⟩ := h.1 e he
  have := T.inj k k' (hk.symm.trans h1)
  subst this
  exact ⟨v, h3, h2⟩

/-- 'm[k]' -/
theorem Sat.map_look (T : KeyT P kt kE) (ht : P.underlying mt = some (.map kt et)) {z : Value} (hz : ∀ w, (zeroValue et).run P w = .ok z w) (h : Sat W (mapH kE vE b n f * A) w) (k : K) (c : Bool) :
    (Instr.lookup mt (.map (some b)) (kE k) c).run P w = .ok (if c then .tuple #[((f k).map vE).getD z, .bool (f k).isSome] else ((f k).map vE).getD z) w := by
  obtain ⟨arr, clock, h2, h3, h4, h5⟩ := h.map_open
  have hb := h5.blk
  simp only [Instr.lookup, Sem.run_bind, run_underlying ht, Result.andThen_ok, Go.MapKept.run_getObj_map hb, Sem.run_pure, T.chk]
  rcases T.fnd k w arr.toList h4.keys with ⟨h6, h7⟩ | ⟨i, e, h6, h7, h8⟩
  · have hf := h4.none h7
    simp only [h6, Result.andThen_ok, Sem.run_bind, hz, Sem.run_pure, hf]
    cases c <;> rfl
  · obtain ⟨v, hf, hv⟩ := h4.some T (List.mem_of_getElem? h7) h8
    simp only [h6, Result.andThen_ok, Sem.run_bind, Sem.run_pure, hf, hv]
    cases c <;> rfl

theorem Sat.map_set {arr : Array MapEntry} {clock : Nat} (h : Sat W (pts b (.map arr clock) * A) w) (o : Obj) : Sat W (pts b o * A) { w with heap := w.heap.setIfInBounds b o } :=
  h.upd ⟨rfl, rfl, rfl⟩ (heap_set h.blk).1 fun k x hk hx => by
    show (w.heap.setIfInBounds b o)[k]? = _
    rw [(heap_set (o' := o) h.blk).2 k hk]; exact hx

/-- 'm[k] = v' -/
theorem Sat.map_upd (T : KeyT P kt kE) (ht : P.underlying mt = some (.map kt et)) (h : Sat W (mapH kE vE b n f * A) w) (k : K) (v : V) :
    ∃ w', (Instr.mapUpdate mt (.map (some b)) (kE k) (vE v)).run P w = .ok () w' ∧ Sat W (mapH kE vE b (n + 1) (mput f k v) * A) w' := by
  obtain ⟨arr, clock, h2, h3, h4, h5⟩ := h.map_open
  have hb := h5.blk
  simp only [Instr.mapUpdate, Sem.run_bind, run_underlying ht, Result.andThen_ok, Go.MapKept.run_getObj_map hb, T.chk]
  rcases T.fnd k w arr.toList h4.keys with ⟨h6, h7⟩ | ⟨i, e, h6, h7, h8⟩
  · simp only [h6, Result.andThen_ok, Go.MapKept.run_setObj_map _ hb]
    refine ⟨_, rfl, (h5.map_set _).map_mk (stamped_push h2 h7) (by simp; omega) ⟨fun x hx => ?_, fun j u hj => ?_⟩⟩
    · rw [Array.toList_push, List.mem_append] at hx
      rcases hx with hx | hx
      · obtain ⟨j, u, h9, h10, h11⟩ := h4.1 x hx
        refine ⟨j, u, h9, h10, ?_⟩
        rw [mput_other f v (fun e => h7 x hx (by rw [h9, e]))]
        exact h11
      · obtain rfl := List.mem_singleton.1 hx
        exact ⟨k, v, rfl, rfl, mput_same f k v⟩
    · by_cases hjk : j = k
      · subst hjk
        rw [mput_same] at hj
        cases hj
        exact ⟨_, by rw [Array.toList_push]; exact List.mem_append_right _ (List.mem_singleton.2 rfl), rfl, rfl⟩
      · rw [mput_other f v hjk] at hj
        obtain ⟨x, hx, h9, h10⟩ := h4.2 j u hj
        exact ⟨x, by rw [Array.toList_push]; exact List.mem_append_left _ hx, h9, h10⟩
  · have hi : arr[i]? = some e := by simpa using h7
    have hlt : i < arr.size := (Array.getElem?_eq_some_iff.1 hi).1
    simp only [h6, Result.andThen_ok, hi, Option.map_some, Option.getD_some, h8, T.stay, Sem.run_bind, Go.MapKept.run_setObj_map _ hb]
    refine ⟨_, rfl, (h5.map_set _).map_mk (stamped_modify h2 i _ (fun _ _ => rfl) (fun x hx hxi => by rw [hi] at hxi; cases hxi; exact h8.symm)) (by simp; omega) ⟨fun x hx => ?_, fun j u hj => ?_⟩⟩
    · obtain ⟨m, hm⟩ := List.mem_iff_getElem?.1 hx
      rw [Array.getElem?_toList, Array.getElem?_modify] at hm
      by_cases him : i = m
      · subst him
        simp [hi] at hm
        subst hm
        exact ⟨k, v, rfl, rfl, mput_same f k v⟩
      · simp [him] at hm
        have hx2 : x ∈ arr.toList := List.mem_of_getElem? (by rw [Array.getElem?_toList]; exact hm)
        obtain ⟨j, u, h9, h10, h11⟩ := h4.1 x hx2
        refine ⟨j, u, h9, h10, ?_⟩
        rw [mput_other f v ?_]
        · exact h11
        · rintro rfl
          have hp := (stamped_iff _ _).1 h2
          have := List.pairwise_iff_getElem.1 hp.2.2
          have hml : m < arr.size := (Array.getElem?_eq_some_iff.1 hm).1
          have hem : arr[m] = x := (Array.getElem?_eq_some_iff.1 hm).2
          have hei : arr[i] = e := (Array.getElem?_eq_some_iff.1 hi).2
          rcases Nat.lt_or_gt_of_ne him with hl | hl
          · exact this i m (by simpa using hlt) (by simpa using hml) hl (by simp [hem, hei, h8, h9])
          · exact this m i (by simpa using hml) (by simpa using hlt) hl (by simp [hem, hei, h8, h9])
    · by_cases hjk : j = k
      · subst hjk
        rw [mput_same] at hj
        cases hj
        refine ⟨{ e with key := kE j, val := vE v }, List.mem_of_getElem? (i := i) ?_, rfl, rfl⟩
        rw [Array.getElem?_toList, Array.getElem?_modify]
        simp [hi]
      · rw [mput_other f v hjk] at hj
        obtain ⟨x, hx, h9, h10⟩ := h4.2 j u hj
        obtain ⟨m, hm⟩ := List.mem_iff_getElem?.1 hx
        refine ⟨x, List.mem_of_getElem? (i := m) ?_, h9, h10⟩
        rw [Array.getElem?_toList] at hm
        rw [Array.getElem?_toList, Array.getElem?_modify]
        have : i ≠ m := by
          rintro rfl
          rw [hi] at hm
          cases hm
          exact hjk (T.inj _ _ (h9.symm.trans h8))
        simp [this, hm]

/-- 'delete(m, k)' -/
theorem Sat.map_del (T : KeyT P kt kE) (ht : P.underlying mt = some (.map kt et)) (h : Sat W (mapH kE vE b n f * A) w) (k : K) (ty : TypeId) :
    ∃ w', (Builtin.delete_ #[mt, kt] ty #[.map (some b), kE k]).run P w = .ok (.tuple #[]) w' ∧ Sat W (mapH kE vE b n (mdel f k) * A) w' := by
  obtain ⟨arr, clock, h2, h3, h4, h5⟩ := h.map_open
  have hb := h5.blk
  have e1 : (#[mt, kt] : Array TypeId)[0]? = some mt := rfl
  have e2 : (#[Value.map (some b), kE k] : Array Value)[0]? = some (.map (some b)) := rfl
  have e3 : (#[Value.map (some b), kE k] : Array Value)[1]? = some (kE k) := rfl
  simp only [Builtin.delete_, e1, e2, e3, Sem.run_bind, run_underlying ht, Result.andThen_ok, Go.MapKept.run_getObj_map hb, T.chk]
  rcases T.fnd k w arr.toList h4.keys with ⟨h6, h7⟩ | ⟨i, e, h6, h7, h8⟩
  · simp only [h6, Result.andThen_ok, Sem.run_bind, Go.MapKept.run_setObj_map _ hb, Sem.run_pure]
    refine ⟨_, rfl, (h5.map_set _).map_mk h2 h3 ⟨fun x hx => ?_, fun j u hj => ?_⟩⟩
    · obtain ⟨j, u, h9, h10, h11⟩ := h4.1 x hx
      exact ⟨j, u, h9, h10, by rw [mdel_other f (fun e => h7 x hx (by rw [h9, e]))]; exact h11⟩
    · by_cases hjk : j = k
      · subst hjk; rw [mdel_same] at hj; cases hj
      · rw [mdel_other f hjk] at hj; exact h4.2 j u hj
  · have hi : arr[i]? = some e := by simpa using h7
    have hlt : i < arr.size := (Array.getElem?_eq_some_iff.1 hi).1
    simp only [h6, Result.andThen_ok, Sem.run_bind, Go.MapKept.run_setObj_map _ hb, Sem.run_pure]
    have hel : (arr.eraseIdxIfInBounds i).toList = arr.toList.eraseIdx i := by
      unfold Array.eraseIdxIfInBounds; rw [dif_pos hlt, Array.toList_eraseIdx]
    refine ⟨_, rfl, (h5.map_set _).map_mk (stamped_erase h2 i) ?_ ⟨fun x hx => ?_, fun j u hj => ?_⟩⟩
    · have h9 : (arr.eraseIdxIfInBounds i).toList.length ≤ arr.toList.length := by rw [hel]; exact (List.eraseIdx_sublist _ _).length_le
      simp only [Array.length_toList] at h9
      omega
    · rw [hel] at hx
      obtain ⟨m, hm⟩ := List.mem_iff_getElem?.1 hx
      rw [List.getElem?_eraseIdx] at hm
      obtain ⟨q, hq, hqi⟩ : ∃ q, arr.toList[q]? = some x ∧ q ≠ i := by
        split at hm
        · exact ⟨m, hm, by omega⟩
        · exact ⟨m + 1, hm, by omega⟩
      obtain ⟨j, u, h9, h10, h11⟩ := h4.1 x (List.mem_of_getElem? hq)
      refine ⟨j, u, h9, h10, ?_⟩
      rw [mdel_other f ?_]
      · exact h11
      · rintro rfl
        have hp := ((stamped_iff _ _).1 h2).2.2
        have := List.pairwise_iff_getElem.1 hp
        have hq1 := (List.getElem?_eq_some_iff.1 hq)
        obtain ⟨hql, hqe⟩ := hq1
        have h71 := (List.getElem?_eq_some_iff.1 h7)
        obtain ⟨h7l, h7e⟩ := h71
        rcases Nat.lt_or_gt_of_ne hqi with hl | hl
        · exact this q i hql h7l hl (by rw [hqe, h7e, h8, h9])
        · exact this i q h7l hql hl (by rw [hqe, h7e, h8, h9])
    · by_cases hjk : j = k
      · subst hjk; rw [mdel_same] at hj; cases hj
      · rw [mdel_other f hjk] at hj
        obtain ⟨x, hx, h9, h10⟩ := h4.2 j u hj
        refine ⟨x, ?_, h9, h10⟩
        rw [hel]
        obtain ⟨m, hm⟩ := List.mem_iff_getElem?.1 hx
        have hmi : m ≠ i := by
          rintro rfl
          rw [h7] at hm
          cases hm
          exact hjk (T.inj _ _ (h9.symm.trans h8))
        refine List.mem_iff_getElem?.2 ?_
        rcases Nat.lt_or_gt_of_ne hmi with hl | hl
        · exact ⟨m, by rw [List.getElem?_eraseIdx, if_pos hl]; exact hm⟩
        · exact ⟨m - 1, by rw [List.getElem?_eraseIdx, if_neg (by omega), Nat.sub_add_cancel (by omega)]; exact hm⟩

/-- 'len(m)' -/
theorem Sat.map_len (ht : P.underlying mt = some (.map kt et)) (h : Sat W (mapH kE vE b n f * A) w) (ty : TypeId) :
    ∃ m : Nat, m ≤ n ∧ (Builtin.len_ #[mt] ty #[.map (some b)]).run P w = .ok (.int .i64 m) w := by
  obtain ⟨arr, clock, h2, h3, h4, h5⟩ := h.map_open
  refine ⟨arr.size, h3, ?_⟩
  simp [Builtin.len_, run_underlying ht, Go.MapKept.run_getObj_map h5.blk, Result.andThen, goInt]

/-! ### ranging over a map that stays as it is meanwhile -/
/-- The map, and an iterator over it: 'left' is still to come, c entries; cur: the entry that came last. -/
def iterH (kE : K → Value) (vE : V → Value) (b r n : Nat) (f left : K → Option V) (c : Nat) (cur : Option (K × V)) : HProp :=
  ex fun arr : Array MapEntry => ex fun clock : Nat => ex fun seen : Array Nat => ex fun c0 : Nat =>
    fact (Stamped arr clock ∧ arr.size ≤ n ∧ MapR kE vE arr f ∧ clock ≤ c0 ∧ MapR kE vE (leftOf arr seen) left ∧ (leftOf arr seen).size = c ∧
      ∀ kv, cur = some kv → ∃ (e : MapEntry) (s0 : Array Nat), e ∈ arr.toList ∧ seen = s0.push e.born ∧ e.key = kE kv.1 ∧ e.val = vE kv.2)
    (pts b (.map arr clock) * pts r (.mapIter (some b) clock seen c0))

theorem Sat.iter_open {r c : Nat} {left : K → Option V} {cur : Option (K × V)} (h : Sat W (iterH kE vE b r n f left c cur * A) w) :
    ∃ (arr : Array MapEntry) (clock : Nat) (seen : Array Nat) (c0 : Nat), (Stamped arr clock ∧ arr.size ≤ n ∧ MapR kE vE arr f ∧ clock ≤ c0 ∧ MapR kE vE (leftOf arr seen) left ∧ (leftOf arr seen).size = c ∧
      ∀ kv, cur = some kv → ∃ (e : MapEntry) (s0 : Array Nat), e ∈ arr.toList ∧ seen = s0.push e.born ∧ e.key = kE kv.1 ∧ e.val = vE kv.2) ∧ Sat W (pts b (.map arr clock) * (pts r (.mapIter (some b) clock seen c0) * A)) w := by
  obtain ⟨arr, h1⟩ := h.ex_l
  obtain ⟨clock, h2⟩ := h1.ex_l
  obtain ⟨seen, h3⟩ := h2.ex_l
  obtain ⟨c0, h4⟩ := h3.ex_l
  obtain ⟨h5, h6⟩ := h4.fact_l
  exact ⟨arr, clock, seen, c0, h5, h6.asc⟩

theorem Sat.iter_mk {r c : Nat} {left : K → Option V} {cur : Option (K × V)} {arr : Array MapEntry} {clock : Nat} {seen : Array Nat} {c0 : Nat} (h5 : Stamped arr clock ∧ arr.size ≤ n ∧ MapR kE vE arr f ∧ clock ≤ c0 ∧ MapR kE vE (leftOf arr seen) left ∧ (leftOf arr seen).size = c ∧
      ∀ kv, cur = some kv → ∃ (e : MapEntry) (s0 : Array Nat), e ∈ arr.toList ∧ seen = s0.push e.born ∧ e.key = kE kv.1 ∧ e.val = vE kv.2) (h : Sat W (pts b (.map arr clock) * (pts r (.mapIter (some b) clock seen c0) * A)) w) :
    Sat W (iterH kE vE b r n f left c cur * A) w :=
  Sat.ex_l_intro arr (Sat.ex_l_intro clock (Sat.ex_l_intro seen (Sat.ex_l_intro c0 (Sat.fact_l_intro h5 h.asc'))))

theorem leftOf_empty (arr : Array MapEntry) : leftOf arr #[] = arr := by
  unfold leftOf
  rw [Array.filter_eq_self]
  intro x _
  simp

/-- 'range m' -/
theorem Sat.map_range (ht : P.underlying mt = some (.map kt et)) (h : Sat W (mapH kE vE b n f * A) w) :
    ∃ (o : Obj) (c : Nat), (Instr.range mt (.map (some b))).run P w = .ok (.pointer (some ⟨w.heap.size, 0, none⟩)) (w.alloc o) ∧ Sat W (iterH kE vE b w.heap.size n f f c none * A) (w.alloc o) := by
  obtain ⟨arr, clock, h2, h3, h4, h5⟩ := h.map_open
  refine ⟨_, arr.size, run_range_map w mt kt et b arr clock ht h5.blk, ?_⟩
  refine Sat.iter_mk (seen := #[]) (c0 := clock) ⟨h2, h3, h4, Nat.le_refl _, ?_, ?_, fun kv h => by cases h⟩ ((h5.alloc _).rot)
  · rw [leftOf_empty]; exact h4
  · rw [leftOf_empty]

/-- after the loop: the map -/
theorem Sat.iter_map {r c : Nat} {left : K → Option V} {cur : Option (K × V)} (h : Sat W (iterH kE vE b r n f left c cur * A) w) : Sat W (mapH kE vE b n f * A) w := by
  obtain ⟨arr, clock, seen, c0, ⟨h2, h3, h4, _⟩, h5⟩ := h.iter_open
  exact (h5.rot.r).map_mk h2 h3 h4

theorem same_key {arr : Array MapEntry} {clock : Nat} (h : Stamped arr clock) {x y : MapEntry} (hx : x ∈ arr.toList) (hy : y ∈ arr.toList) (hk : x.key = y.key) : x = y := by
  have hp := ((stamped_iff _ _).1 h).2.2
  obtain ⟨i, hi, rfl⟩ := List.mem_iff_getElem.1 hx
  obtain ⟨j, hj, rfl⟩ := List.mem_iff_getElem.1 hy
  rcases Nat.lt_trichotomy i j with hl | rfl | hl
  · exact absurd hk (List.pairwise_iff_getElem.1 hp i j hi hj hl)
  · rfl
  · exact absurd hk.symm (List.pairwise_iff_getElem.1 hp j i hj hi hl)
theorem same_born {arr : Array MapEntry} {clock : Nat} (h : Stamped arr clock) {x y : MapEntry} (hx : x ∈ arr.toList) (hy : y ∈ arr.toList) (hk : x.born = y.born) : x = y := by
  have hp := ((stamped_iff _ _).1 h).2.1
  rw [List.Nodup, List.pairwise_map] at hp
  obtain ⟨i, hi, rfl⟩ := List.mem_iff_getElem.1 hx
  obtain ⟨j, hj, rfl⟩ := List.mem_iff_getElem.1 hy
  rcases Nat.lt_trichotomy i j with hl | rfl | hl
  · exact absurd hk (List.pairwise_iff_getElem.1 hp i j hi hj hl)
  · rfl
  · exact absurd hk.symm (List.pairwise_iff_getElem.1 hp j i hj hi hl)
theorem leftOf_sub {arr : Array MapEntry} {seen : Array Nat} {e : MapEntry} (h : e ∈ (leftOf arr seen).toList) : e ∈ arr.toList := by
  unfold leftOf at h
  simp at h
  simpa using h.1

/-- 'next' -/
theorem Sat.iter_next {r c : Nat} {left : K → Option V} {cur : Option (K × V)} (inj : ∀ a b, kE a = kE b → a = b) (vinj : ∀ a b, vE a = vE b → a = b) (ty : TypeId) (h : Sat W (iterH kE vE b r n f left c cur * A) w) :
    ((∀ k, left k = none) ∧ (Instr.next (.pointer (some ⟨r, 0, none⟩)) false ty).run P w = .ok (.tuple #[.bool false]) w) ∨
    ∃ (k : K) (v : V) (w' : World) (c' : Nat), c' < c ∧ left k = some v ∧ f k = some v ∧ (Instr.next (.pointer (some ⟨r, 0, none⟩)) false ty).run P w = .ok (.tuple #[.bool true, kE k, vE v]) w' ∧
      (Instr.entry (.pointer (some ⟨r, 0, none⟩))).run P w' = .ok (.tuple #[kE k, vE v]) w' ∧ Sat W (iterH kE vE b r n f (mdel left k) c' (some (k, v)) * A) w' := by
  obtain ⟨arr, clock, seen, c0, ⟨h2, h3, h4, h6, h7, h8, h9⟩, h5⟩ := h.iter_open
  have hst := (stamped_iff _ _).1 h2
  rcases run_next_at (P := P) w ty r b clock c0 seen arr clock h5.rot.blk h5.blk hst.1 h6 with ⟨h10, h11⟩ | ⟨e, he, w1, hw1, hrun⟩
  · refine .inl ⟨fun k => ?_, h11⟩
    cases hk : left k with
    | none => rfl
    | some v =>
      obtain ⟨x, hx, _⟩ := h7.2 k v hk
      rw [Array.eq_empty_of_size_eq_zero h10] at hx
      simp at hx
  · have hea : e ∈ arr.toList := by
      unfold leftOf at he
      simp at he
      simpa using he.1
    obtain ⟨k, v, h12, h13, h14⟩ := h7.1 e he
    obtain ⟨k2, v2, h15, h16, h17⟩ := h4.1 e hea
    obtain rfl : k = k2 := inj _ _ (h12.symm.trans h15)
    have hw1s : Sat W (pts b (.map arr clock) * (pts r (.mapIter (some b) clock seen c0) * A)) w1 := by
      rcases hw1 with rfl | rfl
      · exact h5
      · exact h5.drew
    have hr1 := hw1s.rot.blk
    have hset : Sat W (pts r (.mapIter (some b) clock (seen.push e.born) clock) * (pts b (.map arr clock) * A)) (Go.ChangeMaps.setBlock w1 r (.mapIter (some b) clock (seen.push e.born) clock)) :=
      hw1s.rot.upd ⟨rfl, rfl, rfl⟩ (heap_set hr1).1 fun q x hq hx => by
        show (w1.heap.setIfInBounds r _)[q]? = _
        rw [(heap_set (o' := .mapIter (some b) clock (seen.push e.born) clock) hr1).2 q hq]; exact hx
    have hleft : leftOf arr (seen.push e.born) = (leftOf arr seen).filter fun x => x.born != e.born := by
      unfold leftOf
      rw [Array.filter_filter]
      congr 1
      funext x
      rw [Array.contains_push]
      cases h1 : (x.born == e.born) <;> cases h2 : seen.contains x.born <;> simp_all
    have hcont : e ∈ (leftOf arr seen).toList := he
    refine .inr ⟨k, v, _, (leftOf arr (seen.push e.born)).size, ?_, h14, ?_, ?_, ?_, Sat.iter_mk ⟨h2, h3, h4, Nat.le_refl _, ?_, rfl, fun kv hkv => ?_⟩ hset.rot⟩
    · rw [← h8, hleft]
      have hl : ((leftOf arr seen).filter fun x => x.born != e.born).toList.length < (leftOf arr seen).toList.length := by
        rw [Array.toList_filter]
        exact List.length_filter_lt_length_iff_exists.2 ⟨e, hcont, by simp⟩
      simpa only [Array.length_toList] using hl
    · rw [h17, vinj _ _ (h13.symm.trans h16)]
    · rw [hrun, h12, h13]
    · have := run_entry_at (P := P) (Go.ChangeMaps.setBlock w1 r (.mapIter (some b) clock (seen.push e.born) clock)) r b clock seen arr clock e hset.blk hset.rot.blk hea hst.2.1
      rw [this, h12, h13]
    · rw [hleft]
      refine ⟨fun x hx => ?_, fun j u hj => ?_⟩
      · simp only [Array.toList_filter, List.mem_filter, bne_iff_ne, ne_eq] at hx
        obtain ⟨j, u, h18, h19, h20⟩ := h7.1 x hx.1
        refine ⟨j, u, h18, h19, ?_⟩
        rw [mdel_other left ?_]
        · exact h20
        · rintro rfl
          exact hx.2 (by rw [same_key h2 (leftOf_sub hx.1) hea (h18.trans h12.symm)])
      · by_cases hjk : j = k
        · subst hjk; rw [mdel_same] at hj; cases hj
        · rw [mdel_other left hjk] at hj
          obtain ⟨x, hx, h18, h19⟩ := h7.2 j u hj
          refine ⟨x, ?_, h18, h19⟩
          simp only [Array.toList_filter, List.mem_filter, bne_iff_ne, ne_eq]
          refine ⟨hx, fun hb => hjk ?_⟩
          have := same_born h2 (leftOf_sub hx) hea hb
          subst this
          exact inj _ _ (h18.symm.trans h12)
    · cases hkv
      exact ⟨e, seen, hea, rfl, h12, h13⟩
end
end Go.Sp
