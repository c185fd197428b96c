
/-
  A table: a group's end. Conditions: those that each theorem names.
-/
import Derived.Test.YtebggkgciocciaaGreatTabR
namespace Go.Proofs.YtebggkgciocciaaGreat
open Go.RowKit Go.Sp
variable {W w w' : World} {F A : HProp}

/-- the keys of a group's registers are registers -/
def GrpS.keysOK (g : GrpS) : Prop := ∀ k r, g.regs k = some r → ∃ c i : Nat, k = ((c : Int), (i : Int)) ∧ c ≤ 5 ∧ i < 256
def keyJ (j : Nat) : Int × Int := (((j / 256 : Nat) : Int), ((j % 256 : Nat) : Int))
/-- what a group's end makes of the names, and of the registers -/
def endN (g : ByteArray → Option Mean) (T : ByteArray → Option Mean) : ByteArray → Option Mean := fun k => match g k with | some m => if meanB m mean0 = true then none else some m | none => T k
def endR {α : Type} (g : Int × Int → Option α) (R : Nat → α) : Nat → α := fun j => match g (keyJ j) with | some r => r | none => R j
def TabS.ended (S : TabS) (S0 : List GrpS) (g : GrpS) : TabS := ⟨endN g.names S.names, endR g.regs S.regs, S0, g.after⟩

theorem endN_none (T : ByteArray → Option Mean) : endN (fun _ => none) T = T := rfl

/-- the names while the end goes on: 'left' are still to come -/
def midN (left g T : ByteArray → Option Mean) : ByteArray → Option Mean := fun k => match left k with | some _ => T k | none => endN g T k
theorem midN_start (g T : ByteArray → Option Mean) : midN g g T = T := by
  funext k
  unfold midN endN
  cases h : g k <;> rfl
theorem midN_end {left g T : ByteArray → Option Mean} (h : ∀ k, left k = none) : midN left g T = endN g T := by
  funext k
  unfold midN
  rw [h k]
theorem midN_step {left g T : ByteArray → Option Mean} {k : ByteArray} {m : Mean} (hg : g k = some m) : nameM (midN left g T) k m = midN (mdel left k) g T := by
  funext j
  by_cases hj : j = k
  · subst hj
    have e2 : midN (mdel left j) g T j = endN g T j := by unfold midN; rw [mdel_same]
    rw [e2]
    unfold endN nameM
    rw [hg]
    by_cases hz : meanB m mean0 = true
    · simp only [if_pos hz]; rw [mdel_same]
    · simp only [if_neg hz]; rw [mput_same]
  · have e : nameM (midN left g T) k m j = midN left g T j := by
      unfold nameM
      split
      · rw [mdel_other _ hj]
      · rw [mput_other _ _ hj]
    rw [e]
    unfold midN
    rw [mdel_other left hj]

def midR {α : Type} (left g : Int × Int → Option α) (R : Nat → α) : Nat → α := fun j => match left (keyJ j) with | some _ => R j | none => endR g R j
theorem midR_start {α : Type} (g : Int × Int → Option α) (R : Nat → α) : midR g g R = R := by
  funext j
  unfold midR endR
  cases h : g (keyJ j) <;> rfl
theorem midR_end {α : Type} {left g : Int × Int → Option α} {R : Nat → α} (h : ∀ k, left k = none) : midR left g R = endR g R := by
  funext j
  unfold midR
  rw [h (keyJ j)]
theorem keyJ_eq {c i j : Nat} (hi : i < 256) : keyJ j = ((c : Int), (i : Int)) ↔ j = c * 256 + i := by
  unfold keyJ
  constructor
  · intro h
    have h1 := congrArg Prod.fst h
    have h2 := congrArg Prod.snd h
    simp only at h1 h2
    omega
  · rintro rfl
    have h1 : (c * 256 + i) / 256 = c := by omega
    have h2 : (c * 256 + i) % 256 = i := by omega
    rw [h1, h2]
theorem midR_step {left g : Int × Int → Option RegV} {R : Nat → RegV} {c i : Nat} {v : RegV} (hi : i < 256) (hg : g ((c : Int), (i : Int)) = some v) :
    setR (midR left g R) (c * 256 + i) v = midR (mdel left ((c : Int), (i : Int))) g R := by
  funext j
  unfold setR
  by_cases hj : j = c * 256 + i
  · rw [if_pos hj]
    have hk := (keyJ_eq hi).2 hj
    unfold midR endR
    rw [hk, mdel_same, hg]
  · rw [if_neg hj]
    have hk : keyJ j ≠ ((c : Int), (i : Int)) := fun h => hj ((keyJ_eq hi).1 h)
    unfold midR
    rw [mdel_other left hk]

/-- a register's seven cells, set -/
theorem sat_setR {b nm : Nat} {R : Nat → RegV} {gs lt : Value} {c i : Nat} {v : RegV} (hc : c ≤ 5) (hi : i < 256) (h : Sat W (pts b (.cells (tabCells nm R gs lt) 34) * A) w) :
    Sat W (pts b (.cells (tabCells nm (setR R (c * 256 + i) v) gs lt) 34) * A) (((((((w.setCell ⟨b, 1 + c * 1792 + i * 7, none⟩ (.int .i64 v.n)).setCell ⟨b, 1 + c * 1792 + i * 7 + 1, none⟩ (.int .i64 v.g.nat)).setCell ⟨b, 1 + c * 1792 + i * 7 + 2, none⟩ (.int .i64 v.g.stretch)).setCell ⟨b, 1 + c * 1792 + i * 7 + 3, none⟩ (.int .i64 v.g.shrink)).setCell ⟨b, 1 + c * 1792 + i * 7 + 4, none⟩ (.int .i64 v.g.so)).setCell ⟨b, 1 + c * 1792 + i * 7 + 5, none⟩ (.int .i64 v.g.ko)).setCell ⟨b, 1 + c * 1792 + i * 7 + 6, none⟩ v.s) := by
  have hj : c * 256 + i < 1536 := by omega
  have e : 1 + c * 1792 + i * 7 = 1 + (c * 256 + i) * 7 := by omega
  have h2 := ((((((h.set (i := 1 + c * 1792 + i * 7) (v := .int .i64 v.n)).set (i := 1 + c * 1792 + i * 7 + 1) (v := .int .i64 v.g.nat)).set (i := 1 + c * 1792 + i * 7 + 2) (v := .int .i64 v.g.stretch)).set (i := 1 + c * 1792 + i * 7 + 3) (v := .int .i64 v.g.shrink)).set (i := 1 + c * 1792 + i * 7 + 4) (v := .int .i64 v.g.so)).set (i := 1 + c * 1792 + i * 7 + 5) (v := .int .i64 v.g.ko)).set (i := 1 + c * 1792 + i * 7 + 6) (v := v.s)
  have h3 := tab_set_reg nm R gs lt (c * 256 + i) hj v
  simp only [RegV.at] at h3
  rw [← e] at h3
  rw [h3] at h2
  exact h2

/-- what the table is behind a group's end -/
theorem end_end {b N nm : Nat} {S : TabS} {S0 : List GrpS} {g : GrpS} {m : Nat → Option Obj} {gs lt lt' : Value} {R : Nat → RegV} {V0 : List GrpV} {v : GrpV} {f : Int × Int → Option RegV} {n : Nat}
    (hO : OpenF S S0 g m lt R V0 v f) (hn : S0.length = n)
    (h : Sat W (pts b (.cells (tabCells nm (endR f R) gs lt') 34) * (rowT lt' g.after * (roH m * (mapH Value.string Mean.val nm N (endN g.names S.names) * (row gs n 83 4 (flatG V0) * (grpsH m V0 S0 * F)))))) w) : TabAt W F b N (S.ended S0 g) w := by
  obtain ⟨m', h5, hm, hr⟩ := (h.of_eq (show _ = rowT lt' g.after * (roH m * (pts b (.cells (tabCells nm (endR f R) gs lt') 34) * (mapH Value.string Mean.val nm N (endN g.names S.names) * (row gs n 83 4 (flatG V0) * (grpsH m V0 S0 * F))))) by ac_rfl)).row_stays
  refine ⟨m', nm, gs, lt', endR f R, V0, ⟨fun j hj => ?_, hr, hO.after, hO.len, by have := hO.le; simp only [TabS.ended]; omega⟩, ?_⟩
  · have h1 := hO.rep (keyJ j)
    have h2 := hO.regs j hj
    simp only [TabS.ended, endR]
    cases hf : f (keyJ j) with
    | none =>
      rw [hf] at h1
      cases hg : g.regs (keyJ j) with
      | none => exact ⟨h2.1.mono hm, h2.2⟩
      | some s => rw [hg] at h1; exact h1.elim
    | some u =>
      rw [hf] at h1
      cases hg : g.regs (keyJ j) with
      | none => rw [hg] at h1; exact h1.elim
      | some s => rw [hg] at h1; exact ⟨h1.1.mono hm, h1.2⟩
  · have h6 : Sat W (grpsH m V0 S0 * (roH m' * (pts b (.cells (tabCells nm (endR f R) gs lt') 34) * (mapH Value.string Mean.val nm N (endN g.names S.names) * (row gs V0.length 83 4 (flatG V0) * F))))) w := h5.of_eq (by rw [hO.len, hn]; ac_rfl)
    exact (h6.imp_l (grpsH_mono hm V0 S0)).of_eq (by simp only [TabS.ended]; ac_rfl)

set_option maxRecDepth 100000 in
theorem end_none {b N : Nat} {S : TabS} (hS : S.groups = []) (h : TabAt W F b N S w) : Calls Tryz.prog 11 #[.pointer (some ⟨b, 0, none⟩)] w fun e w' => e = .returned (.tuple #[.int .i64 0, .int .i64 150]) ∧ w = w' := by
  have HG := Lib.hid (good_any h)
  obtain ⟨m, nm, gs, lt, R, V, ⟨h1, h2, h2b, h3, h4⟩, hs⟩ := h
  obtain ⟨a, cap, rfl⟩ := Sat.row_value hs.r.r.r
  rw [h3] at hs
  have c0 := hs.cell (i := 10753) (tab_groups nm R _ lt)
  rw [hS] at c0
  clear hs h1 h2 h3 hS
  go_enter Tryz.func11, Tryz.ntmps11
  go_wp2_with fail
  refine Calls.mono HG.out ?_
  rintro e w' ⟨rfl, rfl⟩
  go_wp2
  (try simp only [Exit.inBlock, Exit.then])
  refine bodyPost_ret (v := .tuple #[.int .i64 0, .int .i64 150]) (by unfold results; go_simp) rfl ?_
  exact ⟨rfl, rfl⟩

set_option maxRecDepth 100000 in
set_option maxHeartbeats 8000000 in
theorem end_some {b N : Nat} {S : TabS} (S0 : List GrpS) (g : GrpS) (hS : S.groups = S0 ++ [g]) (hk : g.keysOK) (h : TabAt W F b N S w) :
    Calls Tryz.prog 11 #[.pointer (some ⟨b, 0, none⟩)] w fun e w' => e = .returned (.tuple #[.int .i64 g.kind, .int .i64 0]) ∧ ∃ N', TabAt W F b N' (S.ended S0 g) w' := by
  have HG := Lib.hid (good_any h)
  have hK : KeyT Tryz.prog 9 Value.string := keyT_string Tryz.underlying9
  obtain ⟨m, nm, lt, R, V0, gv, f, gb, cap, nn, rn, hO, hs⟩ := h.open1 hS
  obtain ⟨n, hn⟩ : ∃ n, S0.length = n := ⟨_, rfl⟩
  rw [hn] at hs
  obtain ⟨vk, vnb, vrb, vav⟩ := gv
  obtain ⟨aa, ac, hva⟩ := Sat.rowT_value (hs.r.r.r.r)
  simp only at hva
  subst hva
  obtain ⟨al, hal⟩ : ∃ al, g.after.length = al := ⟨_, rfl⟩
  rw [hal] at hs hO
  obtain ⟨VV, hVV⟩ : ∃ VV : List GrpV, V0 ++ [⟨vk, vnb, vrb, .slice aa al ac⟩] = VV := ⟨_, rfl⟩
  have hgt : ∀ j x, (GrpV.cells ⟨vk, vnb, vrb, .slice aa al ac⟩)[j]? = some x → (flatG VV)[n * 4 + j]? = some x := fun j x hx => by
    rw [← hVV]
    exact flatG_get _ n j x (by simp [hO.len, hn]) (by rw [List.getElem_append_right (by rw [hO.len]; omega)]; simpa [hO.len, hn] using hx)
  have g0 := hgt 0 _ rfl
  have g1 := hgt 1 _ rfl
  have g2 := hgt 2 _ rfl
  have g3 := hgt 3 _ rfl
  simp only [Nat.add_zero] at g0
  have hfl : (flatG VV).take (n * 4) = flatG V0 := by
    have e1 := flatG_len V0
    rw [hO.len, hn] at e1
    rw [← hVV, flatG_app, List.take_append_of_le_length (by omega)]
    exact List.take_of_length_le (by omega)
  unfold openH at hs
  rw [hVV] at hs
  have HGC := Lib.hid (show ∀ (X : HProp) w', Sat W (row (.slice (some ⟨gb, 0, none⟩) (n + 1) cap) (n + 1) 83 4 (flatG VV) * (pts b (.cells (tabCells nm R (.slice (some ⟨gb, 0, none⟩) (n + 1) cap) lt) 34) * X)) w' → w'.cell? ⟨b, 10753, none⟩ = some (.slice (some ⟨gb, 0, none⟩) (n + 1) cap) ∧
      w'.cell? ⟨gb, n * 4, none⟩ = some (.int .i64 vk) ∧ w'.cell? ⟨gb, n * 4 + 1, none⟩ = some (.map (some vnb)) ∧ w'.cell? ⟨gb, n * 4 + 2, none⟩ = some (.map (some vrb)) ∧ w'.cell? ⟨gb, n * 4 + 3, none⟩ = some (.slice aa al ac) from fun X w' h =>
    ⟨h.r.cell (tab_groups nm R _ lt), h.row_cell g0, h.row_cell g1, h.row_cell g2, h.row_cell g3⟩)
  have hcap : n + 1 ≤ cap := by
    obtain ⟨_, hcs⟩ := hs.row_cases
    rcases hcs with ⟨_, h0, _⟩ | ⟨gb', cap', _, hgs, h2, _⟩
    · omega
    · simp only [Value.slice.injEq] at hgs
      omega
  have hn2 : n + 1 ≤ 200 := by rw [← hn]; exact hO.le
  have H1 := Lib.hid (hs.of_eq (show _ = row (.slice (some ⟨gb, 0, none⟩) (n + 1) cap) (n + 1) 83 4 (flatG VV) * (pts b (.cells (tabCells nm R (.slice (some ⟨gb, 0, none⟩) (n + 1) cap) lt) 34) * (mapH Value.string Mean.val vnb nn g.names * (mapH kE2 RegV.val vrb rn f * (rowT (.slice aa al ac) g.after * (roH m * (mapH Value.string Mean.val nm N S.names * (grpsH m V0 S0 * F))))))) by ac_rfl))
  obtain ⟨C, hC⟩ : ∃ C : World → Prop, C = fun w' => ∃ X, Sat W (row (.slice (some ⟨gb, 0, none⟩) (n + 1) cap) (n + 1) 83 4 (flatG VV) * (pts b (.cells (tabCells nm R (.slice (some ⟨gb, 0, none⟩) (n + 1) cap) lt) 34) * X)) w' := ⟨_, rfl⟩
  have HC := Lib.hid (show ∀ w', C w' → _ from fun w' h => by rw [hC] at h; obtain ⟨X, h⟩ := h; exact HGC.out X w' h)
  have HC2 := Lib.hid (show ∀ X w', Sat W (row (.slice (some ⟨gb, 0, none⟩) (n + 1) cap) (n + 1) 83 4 (flatG VV) * (pts b (.cells (tabCells nm R (.slice (some ⟨gb, 0, none⟩) (n + 1) cap) lt) 34) * X)) w' → C w' from fun X w' h => by rw [hC]; exact ⟨X, h⟩)
  obtain ⟨c0, d0, d1, d2, d3⟩ := HGC.out _ _ H1.out
  have HO := Lib.hid hO
  have HN := Lib.hid hn
  have HAL := Lib.hid hal
  have HKEY := Lib.hid hk
  have HFL := Lib.hid hfl
  have lb := H1.out.r.lt
  have wn : IntKind.i64.wrap (n : Int) = (n : Int) := IntWalk.i64_in _ (by omega)
  have wn0 : (0 : Int) ≤ (n : Int) := by omega
  have wn1 : (n : Int) < (n : Int) + 1 := by omega
  have q2 : ((n : Int) + 1 == 0) = false := by rw [beq_eq_false_iff_ne]; omega
  clear hs hO hC h hS hk g0 g1 g2 g3 hgt hfl hVV hal hn
  go_enter Tryz.func11, Tryz.ntmps11
  go_wp2_with fail
  refine Calls.mono HG.out ?_
  rintro e w' ⟨rfl, rfl⟩
  go_upto_region 5 with fail
  refine wp_region_E C (by kernel_rfl) ?_
  refine wpE_take (i := 0) (q := 13) (v := ?_) rfl (by kernel_rfl) (by kernel_rfl) (by kernel_rfl) (by kernel_rfl) (by kernel_rfl) (fun _ _ _ h => h) (by rfl) ?_ ?_
  rotate_left 1
  · intro w hw; go_simp; try with_reducible rfl
  refine wpE_take (i := 1) (q := 13) (v := ?_) rfl (by kernel_rfl) (by kernel_rfl) (by kernel_rfl) (by kernel_rfl) (by kernel_rfl) (fun _ _ _ h => h) (by rfl) ?_ ?_
  rotate_left 1
  · intro w hw; go_simp; try with_reducible rfl
  refine wpE_take (i := 2) (q := 13) (v := ?_) rfl (by kernel_rfl) (by kernel_rfl) (by kernel_rfl) (by kernel_rfl) (by kernel_rfl) (fun _ _ _ h => h) (by rfl) ?_ ?_
  rotate_left 1
  · intro w hw; go_simp; try with_reducible rfl
  refine wpE_take (i := 3) (q := 13) (v := ?_) rfl (by kernel_rfl) (by kernel_rfl) (by kernel_rfl) (by kernel_rfl) (by kernel_rfl) (fun _ _ _ h => h) (by rfl) ?_ ?_
  rotate_left 1
  · intro w hw; (obtain ⟨c0, d0, d1, d2, d3⟩ := HC.out _ hw; go_simp; try with_reducible rfl)
  refine wpE_take (i := 4) (q := 13) (v := ?_) rfl (by kernel_rfl) (by kernel_rfl) (by kernel_rfl) (by kernel_rfl) (by kernel_rfl) (fun _ _ _ h => h) (by rfl) ?_ ?_
  rotate_left 1
  · intro w hw; go_simp; try with_reducible rfl
  refine wpE_take (i := 5) (q := 13) (v := ?_) rfl (by kernel_rfl) (by kernel_rfl) (by kernel_rfl) (by kernel_rfl) (by kernel_rfl) (fun _ _ _ h => h) (by rfl) ?_ ?_
  rotate_left 1
  · intro w hw; go_simp; try with_reducible rfl
  refine wpE_take (i := 6) (q := 13) (v := ?_) rfl (by kernel_rfl) (by kernel_rfl) (by kernel_rfl) (by kernel_rfl) (by kernel_rfl) (fun _ _ _ h => h) (by rfl) ?_ ?_
  rotate_left 1
  · intro w hw; go_simp; try with_reducible rfl
  refine wpE_take (i := 7) (q := 13) (v := ?_) rfl (by kernel_rfl) (by kernel_rfl) (by kernel_rfl) (by kernel_rfl) (by kernel_rfl) (fun _ _ _ h => h) (by rfl) ?_ ?_
  rotate_left 1
  · intro w hw; (obtain ⟨c0, d0, d1, d2, d3⟩ := HC.out _ hw; go_simp; try with_reducible rfl)
  refine wpE_take (i := 8) (q := 13) (v := ?_) rfl (by kernel_rfl) (by kernel_rfl) (by kernel_rfl) (by kernel_rfl) (by kernel_rfl) (fun _ _ _ h => h) (by rfl) ?_ ?_
  rotate_left 1
  · intro w hw; go_simp; try with_reducible rfl
  refine wpE_take (i := 9) (q := 13) (v := ?_) rfl (by kernel_rfl) (by kernel_rfl) (by kernel_rfl) (by kernel_rfl) (by kernel_rfl) (fun _ _ _ h => h) (by rfl) ?_ ?_
  rotate_left 1
  · intro w hw; go_simp; try with_reducible rfl
  refine wpE_take (i := 10) (q := 13) (v := ?_) rfl (by kernel_rfl) (by kernel_rfl) (by kernel_rfl) (by kernel_rfl) (by kernel_rfl) (fun _ _ _ h => h) (by rfl) ?_ ?_
  rotate_left 1
  · intro w hw; go_simp; try with_reducible rfl
  refine wpE_take (i := 11) (q := 13) (v := ?_) rfl (by kernel_rfl) (by kernel_rfl) (by kernel_rfl) (by kernel_rfl) (by kernel_rfl) (fun _ _ _ h => h) (by rfl) ?_ ?_
  rotate_left 1
  · intro w hw; (obtain ⟨c0, d0, d1, d2, d3⟩ := HC.out _ hw; go_simp; try with_reducible rfl)
  refine wpE_one (i := 12) rfl (by kernel_rfl) (HC2.out _ _ H1.out.drew) (fun K hK => ?_)
  go_simp
  refine hK _ _ ?_
  clear hK K
  have h2 := H1.out.drew.alloc (.cells #[.int .i64 0, .map none, .map none, .slice none 0 0] 83)
  have H2 := Lib.hid h2
  obtain ⟨bz, hbz⟩ : ∃ bz, w.heap.size = bz := ⟨_, rfl⟩
  rw [show w.drew.heap.size = w.heap.size from rfl, hbz] at h2
  have lz := h2.lt
  have z0 := h2.free (i := 0)
  have z1 := h2.free (i := 1)
  have z2 := h2.free (i := 2)
  have z3 := h2.free (i := 3)
  rw [hbz]
  refine wpE_one (i := 13) rfl (by kernel_rfl) (HC2.out _ _ H2.out.r) (fun K hK => ?_)
  go_simp
  have h3 := (H1.out.alloc (.cells #[.int .i64 vk, .map (some vnb), .map (some vrb), .slice aa al ac] 83)).drew
  have H3 := Lib.hid h3
  rw [hbz] at H3
  clear z0 z1 z2 z3 lz h2 H2 h3
  refine hK _ _ ?_
  clear hK K
  refine wpE_done (by kernel_rfl) (by kernel_rfl) ?_
  generalize (w.alloc (.cells #[.int .i64 vk, .map (some vnb), .map (some vrb), .slice aa al ac] 83)).drew = W2 at *
  clear c0 d0 d1 d2 d3 lb hbz H1
  obtain ⟨c0, d0, d1, d2, d3⟩ := HGC.out _ _ H3.out.r
  have q3 : (cap : Int) = 0 ↔ False := by constructor; omega; exact fun h => h.elim
  have q4 : (n : Int) ≤ cap := by omega
  go_upto_region 6 with fail
  refine wp_region_E C (by kernel_rfl) ?_
  refine wpE_take (i := 0) (q := 14) (v := ?_) rfl (by kernel_rfl) (by kernel_rfl) (by kernel_rfl) (by kernel_rfl) (by kernel_rfl) (fun _ _ _ h => h) (by rfl) ?_ ?_
  rotate_left 1
  · intro w hw; go_simp; try with_reducible rfl
  refine wpE_take (i := 1) (q := 14) (v := ?_) rfl (by kernel_rfl) (by kernel_rfl) (by kernel_rfl) (by kernel_rfl) (by kernel_rfl) (fun _ _ _ h => h) (by rfl) ?_ ?_
  rotate_left 1
  · intro w hw; go_simp; try with_reducible rfl
  refine wpE_take (i := 2) (q := 14) (v := ?_) rfl (by kernel_rfl) (by kernel_rfl) (by kernel_rfl) (by kernel_rfl) (by kernel_rfl) (fun _ _ _ h => h) (by rfl) ?_ ?_
  rotate_left 1
  · intro w hw; go_simp; try with_reducible rfl
  refine wpE_take (i := 3) (q := 14) (v := ?_) rfl (by kernel_rfl) (by kernel_rfl) (by kernel_rfl) (by kernel_rfl) (by kernel_rfl) (fun _ _ _ h => h) (by rfl) ?_ ?_
  rotate_left 1
  · intro w hw; go_simp; try with_reducible rfl
  refine wpE_take (i := 4) (q := 14) (v := ?_) rfl (by kernel_rfl) (by kernel_rfl) (by kernel_rfl) (by kernel_rfl) (by kernel_rfl) (fun _ _ _ h => h) (by rfl) ?_ ?_
  rotate_left 1
  · intro w hw; (obtain ⟨c0, d0, d1, d2, d3⟩ := HC.out _ hw; go_simp; try with_reducible rfl)
  refine wpE_take (i := 5) (q := 14) (v := ?_) rfl (by kernel_rfl) (by kernel_rfl) (by kernel_rfl) (by kernel_rfl) (by kernel_rfl) (fun _ _ _ h => h) (by rfl) ?_ ?_
  rotate_left 1
  · intro w hw; go_simp; try with_reducible rfl
  refine wpE_take (i := 6) (q := 14) (v := ?_) rfl (by kernel_rfl) (by kernel_rfl) (by kernel_rfl) (by kernel_rfl) (by kernel_rfl) (fun _ _ _ h => h) (by rfl) ?_ ?_
  rotate_left 1
  · intro w hw; go_simp; try with_reducible rfl
  refine wpE_take (i := 7) (q := 14) (v := ?_) rfl (by kernel_rfl) (by kernel_rfl) (by kernel_rfl) (by kernel_rfl) (by kernel_rfl) (fun _ _ _ h => h) (by rfl) ?_ ?_
  rotate_left 1
  · intro w hw; go_simp; try with_reducible rfl
  refine wpE_take (i := 8) (q := 14) (v := ?_) rfl (by kernel_rfl) (by kernel_rfl) (by kernel_rfl) (by kernel_rfl) (by kernel_rfl) (fun _ _ _ h => h) (by rfl) ?_ ?_
  rotate_left 1
  · intro w hw; (obtain ⟨c0, d0, d1, d2, d3⟩ := HC.out _ hw; go_simp; try with_reducible rfl)
  refine wpE_take (i := 9) (q := 14) (v := ?_) rfl (by kernel_rfl) (by kernel_rfl) (by kernel_rfl) (by kernel_rfl) (by kernel_rfl) (fun _ _ _ h => h) (by rfl) ?_ ?_
  rotate_left 1
  · intro w hw; go_simp; try with_reducible rfl
  refine wpE_take (i := 10) (q := 14) (v := ?_) rfl (by kernel_rfl) (by kernel_rfl) (by kernel_rfl) (by kernel_rfl) (by kernel_rfl) (fun _ _ _ h => h) (by rfl) ?_ ?_
  rotate_left 1
  · intro w hw; go_simp; try with_reducible rfl
  refine wpE_take (i := 11) (q := 14) (v := ?_) rfl (by kernel_rfl) (by kernel_rfl) (by kernel_rfl) (by kernel_rfl) (by kernel_rfl) (fun _ _ _ h => h) (by rfl) ?_ ?_
  rotate_left 1
  · intro w hw; go_simp; try with_reducible rfl
  refine wpE_take (i := 12) (q := 13) (v := ?_) rfl (by kernel_rfl) (by kernel_rfl) (by kernel_rfl) (by kernel_rfl) (by kernel_rfl) (fun _ _ _ h => h) (by rfl) ?_ ?_
  rotate_left 1
  · intro w hw; go_simp; try with_reducible rfl
  refine wpE_take (i := 13) (q := 14) (v := ?_) rfl (by kernel_rfl) (by kernel_rfl) (by kernel_rfl) (by kernel_rfl) (by kernel_rfl) (fun _ _ _ h => h) (by rfl) ?_ ?_
  rotate_left 1
  · intro w hw; go_simp; try with_reducible rfl
  have f6 := H3.out.r.r.drew.free (i := 10753)
  have l6 := H3.out.r.r.drew.lt
  refine wpE_one (i := 14) rfl (by kernel_rfl) (HC2.out _ _ H3.out.r.drew) (fun K hK => ?_)
  go_simp
  refine hK _ _ ?_
  clear hK K
  refine wpE_done (by kernel_rfl) (by kernel_rfl) ?_
  have h6 := ((H3.out.of_eq (show _ = pts b (.cells (tabCells nm R (.slice (some ⟨gb, 0, none⟩) (n + 1) cap) lt) 34) * (row (.slice (some ⟨gb, 0, none⟩) (n + 1) cap) (n + 1) 83 4 (flatG VV) * (pts bz (.cells #[.int .i64 vk, .map (some vnb), .map (some vrb), .slice aa al ac] 83) * (mapH Value.string Mean.val vnb nn g.names * (mapH kE2 RegV.val vrb rn f * (rowT (.slice aa al ac) g.after * (roH m * (mapH Value.string Mean.val nm N S.names * (grpsH m V0 S0 * F)))))))) by ac_rfl)).set (i := 10753) (v := .slice (some ⟨gb, 0, none⟩) n cap)).drew
  rw [tab_set_groups] at h6
  have h7 := h6.rot.row_take (m := n) (by omega)
  rw [HFL.out] at h7
  have H7 := Lib.hid h7
  have e1 := h7.r.r.cell (i := 1) rfl
  have ez := h7.r.r.lt
  generalize (W2.setCell ⟨b, 10753, none⟩ (.slice (some ⟨gb, 0, none⟩) n cap)).drew = W3 at *
  clear h6 h7 HC2 HC HGC c0 d0 d1 d2 d3 f6 l6 H3
  obtain ⟨o, cc, hrange, hit⟩ := Sat.map_range Tryz.underlying24 (H7.out.of_eq (show _ = mapH Value.string Mean.val vnb nn g.names * (pts b (.cells (tabCells nm R (.slice (some ⟨gb, 0, none⟩) n cap) lt) 34) * (mapH Value.string Mean.val nm N S.names * (pts bz (.cells #[.int .i64 vk, .map (some vnb), .map (some vrb), .slice aa al ac] 83) * (row (.slice (some ⟨gb, 0, none⟩) n cap) n 83 4 (flatG V0) * (mapH kE2 RegV.val vrb rn f * (rowT (.slice aa al ac) g.after * (roH m * (grpsH m V0 S0 * F)))))))) by ac_rfl))
  obtain ⟨br, hbr⟩ : ∃ br, W3.heap.size = br := ⟨_, rfl⟩
  rw [hbr] at hrange hit
  have HIT := Lib.hid hit
  clear hit H7
  obtain ⟨R1, hR1⟩ : ∃ R1 : HProp, R1 = pts bz (.cells #[.int .i64 vk, .map (some vnb), .map (some vrb), .slice aa al ac] 83) * (row (.slice (some ⟨gb, 0, none⟩) n cap) n 83 4 (flatG V0) * (mapH kE2 RegV.val vrb rn f * (rowT (.slice aa al ac) g.after * (roH m * (grpsH m V0 S0 * F))))) := ⟨_, rfl⟩
  rw [← hR1] at HIT
  have HR1 := Lib.hid hR1
  clear hR1
  go_upto_region 8 with fail
  generalize W3.alloc o = W4 at *
  clear hbr hrange e1 ez q2 q3 q4 wn wn0 wn1
  go_loopg [49] cc (fun gg _ wx => ∃ (left : ByteArray → Option Mean) (cur : Option (ByteArray × Mean)) (N' : Nat) (X : HProp), Sat W (iterH Value.string Mean.val vnb br nn g.names left gg cur * (X * (pts b (.cells (tabCells nm R (.slice (some ⟨gb, 0, none⟩) n cap) lt) 34) * (mapH Value.string Mean.val nm N' (midN left g.names S.names) * R1)))) wx)
  case atStart => exact ⟨g.names, none, N, emp, by rw [midN_start, emp_star]; exact HIT.out⟩
  case round =>
    obtain ⟨left, cur, N', X, hx⟩ := hrel
    rcases Sat.iter_next (P := Tryz.prog) hK.inj Mean.val_inj 0 hx with ⟨hno, hnx⟩ | ⟨k0, m0, w5, c', hc', hl, hf0, hnx, hen, hs5⟩
    · have hx1 := hx.iter_map
      rw [midN_end hno, HR1.out] at hx1
      have hx2 := hx1.of_eq (show _ = mapH kE2 RegV.val vrb rn f * (pts b (.cells (tabCells nm R (.slice (some ⟨gb, 0, none⟩) n cap) lt) 34) * (pts bz (.cells #[.int .i64 vk, .map (some vnb), .map (some vrb), .slice aa al ac] 83) * (rowT (.slice aa al ac) g.after * (roH m * (mapH Value.string Mean.val nm N' (endN g.names S.names) * (row (.slice (some ⟨gb, 0, none⟩) n cap) n 83 4 (flatG V0) * (grpsH m V0 S0 * ((mapH Value.string Mean.val vnb nn g.names * X) * F)))))))) by ac_rfl)
      obtain ⟨o2, c2, hrange, hit⟩ := Sat.map_range Tryz.underlying81 hx2
      obtain ⟨br2, hbr⟩ : ∃ br2, wr.heap.size = br2 := ⟨_, rfl⟩
      rw [hbr] at hrange hit
      have e2 := hx2.r.r.cell (i := 2) rfl
      have lz := hx2.r.r.lt
      obtain ⟨R2, hR2⟩ : ∃ R2 : HProp, R2 = pts bz (.cells #[.int .i64 vk, .map (some vnb), .map (some vrb), .slice aa al ac] 83) * (rowT (.slice aa al ac) g.after * (roH m * (mapH Value.string Mean.val nm N' (endN g.names S.names) * (row (.slice (some ⟨gb, 0, none⟩) n cap) n 83 4 (flatG V0) * (grpsH m V0 S0 * ((mapH Value.string Mean.val vnb nn g.names * X) * F)))))) := ⟨_, rfl⟩
      rw [← hR2] at hit
      have HIT2 := Lib.hid hit
      have HR2 := Lib.hid hR2
      clear hit hR2 hx2 hx1 hx HIT hno
      go_upto_region 12 with fail
      generalize wr.alloc o2 = W5 at *
      clear hbr hrange e2 lz hnx
      go_loopg [61] c2 (fun gg _ wx => ∃ (left : Int × Int → Option RegV) (cur : Option ((Int × Int) × RegV)) (X : HProp), Sat W (iterH kE2 RegV.val vrb br2 rn f left gg cur * (X * (pts b (.cells (tabCells nm (midR left f R) (.slice (some ⟨gb, 0, none⟩) n cap) lt) 34) * R2))) wx)
      case atStart => exact ⟨f, none, emp, by rw [midR_start, emp_star]; exact HIT2.out⟩
      case round =>
        obtain ⟨left, cur, X2, hx⟩ := hrel
        rcases Sat.iter_next (P := Tryz.prog) key2.inj RegV.val_inj 0 hx with ⟨hno, hnx⟩ | ⟨⟨k1, k2⟩, v0, w5, c', hc', hl, hf0, hnx, hen, hs5⟩
        · have hx1 := hx.iter_map
          rw [midR_end hno, HR2.out] at hx1
          have hx2 := hx1.of_eq (show _ = pts b (.cells (tabCells nm (endR f R) (.slice (some ⟨gb, 0, none⟩) n cap) lt) 34) * (pts bz (.cells #[.int .i64 vk, .map (some vnb), .map (some vrb), .slice aa al ac] 83) * (rowT (.slice aa al ac) g.after * (roH m * (mapH Value.string Mean.val nm N' (endN g.names S.names) * (row (.slice (some ⟨gb, 0, none⟩) n cap) n 83 4 (flatG V0) * (grpsH m V0 S0 * ((mapH kE2 RegV.val vrb rn f * (mapH Value.string Mean.val vnb nn g.names * (X * X2))) * F))))))) by ac_rfl)
          have e3 := hx2.r.cell (i := 3) rfl
          have e0 := hx2.r.cell (i := 0) rfl
          have lz := hx2.r.lt
          have fb := hx2.free (i := 10754)
          have cb := hx2.cell (i := 10754) (tab_later nm _ _ lt)
          have lb := hx2.lt
          have hbz := hx2.ne
          have hx3 := hx2.set (i := 10754) (v := .slice aa al ac)
          rw [tab_set_later] at hx3
          have HX3 := Lib.hid hx3
          have y0 := hx3.r.cell (i := 0) rfl
          clear hx3 hx2 hx1 hx HIT2 hno
          go_wp2
          (try simp only [Exit.inBlock, Exit.then])
          have hkind := HO.out.kind
          simp only at hkind
          subst hkind
          refine bodyPost_ret (v := .tuple #[.int .i64 g.kind, .int .i64 0]) (by unfold results; go_simp) rfl ?_
          refine ⟨rfl, N', ?_⟩
          have h9 := end_end (b := b) (nm := nm) (N := N') (gs := .slice (some ⟨gb, 0, none⟩) n cap) (lt' := .slice aa al ac) (F := (pts bz (.cells #[.int .i64 g.kind, .map (some vnb), .map (some vrb), .slice aa al ac] 83) * (mapH kE2 RegV.val vrb rn f * (mapH Value.string Mean.val vnb nn g.names * (X * X2)))) * F) HO.out HN.out (HX3.out.of_eq (by ac_rfl))
          exact h9.less
        · obtain ⟨ts, hgs, ⟨-, -, hrm⟩, -⟩ : ∃ ts, g.regs (k1, k2) = some ts ∧ Rep m v0 ts ∧ ts.toks.length ≤ 20000 := by
            have := HO.out.rep (k1, k2)
            rw [hf0] at this
            cases hh : g.regs (k1, k2) with
            | none => rw [hh] at this; exact this.elim
            | some s => rw [hh] at this; exact ⟨s, rfl, this⟩
          obtain ⟨c, i, hci, hc, hi⟩ := HKEY.out _ _ hgs
          simp only [Prod.mk.injEq] at hci
          obtain ⟨rfl, rfl⟩ := hci
          have hro := hs5.r.r.r
          rw [HR2.out] at hro
          obtain ⟨rn0, ⟨y1, y2, y3, y4, y5⟩, rs⟩ := v0
          obtain ⟨ra, rc, hrs⟩ := (Sat.ro_rd hro.r.r hrm).val
          simp only at hrs
          subst hrs
          obtain ⟨rl, hrl⟩ : ∃ rl, ts.toks.length = rl := ⟨_, rfl⟩
          rw [hrl] at hf0 hl hnx hen hs5
          have hs6 := (hs5.alloc (.cells #[.int .i64 c, .int .i64 i] 95)).alloc (.cells #[.int .i64 rn0, .int .i64 y1, .int .i64 y2, .int .i64 y3, .int .i64 y4, .int .i64 y5, .slice ra rl rc] 29)
          obtain ⟨bq, hbq⟩ : ∃ bq, w5.heap.size = bq := ⟨_, rfl⟩
          rw [show (w5.alloc (.cells #[.int .i64 c, .int .i64 i] 95)).heap.size = w5.heap.size + 1 by simp, hbq] at hs6
          have HS6 := Lib.hid (hs6.of_eq (show _ = pts b (.cells (tabCells nm (midR left f R) (.slice (some ⟨gb, 0, none⟩) n cap) lt) 34) * (pts bq (.cells #[.int .i64 c, .int .i64 i] 95) * (pts (bq + 1) (.cells #[.int .i64 rn0, .int .i64 y1, .int .i64 y2, .int .i64 y3, .int .i64 y4, .int .i64 y5, .slice ra rl rc] 29) * (iterH kE2 RegV.val vrb br2 rn f (mdel left ((c : Int), (i : Int))) c' (some (((c : Int), (i : Int)), ⟨rn0, ⟨y1, y2, y3, y4, y5⟩, .slice ra rl rc⟩)) * (X2 * R2)))) by ac_rfl))
          simp only [RegV.val, kE2] at hnx hen
          have HF0 := Lib.hid hf0
          clear hs6 hs5 hx hl hf0 HIT2 hro hrm hgs hrl
          go_upto_region 14 with fail
          generalize (w5.alloc (.cells #[.int .i64 c, .int .i64 i] 95)).alloc (.cells #[.int .i64 rn0, .int .i64 y1, .int .i64 y2, .int .i64 y3, .int .i64 y4, .int .i64 y5, .slice ra rl rc] 29) = W6 at *
          clear hnx hen hbq
          obtain ⟨C3, hC3⟩ : ∃ C3 : World → Prop, C3 = fun w' => ∃ X, Sat W (pts bq (.cells #[.int .i64 c, .int .i64 i] 95) * (pts (bq + 1) (.cells #[.int .i64 rn0, .int .i64 y1, .int .i64 y2, .int .i64 y3, .int .i64 y4, .int .i64 y5, .slice ra rl rc] 29) * X)) w' := ⟨_, rfl⟩
          have HC3 := Lib.hid (show ∀ w', C3 w' → w'.cell? ⟨bq, 0, none⟩ = some (.int .i64 c) ∧ w'.cell? ⟨bq, 1, none⟩ = some (.int .i64 i) ∧ w'.cell? ⟨bq + 1, 0, none⟩ = some (.int .i64 rn0) ∧ w'.cell? ⟨bq + 1, 1, none⟩ = some (.int .i64 y1) ∧ w'.cell? ⟨bq + 1, 2, none⟩ = some (.int .i64 y2) ∧ w'.cell? ⟨bq + 1, 3, none⟩ = some (.int .i64 y3) ∧ w'.cell? ⟨bq + 1, 4, none⟩ = some (.int .i64 y4) ∧ w'.cell? ⟨bq + 1, 5, none⟩ = some (.int .i64 y5) ∧ w'.cell? ⟨bq + 1, 6, none⟩ = some (.slice ra rl rc) from fun w' h => by
            rw [hC3] at h
            obtain ⟨X, h⟩ := h
            exact ⟨h.cell rfl, h.cell rfl, h.r.cell rfl, h.r.cell rfl, h.r.cell rfl, h.r.cell rfl, h.r.cell rfl, h.r.cell rfl, h.r.cell rfl⟩)
          have HC4 := Lib.hid (show C3 W6.drew by rw [hC3]; exact ⟨_, HS6.out.drew.r⟩)
          have i1 : (c : Int) < 6 := by omega
          have i2 : (i : Int) < 256 := by omega
          obtain ⟨r0, r1, r2, r3, r4, r5, r6⟩ := reg_at HS6.out hc hi
          have lt4 := HS6.out.lt
          have f0 := HS6.out.free (i := 1 + c * 1792 + i * 7)
          have f1 := HS6.out.free (i := 1 + c * 1792 + i * 7 + 1)
          have f2 := HS6.out.free (i := 1 + c * 1792 + i * 7 + 2)
          have f3 := HS6.out.free (i := 1 + c * 1792 + i * 7 + 3)
          have f4 := HS6.out.free (i := 1 + c * 1792 + i * 7 + 4)
          have f5 := HS6.out.free (i := 1 + c * 1792 + i * 7 + 5)
          have f6 := HS6.out.free (i := 1 + c * 1792 + i * 7 + 6)
          clear hC3
          refine wp_region_E C3 (by kernel_rfl) ?_
          refine wpE_take (i := 0) (q := 10) (v := ?_) rfl (by kernel_rfl) (by kernel_rfl) (by kernel_rfl) (by kernel_rfl) (by kernel_rfl) (fun _ _ _ h => h) (by rfl) ?_ ?_
          rotate_left 1
          · intro w hw; go_simp; try with_reducible rfl
          refine wpE_take (i := 1) (q := 10) (v := ?_) rfl (by kernel_rfl) (by kernel_rfl) (by kernel_rfl) (by kernel_rfl) (by kernel_rfl) (fun _ _ _ h => h) (by rfl) ?_ ?_
          rotate_left 1
          · intro w hw; go_simp; try with_reducible rfl
          refine wpE_take (i := 2) (q := 10) (v := ?_) rfl (by kernel_rfl) (by kernel_rfl) (by kernel_rfl) (by kernel_rfl) (by kernel_rfl) (fun _ _ _ h => h) (by rfl) ?_ ?_
          rotate_left 1
          · intro w hw; (obtain ⟨d0, d1, d2, d3, d4, d5, d6, d7, d8⟩ := HC3.out _ hw; go_simp; try with_reducible rfl)
          refine wpE_take (i := 3) (q := 10) (v := ?_) rfl (by kernel_rfl) (by kernel_rfl) (by kernel_rfl) (by kernel_rfl) (by kernel_rfl) (fun _ _ _ h => h) (by rfl) ?_ ?_
          rotate_left 1
          · intro w hw; go_simp; try with_reducible rfl
          refine wpE_take (i := 4) (q := 10) (v := ?_) rfl (by kernel_rfl) (by kernel_rfl) (by kernel_rfl) (by kernel_rfl) (by kernel_rfl) (fun _ _ _ h => h) (by rfl) ?_ ?_
          rotate_left 1
          · intro w hw; (obtain ⟨d0, d1, d2, d3, d4, d5, d6, d7, d8⟩ := HC3.out _ hw; go_simp; try with_reducible rfl)
          refine wpE_take (i := 5) (q := 10) (v := ?_) rfl (by kernel_rfl) (by kernel_rfl) (by kernel_rfl) (by kernel_rfl) (by kernel_rfl) (fun _ _ _ h => h) (by rfl) ?_ ?_
          rotate_left 1
          · intro w hw; (obtain ⟨d0, d1, d2, d3, d4, d5, d6, d7, d8⟩ := HC3.out _ hw; go_simp; try with_reducible rfl)
          refine wpE_take (i := 6) (q := 7) (v := ?_) rfl (by kernel_rfl) (by kernel_rfl) (by kernel_rfl) (by kernel_rfl) (by kernel_rfl) (fun _ _ _ h => h) (by rfl) ?_ ?_
          rotate_left 1
          · intro w hw; go_simp; try with_reducible rfl
          refine wpE_take (i := 7) (q := 8) (v := ?_) rfl (by kernel_rfl) (by kernel_rfl) (by kernel_rfl) (by kernel_rfl) (by kernel_rfl) (fun _ _ _ h => h) (by rfl) ?_ ?_
          rotate_left 1
          · intro w hw; go_simp; try with_reducible rfl
          refine wpE_take (i := 8) (q := 9) (v := ?_) rfl (by kernel_rfl) (by kernel_rfl) (by kernel_rfl) (by kernel_rfl) (by kernel_rfl) (fun _ _ _ h => h) (by rfl) ?_ ?_
          rotate_left 1
          · intro w hw; go_simp; try with_reducible rfl
          refine wpE_take (i := 9) (q := 10) (v := ?_) rfl (by kernel_rfl) (by kernel_rfl) (by kernel_rfl) (by kernel_rfl) (by kernel_rfl) (fun _ _ _ h => h) (by rfl) ?_ ?_
          rotate_left 1
          · intro w hw; go_simp; try with_reducible rfl
          refine wpE_one (i := 10) rfl (by kernel_rfl) (HC4.out) (fun K hK => ?_)
          go_simp
          have h7 := sat_setR (v := ⟨rn0, ⟨y1, y2, y3, y4, y5⟩, .slice ra rl rc⟩) hc hi HS6.out
          rw [midR_step hi HF0.out] at h7
          have H7 := Lib.hid h7.drew
          refine hK _ _ ?_
          clear hK K h7 r0 r1 r2 r3 r4 r5 r6 f0 f1 f2 f3 f4 f5 f6 lt4
          refine wpE_done (by kernel_rfl) (by kernel_rfl) ?_
          go_wp2
          go_roundg c'
          case measure => exact hc'
          case rel => exact ⟨mdel left ((c : Int), (i : Int)), some (((c : Int), (i : Int)), ⟨rn0, ⟨y1, y2, y3, y4, y5⟩, .slice ra rl rc⟩), pts bq (.cells #[.int .i64 c, .int .i64 i] 95) * (pts (bq + 1) (.cells #[.int .i64 rn0, .int .i64 y1, .int .i64 y2, .int .i64 y3, .int .i64 y4, .int .i64 y5, .slice ra rl rc] 29) * X2), H7.out.of_eq (by ac_rfl)⟩
    · obtain ⟨m1, m2, m3, m4, m5⟩ := m0
      have hs6 := (hs5.alloc (.cells #[.int .i64 m1, .int .i64 m2, .int .i64 m3, .int .i64 m4, .string m5] 56))
      obtain ⟨bm, hbm⟩ : ∃ bm, w5.heap.size = bm := ⟨_, rfl⟩
      rw [hbm] at hs6
      have u0 := hs6.cell (i := 0) rfl
      have u1 := hs6.cell (i := 1) rfl
      have u2 := hs6.cell (i := 2) rfl
      have u3 := hs6.cell (i := 3) rfl
      have u4 := hs6.cell (i := 4) rfl
      have lu := hs6.lt
      have HNA := Lib.hid (name_any k0 ⟨m1, m2, m3, m4, m5⟩ (hs6.of_eq (show _ = pts b (.cells (tabCells nm R (.slice (some ⟨gb, 0, none⟩) n cap) lt) 34) * (mapH Value.string Mean.val nm N' (midN left g.names S.names) * (pts bm (.cells #[.int .i64 m1, .int .i64 m2, .int .i64 m3, .int .i64 m4, .string m5] 56) * (iterH Value.string Mean.val vnb br nn g.names (mdel left k0) c' (some (k0, ⟨m1, m2, m3, m4, m5⟩)) * (X * R1)))) by ac_rfl)))
      rw [midN_step hf0] at HNA
      simp only [Mean.val] at HNA hen hnx
      clear hs6 hs5 hx hl hf0 HIT
      go_wp2_with fail
      refine Calls.mono HNA.out ?_
      rintro e w6 ⟨rfl, N2, hs7⟩
      clear hnx hen u0 u1 u2 u3 u4 lu
      go_wp2
      go_roundg c'
      case measure => exact hc'
      case rel => exact ⟨mdel left k0, some (k0, ⟨m1, m2, m3, m4, m5⟩), N2, pts bm (.cells #[.int .i64 m1, .int .i64 m2, .int .i64 m3, .int .i64 m4, .string m5] 56) * X, hs7.of_eq (by ac_rfl)⟩

end Go.Proofs.YtebggkgciocciaaGreat
