import Derived.Test.YticljfpippbkkaaMTO
import Derived.Lib.Strings
import Derived.Test.YticljfpippbkkaaMLA
/-
  A table: a name gets a meaning, or loses it. Conditions: those that each theorem names.
-/
namespace Go.Proofs.Yticljfpippbkkaa
open Go.RowKit Go.Sp
variable {W w w' : World} {F A : HProp}

def mean0 : Mean := ⟨0, 0, 0, 0, ⟨#[]⟩⟩
/-- are two meanings the same? -/
def meanB (a b : Mean) : Bool := a.kind == b.kind && (a.cls == b.cls && (a.code == b.code && (a.cat == b.cat && decide (a.text = b.text))))
theorem meanB_eq (a b : Mean) : meanB a b = true ↔ a = b := by
  obtain ⟨a1, a2, a3, a4, a5⟩ := a
  obtain ⟨b1, b2, b3, b4, b5⟩ := b
  simp [meanB]

theorem toListB {a b : ByteArray} : a.toList = b.toList ↔ a = b :=
  ⟨fun h => by rw [Lib.toList_data, Lib.toList_data] at h; cases a; cases b; congr 1; exact Array.toList_inj.1 h, fun h => h ▸ rfl⟩
theorem run_eq_mean (w : World) (a b : Mean) : (Op.equalIn 10000 103 a.val b.val).run Try.prog w = .ok (meanB a b) w := by
  obtain ⟨a1, a2, a3, a4, a5⟩ := a
  obtain ⟨b1, b2, b3, b4, b5⟩ := b
  unfold meanB
  go_simp
  simp only [toListB]
  by_cases h1 : a1 = b1 <;> by_cases h2 : a2 = b2 <;> by_cases h3 : a3 = b3 <;> by_cases h4 : a4 = b4 <;> by_cases h5 : a5 = b5 <;> simp [h1, h2, h3, h4, h5]
theorem run_eql_mean (w : World) (a b : Mean) : (binOp .eql 103 a.val b.val).run Try.prog w = .ok (.bool (meanB a b)) w := by
  simp only [binOp]
  simp [Op.equal, Op.maxDepth, run_eq_mean w a b]
theorem run_neq_mean (w : World) (a b : Mean) : (binOp .neq 103 a.val b.val).run Try.prog w = .ok (.bool (!meanB a b)) w := by
  simp only [binOp]
  simp [Op.equal, Op.maxDepth, run_eq_mean w a b]

/-- the names, one of which gets a meaning (none, if it is the empty one) -/
noncomputable def nameM (T : ByteArray → Option Mean) (k : ByteArray) (m : Mean) : ByteArray → Option Mean := if meanB m mean0 = true then mdel T k else mput T k m

abbrev mapN : TypeId := 55

set_option maxRecDepth 100000 in
set_option maxHeartbeats 4000000 in
theorem name_any {b nm N : Nat} {R : Nat → RegV} {gs lt : Value} {T : ByteArray → Option Mean} (k : ByteArray) (m : Mean)
    (h : Sat W (pts b (.cells (tabCells nm R gs lt) 64) * (mapH Value.string Mean.val nm N T * A)) w) :
    Calls Try.prog 70 #[.pointer (some ⟨b, 0, none⟩), .string k, m.val] w fun e w' => e = .returned (.tuple #[]) ∧ ∃ N', Sat W (pts b (.cells (tabCells nm R gs lt) 64) * (mapH Value.string Mean.val nm N' (nameM T k m) * A)) w' := by
  have hK : KeyT Try.prog 9 Value.string := keyT_string Try.underlying9
  obtain ⟨m1, m2, m3, m4, m5⟩ := m
  have hb := h.alloc (.cells #[.int .i64 m1, .int .i64 m2, .int .i64 m3, .int .i64 m4, .string m5] 103)
  obtain ⟨bv, hbv⟩ : ∃ bv, w.heap.size = bv := ⟨_, rfl⟩
  rw [hbv] at hb
  have q1 := fun w => run_eql_mean w ⟨m1, m2, m3, m4, m5⟩ mean0
  simp only [Mean.val, mean0] at q1
  have c0 := hb.cell (i := 0) rfl
  have c1 := hb.cell (i := 1) rfl
  have c2 := hb.cell (i := 2) rfl
  have c3 := hb.cell (i := 3) rfl
  have c4 := hb.cell (i := 4) rfl
  have t0 := hb.r.cell (i := 0) (tab_names nm R gs lt)
  have lv := hb.lt
  have lb := hb.r.lt
  have HB := Lib.hid hb
  by_cases hz : meanB ⟨m1, m2, m3, m4, m5⟩ mean0 = true
  · rw [nameM, if_pos hz]
    rw [mean0] at hz
    simp only [hz] at q1
    obtain ⟨w2, hdel, hs⟩ := Sat.map_del hK Try.underlying55 (hb.of_eq (show _ = mapH Value.string Mean.val nm N T * (pts bv (.cells #[.int .i64 m1, .int .i64 m2, .int .i64 m3, .int .i64 m4, .string m5] 103) * (pts b (.cells (tabCells nm R gs lt) 64) * A)) by ac_rfl)) k 0
    have HS := Lib.hid hs
    clear hs hb h hz
    go_enter Try.func70, Try.ntmps70
    go_wp2
    go_simp
    exact ⟨rfl, .tuple #[], by unfold results; go_simp, rfl, N, HS.out.rot.r.rot⟩
  · rw [nameM, if_neg hz]
    simp only [Bool.not_eq_true] at hz
    rw [mean0] at hz
    simp only [hz] at q1
    obtain ⟨w2, hup, hs⟩ := Sat.map_upd hK Try.underlying55 (hb.drew.of_eq (show _ = mapH Value.string Mean.val nm N T * (pts bv (.cells #[.int .i64 m1, .int .i64 m2, .int .i64 m3, .int .i64 m4, .string m5] 103) * (pts b (.cells (tabCells nm R gs lt) 64) * A)) by ac_rfl)) k ⟨m1, m2, m3, m4, m5⟩
    have HS := Lib.hid hs
    simp only [Mean.val] at hup
    obtain ⟨C, hC⟩ : ∃ C : World → Prop, C = fun w' => ∃ X, Sat W (pts bv (.cells #[.int .i64 m1, .int .i64 m2, .int .i64 m3, .int .i64 m4, .string m5] 103) * (pts b (.cells (tabCells nm R gs lt) 64) * X)) w' := ⟨_, rfl⟩
    have HC := Lib.hid (show ∀ w', C w' → w'.cell? ⟨bv, 0, none⟩ = some (.int .i64 m1) ∧ w'.cell? ⟨bv, 1, none⟩ = some (.int .i64 m2) ∧ w'.cell? ⟨bv, 2, none⟩ = some (.int .i64 m3) ∧ w'.cell? ⟨bv, 3, none⟩ = some (.int .i64 m4) ∧ w'.cell? ⟨bv, 4, none⟩ = some (.string m5) ∧ w'.cell? ⟨b, 0, none⟩ = some (.map (some nm)) from fun w' h => by
      rw [hC] at h
      obtain ⟨X, h⟩ := h
      exact ⟨h.cell rfl, h.cell rfl, h.cell rfl, h.cell rfl, h.cell rfl, h.r.cell (tab_names nm R gs lt)⟩)
    have HC0 := Lib.hid (show C (w.alloc (.cells #[.int .i64 m1, .int .i64 m2, .int .i64 m3, .int .i64 m4, .string m5] 103)).drew by rw [hC]; exact ⟨_, hb.drew⟩)
    clear hs hb h hz hC
    go_enter Try.func70, Try.ntmps70
    go_upto_region 3 with fail
    generalize w.alloc (.cells #[.int .i64 m1, .int .i64 m2, .int .i64 m3, .int .i64 m4, .string m5] 103) = W1 at *
    clear c0 c1 c2 c3 c4 t0 q1
    refine wp_region_E C (by kernel_rfl) ?_
    refine wpE_take (i := 0) (q := 6) (v := ?_) rfl (by kernel_rfl) (by kernel_rfl) (by kernel_rfl) (by kernel_rfl) (by kernel_rfl) (fun _ _ _ h => h) (by rfl) ?_ ?_
    rotate_left 1
    · intro w hw; go_simp; try with_reducible rfl
    refine wpE_take (i := 1) (q := 6) (v := ?_) rfl (by kernel_rfl) (by kernel_rfl) (by kernel_rfl) (by kernel_rfl) (by kernel_rfl) (fun _ _ _ h => h) (by rfl) ?_ ?_
    rotate_left 1
    · intro w hw; go_simp; try with_reducible rfl
    refine wpE_take (i := 2) (q := 6) (v := ?_) rfl (by kernel_rfl) (by kernel_rfl) (by kernel_rfl) (by kernel_rfl) (by kernel_rfl) (fun _ _ _ h => h) (by rfl) ?_ ?_
    rotate_left 1
    · intro w hw; go_simp; try with_reducible rfl
    refine wpE_take (i := 3) (q := 6) (v := ?_) rfl (by kernel_rfl) (by kernel_rfl) (by kernel_rfl) (by kernel_rfl) (by kernel_rfl) (fun _ _ _ h => h) (by rfl) ?_ ?_
    rotate_left 1
    · intro w hw; (obtain ⟨d1, d2, d3, d4, d5, d6⟩ := HC.out _ hw; go_simp; try with_reducible rfl)
    refine wpE_take (i := 4) (q := 6) (v := ?_) rfl (by kernel_rfl) (by kernel_rfl) (by kernel_rfl) (by kernel_rfl) (by kernel_rfl) (fun _ _ _ h => h) (by rfl) ?_ ?_
    rotate_left 1
    · intro w hw; go_simp; try with_reducible rfl
    refine wpE_take (i := 5) (q := 6) (v := ?_) rfl (by kernel_rfl) (by kernel_rfl) (by kernel_rfl) (by kernel_rfl) (by kernel_rfl) (fun _ _ _ h => h) (by rfl) ?_ ?_
    rotate_left 1
    · intro w hw; (obtain ⟨d1, d2, d3, d4, d5, d6⟩ := HC.out _ hw; go_simp; try with_reducible rfl)
    refine wpE_one (i := 6) rfl (by kernel_rfl) (HC0.out) (fun K hK => ?_)
    go_simp
    refine hK _ _ ?_
    clear hK K
    refine wpE_done (by kernel_rfl) (by kernel_rfl) ?_
    exact ⟨rfl, .tuple #[], by unfold results; go_simp, rfl, N + 1, HS.out.rot.r.rot⟩

end Go.Proofs.Yticljfpippbkkaa

/-
  A table: a group's end. Conditions: those that each theorem names.
-/
namespace Go.Proofs.Yticljfpippbkkaa
open Go.RowKit Go.Sp
variable {W w w' : World} {F A : HProp}

/-- the keys of a group's registers are registers -/
def GrpS.keysOK (g : GrpS) : Prop := ∀ k r, g.regs k = some r → ∃ c i : Nat, k = ((c : Int), (i : Int)) ∧ c ≤ 5 ∧ i < 256
def keyJ (j : Nat) : Int × Int := (((j / 256 : Nat) : Int), ((j % 256 : Nat) : Int))
/-- what a group's end makes of the names, and of the registers -/
def endN (g : ByteArray → Option Mean) (T : ByteArray → Option Mean) : ByteArray → Option Mean := fun k => match g k with | some m => if meanB m mean0 = true then none else some m | none => T k
def endR {α : Type} (g : Int × Int → Option α) (R : Nat → α) : Nat → α := fun j => match g (keyJ j) with | some r => r | none => R j
def TabS.ended (S : TabS) (S0 : List GrpS) (g : GrpS) : TabS := ⟨endN g.names S.names, endR g.regs S.regs, S0, g.after⟩

theorem endN_none (T : ByteArray → Option Mean) : endN (fun _ => none) T = T := rfl

/-- the names while the end goes on: 'left' are still to come -/
def midN (left g T : ByteArray → Option Mean) : ByteArray → Option Mean := fun k => match left k with | some _ => T k | none => endN g T k
theorem midN_start (g T : ByteArray → Option Mean) : midN g g T = T := by
  funext k
  unfold midN endN
  cases h : g k <;> rfl
theorem midN_end {left g T : ByteArray → Option Mean} (h : ∀ k, left k = none) : midN left g T = endN g T := by
  funext k
  unfold midN
  rw [h k]
theorem midN_step {left g T : ByteArray → Option Mean} {k : ByteArray} {m : Mean} (hg : g k = some m) : nameM (midN left g T) k m = midN (mdel left k) g T := by
  funext j
  by_cases hj : j = k
  · subst hj
    have e2 : midN (mdel left j) g T j = endN g T j := by unfold midN; rw [mdel_same]
    rw [e2]
    unfold endN nameM
    rw [hg]
    by_cases hz : meanB m mean0 = true
    · simp only [if_pos hz]; rw [mdel_same]
    · simp only [if_neg hz]; rw [mput_same]
  · have e : nameM (midN left g T) k m j = midN left g T j := by
      unfold nameM
      split
      · rw [mdel_other _ hj]
      · rw [mput_other _ _ hj]
    rw [e]
    unfold midN
    rw [mdel_other left hj]

def midR {α : Type} (left g : Int × Int → Option α) (R : Nat → α) : Nat → α := fun j => match left (keyJ j) with | some _ => R j | none => endR g R j
theorem midR_start {α : Type} (g : Int × Int → Option α) (R : Nat → α) : midR g g R = R := by
  funext j
  unfold midR endR
  cases h : g (keyJ j) <;> rfl
theorem midR_end {α : Type} {left g : Int × Int → Option α} {R : Nat → α} (h : ∀ k, left k = none) : midR left g R = endR g R := by
  funext j
  unfold midR
  rw [h (keyJ j)]
theorem keyJ_eq {c i j : Nat} (hi : i < 256) : keyJ j = ((c : Int), (i : Int)) ↔ j = c * 256 + i := by
  unfold keyJ
  constructor
  · intro h
    have h1 := congrArg Prod.fst h
    have h2 := congrArg Prod.snd h
    simp only at h1 h2
    omega
  · rintro rfl
    have h1 : (c * 256 + i) / 256 = c := by omega
    have h2 : (c * 256 + i) % 256 = i := by omega
    rw [h1, h2]
theorem midR_step {left g : Int × Int → Option RegV} {R : Nat → RegV} {c i : Nat} {v : RegV} (hi : i < 256) (hg : g ((c : Int), (i : Int)) = some v) :
    setR (midR left g R) (c * 256 + i) v = midR (mdel left ((c : Int), (i : Int))) g R := by
  funext j
  unfold setR
  by_cases hj : j = c * 256 + i
  · rw [if_pos hj]
    have hk := (keyJ_eq hi).2 hj
    unfold midR endR
    rw [hk, mdel_same, hg]
  · rw [if_neg hj]
    have hk : keyJ j ≠ ((c : Int), (i : Int)) := fun h => hj ((keyJ_eq hi).1 h)
    unfold midR
    rw [mdel_other left hk]

/-- a register's seven cells, set -/
theorem sat_setR {b nm : Nat} {R : Nat → RegV} {gs lt : Value} {c i : Nat} {v : RegV} (hc : c ≤ 5) (hi : i < 256) (h : Sat W (pts b (.cells (tabCells nm R gs lt) 64) * A) w) :
    Sat W (pts b (.cells (tabCells nm (setR R (c * 256 + i) v) gs lt) 64) * A) (((((((w.setCell ⟨b, 1 + c * 1792 + i * 7, none⟩ (.int .i64 v.n)).setCell ⟨b, 1 + c * 1792 + i * 7 + 1, none⟩ (.int .i64 v.g.nat)).setCell ⟨b, 1 + c * 1792 + i * 7 + 2, none⟩ (.int .i64 v.g.stretch)).setCell ⟨b, 1 + c * 1792 + i * 7 + 3, none⟩ (.int .i64 v.g.shrink)).setCell ⟨b, 1 + c * 1792 + i * 7 + 4, none⟩ (.int .i64 v.g.so)).setCell ⟨b, 1 + c * 1792 + i * 7 + 5, none⟩ (.int .i64 v.g.ko)).setCell ⟨b, 1 + c * 1792 + i * 7 + 6, none⟩ v.s) := by
  have hj : c * 256 + i < 1536 := by omega
  have e : 1 + c * 1792 + i * 7 = 1 + (c * 256 + i) * 7 := by omega
  have h2 := ((((((h.set (i := 1 + c * 1792 + i * 7) (v := .int .i64 v.n)).set (i := 1 + c * 1792 + i * 7 + 1) (v := .int .i64 v.g.nat)).set (i := 1 + c * 1792 + i * 7 + 2) (v := .int .i64 v.g.stretch)).set (i := 1 + c * 1792 + i * 7 + 3) (v := .int .i64 v.g.shrink)).set (i := 1 + c * 1792 + i * 7 + 4) (v := .int .i64 v.g.so)).set (i := 1 + c * 1792 + i * 7 + 5) (v := .int .i64 v.g.ko)).set (i := 1 + c * 1792 + i * 7 + 6) (v := v.s)
  have h3 := tab_set_reg nm R gs lt (c * 256 + i) hj v
  simp only [RegV.at] at h3
  rw [← e] at h3
  rw [h3] at h2
  exact h2

/-- what the table is behind a group's end -/
theorem end_end {b N nm : Nat} {S : TabS} {S0 : List GrpS} {g : GrpS} {m : Nat → Option Obj} {gs lt lt' : Value} {R : Nat → RegV} {V0 : List GrpV} {v : GrpV} {f : Int × Int → Option RegV} {n : Nat}
    (hO : OpenF S S0 g m lt R V0 v f) (hn : S0.length = n)
    (h : Sat W (pts b (.cells (tabCells nm (endR f R) gs lt') 64) * (rowT lt' g.after * (roH m * (mapH Value.string Mean.val nm N (endN g.names S.names) * (row gs n 143 4 (flatG V0) * (grpsH m V0 S0 * F)))))) w) : TabAt W F b N (S.ended S0 g) w := by
  obtain ⟨m', h5, hm, hr⟩ := (h.of_eq (show _ = rowT lt' g.after * (roH m * (pts b (.cells (tabCells nm (endR f R) gs lt') 64) * (mapH Value.string Mean.val nm N (endN g.names S.names) * (row gs n 143 4 (flatG V0) * (grpsH m V0 S0 * F))))) by ac_rfl)).row_stays
  refine ⟨m', nm, gs, lt', endR f R, V0, ⟨fun j hj => ?_, hr, hO.after, hO.len, by have := hO.le; simp only [TabS.ended]; omega⟩, ?_⟩
  · have h1 := hO.rep (keyJ j)
    have h2 := hO.regs j hj
    simp only [TabS.ended, endR]
    cases hf : f (keyJ j) with
    | none =>
      rw [hf] at h1
      cases hg : g.regs (keyJ j) with
      | none => exact ⟨h2.1.mono hm, h2.2⟩
      | some s => rw [hg] at h1; exact h1.elim
    | some u =>
      rw [hf] at h1
      cases hg : g.regs (keyJ j) with
      | none => rw [hg] at h1; exact h1.elim
      | some s => rw [hg] at h1; exact ⟨h1.1.mono hm, h1.2⟩
  · have h6 : Sat W (grpsH m V0 S0 * (roH m' * (pts b (.cells (tabCells nm (endR f R) gs lt') 64) * (mapH Value.string Mean.val nm N (endN g.names S.names) * (row gs V0.length 143 4 (flatG V0) * F))))) w := h5.of_eq (by rw [hO.len, hn]; ac_rfl)
    exact (h6.imp_l (grpsH_mono hm V0 S0)).of_eq (by simp only [TabS.ended]; ac_rfl)

end Go.Proofs.Yticljfpippbkkaa

/-
  A table: what must come (the law's knows). Conditions: those that each theorem names.
-/
namespace Go.Proofs.Yticljfpippbkkaa
open Go.RowKit Go.Sp
variable {W w w' : World} {F A : HProp}

def kv (n : Int) : RegS := ⟨n, ⟨0, 0, 0, 0, 0⟩, []⟩
theorem keepR_new {g : GrpS} {k : Int × Int} {r : RegS} (h : g.regs k = none) : g.keepR k r = { g with regs := mput g.regs k r } := by rw [GrpS.keepR, h]

theorem knows_plain : ∃ S1 S2 S3 S4 S5 g, setT newS 1 1 (kv 5) false = S1 ∧ setE 1 1 (kv 5) = 0 ∧ beginE S1 0 = 0 ∧ beginS S1 0 = S2 ∧ setE 1 1 (kv 6) = 0 ∧ setT S2 1 1 (kv 6) false = S3 ∧
    setE 1 2 (kv 7) = 0 ∧ setT S3 1 2 (kv 7) true = S4 ∧ S4.groups = [] ++ [g] ∧ g.keysOK ∧ S4.ended [] g = S5 ∧ S5.regs 257 = kv 5 ∧ S5.regs 258 = kv 7 := by
  have e1 : setE 1 1 (kv 5) = 0 := by decide
  have e2 : setE 1 1 (kv 6) = 0 := by decide
  have e3 : setE 1 2 (kv 7) = 0 := by decide
  have b1 : beginE (setT newS 1 1 (kv 5) false) 0 = 0 := by
    rw [setT, if_pos e1]
    rfl
  refine ⟨_, _, _, _, _, ((grp0 0).keepR (1, 1) ((beginS (setT newS 1 1 (kv 5) false) 0).regs 257)).delR (1, 2), rfl, e1, b1, rfl, e2, rfl, e3, rfl, ?_, ?_, rfl, ?_, ?_⟩
  · rw [setT, if_pos e3, setT, if_pos e2, beginS, if_pos b1, setT, if_pos e1]
    rfl
  · rw [keepR_new rfl]
    intro k r hk
    simp only [GrpS.delR] at hk
    by_cases h2 : k = (1, 2)
    · subst h2; rw [mdel_same] at hk; cases hk
    · rw [mdel_other _ h2] at hk
      by_cases h1 : k = (1, 1)
      · exact ⟨1, 1, h1, by omega, by omega⟩
      · rw [mput_other _ _ h1] at hk; cases hk
  · rw [keepR_new rfl]
    simp only [TabS.ended, endR, GrpS.delR]
    rw [show keyJ 257 = (1, 1) from rfl, mdel_other _ (by decide), mput_same]
    simp only
    rw [beginS, if_pos b1, setT, if_pos e1]
    simp [TabS.begun, putS, setS]
  · rw [keepR_new rfl]
    simp only [TabS.ended, endR, GrpS.delR]
    rw [show keyJ 258 = (1, 2) from rfl, mdel_same]
    simp only
    rw [setT, if_pos e3]
    simp [putS, setS]

theorem TabAt.frame {b N : Nat} {S : TabS} {B : HProp} (h : TabAt W (A * (B * F)) b N S w) : TabAt W (A * F) b N S w := by
  refine TabAt.less (A := B) (h.of_eq (by ac_rfl))

end Go.Proofs.Yticljfpippbkkaa

/-
  Two lists of tokens are held against each other (galleylaw01.SameTokens). Conditions: none.
-/
namespace Go.Proofs.Yticljfpippbkkaa
open Go.RowKit Go.Sp

theorem sameT_any (xs ys : List Tok) (v u : Value) (w : World) (hv : RdT w v xs) (hu : RdT w u ys) :
    Calls Try.prog 13 #[v, u] w fun e w' => e = .returned (.bool (decide (xs = ys))) ∧ ∃ q, w.drewN q = w' := by
  have lx := hv.le
  have ly := hu.le
  by_cases hl : xs.length = ys.length
  · rcases Nat.eq_zero_or_pos xs.length with h0 | hp
    · obtain ⟨a, cap, rfl⟩ := hv.val
      obtain ⟨a', cap', rfl⟩ := hu.val
      obtain rfl := List.eq_nil_of_length_eq_zero h0
      obtain rfl := List.eq_nil_of_length_eq_zero (hl ▸ h0)
      clear hl h0 hv hu
      go_enter Try.func13, Try.ntmps13
      go_wp2
      go_loopw [5] (fun i wr => i = .int .i64 0 ∧ ∃ q, w.drewN q = wr) (fun _ _ => 0)
      case atStart => exact ⟨rfl, 0, rfl⟩
      case round =>
        obtain ⟨rfl, q, rfl⟩ := hrel
        go_wp2
        go_ret
        exact ⟨rfl, q, rfl⟩
    · obtain ⟨b, off, cap, rfl, hc⟩ := hv.head hp
      obtain ⟨b', off', cap', rfl, hc'⟩ := hu.head (hl ▸ hp)
      have hne : ((xs.length : Int) != (ys.length : Int)) = false := by simp [hl]
      have HL := Lib.hid hl
      clear hl hv hu
      go_enter Try.func13, Try.ntmps13
      go_wp2
      go_loopw [5] (fun i wr => ∃ k : Nat, k ≤ xs.length ∧ xs.take k = ys.take k ∧ i = .int .i64 k ∧ ∃ q, w.drewN q = wr) (fun i _ => xs.length - (intOf i).toNat)
      case atStart => exact ⟨0, Nat.zero_le _, rfl, rfl, 0, rfl⟩
      case round =>
        obtain ⟨k, hk, he, rfl, q, rfl⟩ := hrel
        have HE := Lib.hid he
        clear he
        by_cases hlt : k < xs.length
        · have hlt' : k < ys.length := HL.out ▸ hlt
          obtain ⟨a0, a1, a2⟩ := hc k hlt
          obtain ⟨b0, b1, b2⟩ := hc' k hlt'
          have HX := Lib.hid hc
          have HX' := Lib.hid hc'
          clear hc hc'
          have lt1 : (k : Int) < (xs.length : Int) := by omega
          have hrun := fun w => run_neq w xs[k] ys[k]
          have lt2 : (k : Int) < (ys.length : Int) := by omega
          go_wp2
          go_quiet (fail)
          go_wp2
          · have hd : (!decide (xs[k] = ys[k])) = true := by assumption
            have hf : decide (xs = ys) = false := by
              rw [decide_eq_false_iff_not]; rintro rfl; simp at hd
            go_ret
            exact ⟨by rw [hf]; rfl, q + nq, (World.drewN_drewN _ _ _).symm⟩
          · have hd : (!decide (xs[k] = ys[k])) = false := by assumption
            go_roundw
            case rel => exact ⟨k + 1, by omega, take_eq_succT HE.out hlt hlt' (by simpa using hd), by go_num, q + nq, rfl⟩
            case measure => simp [intOf]; omega
        · have : k = xs.length := by omega
          subst this
          go_wp2
          go_ret
          refine ⟨?_, q, rfl⟩
          have e := HE.out
          rw [List.take_length, List.take_of_length_le (by rw [HL.out]; omega)] at e
          simp [e]
  · obtain ⟨a, cap, rfl⟩ := hv.val
    obtain ⟨a', cap', rfl⟩ := hu.val
    have hne : ((xs.length : Int) != (ys.length : Int)) = true := by simp; omega
    have hf : decide (xs = ys) = false := by
      rw [decide_eq_false_iff_not]; rintro rfl; exact hl rfl
    clear hv hu
    go_enter Try.func13, Try.ntmps13
    go_wp2
    go_ret
    exact ⟨by rw [hf]; rfl, 0, rfl⟩

end Go.Proofs.Yticljfpippbkkaa

/-
  The law of the tokens that a group's end brings back. Conditions: those that each theorem names.
-/
namespace Go.Proofs.Yticljfpippbkkaa
open Go.RowKit Go.Sp
variable {W w w' : World} {F A : HProp}

theorem TabAt.focus {b N : Nat} {S : TabS} (h : TabAt W F b N S w) : ∃ Y : HProp, Sat W (F * Y) w ∧ ∀ (F' : HProp) (w' : World), Sat W (F' * Y) w' → TabAt W F' b N S w' := by
  obtain ⟨m, nm, gs, lt, R, V, h1, h2⟩ := h
  exact ⟨pts b (.cells (tabCells nm R gs lt) 64) * (roH m * (mapH Value.string Mean.val nm N S.names * (row gs V.length 143 4 (flatG V) * grpsH m V S.groups))),
    h2.of_eq (by ac_rfl), fun F' w' h => ⟨m, nm, gs, lt, R, V, h1, h.of_eq (by ac_rfl)⟩⟩

theorem TabAt.nil {b N : Nat} {S : TabS} (h : TabAt W F b N S w) : TabAt W (rowT (.slice none 0 0) [] * F) b N S w := by
  obtain ⟨Y, h1, h2⟩ := h.focus
  exact h2 _ _ ((Sat.row_nil h1).of_eq (by unfold rowT; ac_rfl))

/-- a table with groups, its last one with tokens for its end -/
def keptS (G0 : List GrpS) (k : Int) (L : List Tok) : TabS := { newS with groups := G0 ++ [{ grp0 k with after := L }] }

theorem kept_yes {G0 : List GrpS} {k : Int} {L : List Tok} {t : Tok} (h : afterE (keptS G0 k L) t = 0) : afterS (keptS G0 k L) t = keptS G0 k (L ++ [t]) := by
  rw [afterS_yes h rfl]
  rfl


end Go.Proofs.Yticljfpippbkkaa

/-
  A table: a register gets what a function makes of it. Conditions: those that each theorem names.
-/
namespace Go.Proofs.Yticljfpippbkkaa
open Go.RowKit Go.Sp
variable {W w w' : World} {F A : HProp}

/-- what 'sum' answers, and the table then, when the function made r, with the error er -/
def sumE (c : Int) (r : RegS) (er : Int) : Int := if er ≠ 0 then er else if rightM c r = true then 0 else 20
noncomputable def sumT (S : TabS) (c i : Nat) (r : RegS) (er : Int) (g : Bool) : TabS := if er ≠ 0 then S else if rightM (c : Int) r = true then putS S c i r g else S

end Go.Proofs.Yticljfpippbkkaa

/-
  A table: the functions that Advance, Multiply and Divide hand on. Conditions: those that each theorem names.
-/
namespace Go.Proofs.Yticljfpippbkkaa
open Go.RowKit Go.Sp
variable {W w w' : World} {F A : HProp}

end Go.Proofs.Yticljfpippbkkaa

/-
  Sums, products and quotients of glue: some glue, some error. Conditions: those that each theorem names.
-/
namespace Go.Proofs.Yticljfpippbkkaa
open Go.RowKit Go.Sp
variable {W w w' : World} {F A : HProp}

def TwoR (e : Ending) : Prop := ∃ x y : Int, e = .returned (.tuple #[.int .i64 x, .int .i64 y])
def TimesR (e : Ending) : Prop := ∃ (x : Int) (y : Bool), e = .returned (.tuple #[.int .i64 x, .bool y])
def GlueR (e : Ending) : Prop := ∃ (g : Gl) (er : Int), e = .returned (.tuple #[g.val, .int .i64 er])
theorem TwoR.mk (x y : Int) : TwoR (.returned (.tuple #[.int .i64 x, .int .i64 y])) := ⟨x, y, rfl⟩
theorem TimesR.mk (x : Int) (y : Bool) : TimesR (.returned (.tuple #[.int .i64 x, .bool y])) := ⟨x, y, rfl⟩
theorem GlueR.mk (a b c o p er : Int) : GlueR (.returned (.tuple #[.agg #[.int .i64 a, .int .i64 b, .int .i64 c, .int .i64 o, .int .i64 p], .int .i64 er])) := ⟨⟨a, b, c, o, p⟩, er, rfl⟩

theorem times_any (a b : Int) (w : World) : Calls Try.prog 83 #[.int .i64 a, .int .i64 b] w fun e w' => TimesR e ∧ w = w' := by
  go_enter Try.func83, Try.ntmps83
  by_cases h1 : a = 0
  · subst h1
    go_wp2
    (try simp only [Exit.inBlock, Exit.then])
    refine bodyPost_ret (v := .tuple #[.int .i64 0, .bool true]) ?rh rfl ⟨⟨_, _, rfl⟩, rfl⟩
    case rh => unfold results; go_simp
  · have q1 : (a == 0) = false := by rw [beq_eq_false_iff_ne]; exact h1
    by_cases h2 : b = 0
    · subst h2
      go_wp2
      (try simp only [Exit.inBlock, Exit.then])
      refine bodyPost_ret (v := .tuple #[.int .i64 0, .bool true]) ?rh rfl ⟨⟨_, _, rfl⟩, rfl⟩
      case rh => unfold results; go_simp
    · have q2 : (b == 0) = false := by rw [beq_eq_false_iff_ne]; exact h2
      by_cases h3 : 1073741823 < b
      · skip
        go_wp2
        (try simp only [Exit.inBlock, Exit.then])
        refine bodyPost_ret (v := .tuple #[.int .i64 0, .bool false]) ?rh rfl ⟨⟨_, _, rfl⟩, rfl⟩
        case rh => unfold results; go_simp
      · by_cases h4 : b < -1073741823
        · skip
          go_wp2
          (try simp only [Exit.inBlock, Exit.then])
          refine bodyPost_ret (v := .tuple #[.int .i64 0, .bool false]) ?rh rfl ⟨⟨_, _, rfl⟩, rfl⟩
          case rh => unfold results; go_simp
        · skip
          go_wp2
          (try simp only [Exit.inBlock, Exit.then])
          refine bodyPost_ret (v := .tuple #[.int .i64 (wrap64 (a * b)), .bool true]) ?rh rfl ⟨⟨_, _, rfl⟩, rfl⟩
          case rh => unfold results; go_simp

set_option maxRecDepth 100000 in
set_option maxHeartbeats 4000000 in
theorem tidy_any (g : Gl) (w : World) : Calls Try.prog 84 #[g.val] w fun e w' => GlueR e ∧ Ext w w' := by
  obtain ⟨a, b, c, o, p⟩ := g
  go_enter Try.func84, Try.ntmps84
  by_cases hb : b = 0
  · subst hb
    by_cases hc : c = 0
    · subst hc
      have hs := ((Sat.start w).alloc (.cells #[.int .i64 a, .int .i64 0, .int .i64 0, .int .i64 0, .int .i64 0] 57)).alloc (.cells #[.int .i64 0, .int .i64 0, .int .i64 0, .int .i64 0, .int .i64 0] 57)
      rw [show (w.alloc (.cells #[.int .i64 a, .int .i64 0, .int .i64 0, .int .i64 0, .int .i64 0] 57)).heap.size = w.heap.size + 1 by simp] at hs
      have HS := Lib.hid hs
      obtain ⟨er, her⟩ : ∃ er, glueE ⟨a, 0, 0, 0, 0⟩ = er := ⟨_, rfl⟩
      have HG := Lib.hid (glue_any ⟨a, 0, 0, 0, 0⟩ ((w.alloc (.cells #[.int .i64 a, .int .i64 0, .int .i64 0, .int .i64 0, .int .i64 0] 57)).alloc (.cells #[.int .i64 0, .int .i64 0, .int .i64 0, .int .i64 0, .int .i64 0] 57)))
      rw [her] at HG
      clear hs her
      go_wp2_with fail
      refine Calls.mono HG.out ?_
      rintro e w1 ⟨rfl, hx⟩
      have h2 := HS.out.ext hx
      have HX := Lib.hid h2.r.r.toExt
      generalize hbz : w.heap.size = bz at *
      have d0 := h2.r.cell (i := 0) rfl
      have d1 := h2.r.cell (i := 1) rfl
      have d2 := h2.r.cell (i := 2) rfl
      have d3 := h2.r.cell (i := 3) rfl
      have d4 := h2.r.cell (i := 4) rfl
      have y0 := h2.cell (i := 0) rfl
      have y1 := h2.cell (i := 1) rfl
      have y2 := h2.cell (i := 2) rfl
      have y3 := h2.cell (i := 3) rfl
      have y4 := h2.cell (i := 4) rfl
      have f0 := h2.free (i := 0)
      have f1 := h2.free (i := 1)
      have f2 := h2.free (i := 2)
      have f3 := h2.free (i := 3)
      have f4 := h2.free (i := 4)
      have l1 := h2.lt
      have l2 := h2.r.lt
      have H2 := Lib.hid h2
      clear hx h2 hbz
      by_cases he : er = 0
      · subst he
        have HZ := Lib.hid (((((H2.out.set (i := 0) (v := .int .i64 a)).set (i := 1) (v := .int .i64 0)).set (i := 2) (v := .int .i64 0)).set (i := 3) (v := .int .i64 0)).set (i := 4) (v := .int .i64 0))
        go_wp2
        (try simp only [Exit.inBlock, Exit.then])
        refine bodyPost_ret (v := .tuple #[.agg #[.int .i64 a, .int .i64 0, .int .i64 0, .int .i64 0, .int .i64 0], .int .i64 0]) ?rh rfl ⟨GlueR.mk _ _ _ _ _ _, HZ.out.r.r.toExt⟩
        case rh => unfold results; go_simp
      · have q1 : (er == 0) = false := by rw [beq_eq_false_iff_ne]; exact he
        have HZ := Lib.hid (((((H2.out.set (i := 0) (v := .int .i64 0)).set (i := 1) (v := .int .i64 0)).set (i := 2) (v := .int .i64 0)).set (i := 3) (v := .int .i64 0)).set (i := 4) (v := .int .i64 0))
        clear he
        go_wp2
        (try simp only [Exit.inBlock, Exit.then])
        refine bodyPost_ret (v := .tuple #[.agg #[.int .i64 0, .int .i64 0, .int .i64 0, .int .i64 0, .int .i64 0], .int .i64 20]) ?rh rfl ⟨GlueR.mk _ _ _ _ _ _, HZ.out.r.r.toExt⟩
        case rh => unfold results; go_simp
    · have qc : (c == 0) = false := by rw [beq_eq_false_iff_ne]; exact hc
      have hs := ((Sat.start w).alloc (.cells #[.int .i64 a, .int .i64 0, .int .i64 c, .int .i64 0, .int .i64 p] 57)).alloc (.cells #[.int .i64 0, .int .i64 0, .int .i64 0, .int .i64 0, .int .i64 0] 57)
      rw [show (w.alloc (.cells #[.int .i64 a, .int .i64 0, .int .i64 c, .int .i64 0, .int .i64 p] 57)).heap.size = w.heap.size + 1 by simp] at hs
      have HS := Lib.hid hs
      obtain ⟨er, her⟩ : ∃ er, glueE ⟨a, 0, c, 0, p⟩ = er := ⟨_, rfl⟩
      have HG := Lib.hid (glue_any ⟨a, 0, c, 0, p⟩ ((w.alloc (.cells #[.int .i64 a, .int .i64 0, .int .i64 c, .int .i64 0, .int .i64 p] 57)).alloc (.cells #[.int .i64 0, .int .i64 0, .int .i64 0, .int .i64 0, .int .i64 0] 57)))
      rw [her] at HG
      clear hs her
      go_wp2_with fail
      refine Calls.mono HG.out ?_
      rintro e w1 ⟨rfl, hx⟩
      have h2 := HS.out.ext hx
      have HX := Lib.hid h2.r.r.toExt
      generalize hbz : w.heap.size = bz at *
      have d0 := h2.r.cell (i := 0) rfl
      have d1 := h2.r.cell (i := 1) rfl
      have d2 := h2.r.cell (i := 2) rfl
      have d3 := h2.r.cell (i := 3) rfl
      have d4 := h2.r.cell (i := 4) rfl
      have y0 := h2.cell (i := 0) rfl
      have y1 := h2.cell (i := 1) rfl
      have y2 := h2.cell (i := 2) rfl
      have y3 := h2.cell (i := 3) rfl
      have y4 := h2.cell (i := 4) rfl
      have f0 := h2.free (i := 0)
      have f1 := h2.free (i := 1)
      have f2 := h2.free (i := 2)
      have f3 := h2.free (i := 3)
      have f4 := h2.free (i := 4)
      have l1 := h2.lt
      have l2 := h2.r.lt
      have H2 := Lib.hid h2
      clear hx h2 hbz
      by_cases he : er = 0
      · subst he
        have HZ := Lib.hid (((((H2.out.set (i := 0) (v := .int .i64 a)).set (i := 1) (v := .int .i64 0)).set (i := 2) (v := .int .i64 c)).set (i := 3) (v := .int .i64 0)).set (i := 4) (v := .int .i64 p))
        go_wp2
        (try simp only [Exit.inBlock, Exit.then])
        refine bodyPost_ret (v := .tuple #[.agg #[.int .i64 a, .int .i64 0, .int .i64 c, .int .i64 0, .int .i64 p], .int .i64 0]) ?rh rfl ⟨GlueR.mk _ _ _ _ _ _, HZ.out.r.r.toExt⟩
        case rh => unfold results; go_simp
      · have q1 : (er == 0) = false := by rw [beq_eq_false_iff_ne]; exact he
        have HZ := Lib.hid (((((H2.out.set (i := 0) (v := .int .i64 0)).set (i := 1) (v := .int .i64 0)).set (i := 2) (v := .int .i64 0)).set (i := 3) (v := .int .i64 0)).set (i := 4) (v := .int .i64 0))
        clear he
        go_wp2
        (try simp only [Exit.inBlock, Exit.then])
        refine bodyPost_ret (v := .tuple #[.agg #[.int .i64 0, .int .i64 0, .int .i64 0, .int .i64 0, .int .i64 0], .int .i64 20]) ?rh rfl ⟨GlueR.mk _ _ _ _ _ _, HZ.out.r.r.toExt⟩
        case rh => unfold results; go_simp
  · have qb : (b == 0) = false := by rw [beq_eq_false_iff_ne]; exact hb
    by_cases hc : c = 0
    · subst hc
      have hs := ((Sat.start w).alloc (.cells #[.int .i64 a, .int .i64 b, .int .i64 0, .int .i64 o, .int .i64 0] 57)).alloc (.cells #[.int .i64 0, .int .i64 0, .int .i64 0, .int .i64 0, .int .i64 0] 57)
      rw [show (w.alloc (.cells #[.int .i64 a, .int .i64 b, .int .i64 0, .int .i64 o, .int .i64 0] 57)).heap.size = w.heap.size + 1 by simp] at hs
      have HS := Lib.hid hs
      obtain ⟨er, her⟩ : ∃ er, glueE ⟨a, b, 0, o, 0⟩ = er := ⟨_, rfl⟩
      have HG := Lib.hid (glue_any ⟨a, b, 0, o, 0⟩ ((w.alloc (.cells #[.int .i64 a, .int .i64 b, .int .i64 0, .int .i64 o, .int .i64 0] 57)).alloc (.cells #[.int .i64 0, .int .i64 0, .int .i64 0, .int .i64 0, .int .i64 0] 57)))
      rw [her] at HG
      clear hs her
      go_wp2_with fail
      refine Calls.mono HG.out ?_
      rintro e w1 ⟨rfl, hx⟩
      have h2 := HS.out.ext hx
      have HX := Lib.hid h2.r.r.toExt
      generalize hbz : w.heap.size = bz at *
      have d0 := h2.r.cell (i := 0) rfl
      have d1 := h2.r.cell (i := 1) rfl
      have d2 := h2.r.cell (i := 2) rfl
      have d3 := h2.r.cell (i := 3) rfl
      have d4 := h2.r.cell (i := 4) rfl
      have y0 := h2.cell (i := 0) rfl
      have y1 := h2.cell (i := 1) rfl
      have y2 := h2.cell (i := 2) rfl
      have y3 := h2.cell (i := 3) rfl
      have y4 := h2.cell (i := 4) rfl
      have f0 := h2.free (i := 0)
      have f1 := h2.free (i := 1)
      have f2 := h2.free (i := 2)
      have f3 := h2.free (i := 3)
      have f4 := h2.free (i := 4)
      have l1 := h2.lt
      have l2 := h2.r.lt
      have H2 := Lib.hid h2
      clear hx h2 hbz
      by_cases he : er = 0
      · subst he
        have HZ := Lib.hid (((((H2.out.set (i := 0) (v := .int .i64 a)).set (i := 1) (v := .int .i64 b)).set (i := 2) (v := .int .i64 0)).set (i := 3) (v := .int .i64 o)).set (i := 4) (v := .int .i64 0))
        go_wp2
        (try simp only [Exit.inBlock, Exit.then])
        refine bodyPost_ret (v := .tuple #[.agg #[.int .i64 a, .int .i64 b, .int .i64 0, .int .i64 o, .int .i64 0], .int .i64 0]) ?rh rfl ⟨GlueR.mk _ _ _ _ _ _, HZ.out.r.r.toExt⟩
        case rh => unfold results; go_simp
      · have q1 : (er == 0) = false := by rw [beq_eq_false_iff_ne]; exact he
        have HZ := Lib.hid (((((H2.out.set (i := 0) (v := .int .i64 0)).set (i := 1) (v := .int .i64 0)).set (i := 2) (v := .int .i64 0)).set (i := 3) (v := .int .i64 0)).set (i := 4) (v := .int .i64 0))
        clear he
        go_wp2
        (try simp only [Exit.inBlock, Exit.then])
        refine bodyPost_ret (v := .tuple #[.agg #[.int .i64 0, .int .i64 0, .int .i64 0, .int .i64 0, .int .i64 0], .int .i64 20]) ?rh rfl ⟨GlueR.mk _ _ _ _ _ _, HZ.out.r.r.toExt⟩
        case rh => unfold results; go_simp
    · have qc : (c == 0) = false := by rw [beq_eq_false_iff_ne]; exact hc
      have hs := ((Sat.start w).alloc (.cells #[.int .i64 a, .int .i64 b, .int .i64 c, .int .i64 o, .int .i64 p] 57)).alloc (.cells #[.int .i64 0, .int .i64 0, .int .i64 0, .int .i64 0, .int .i64 0] 57)
      rw [show (w.alloc (.cells #[.int .i64 a, .int .i64 b, .int .i64 c, .int .i64 o, .int .i64 p] 57)).heap.size = w.heap.size + 1 by simp] at hs
      have HS := Lib.hid hs
      obtain ⟨er, her⟩ : ∃ er, glueE ⟨a, b, c, o, p⟩ = er := ⟨_, rfl⟩
      have HG := Lib.hid (glue_any ⟨a, b, c, o, p⟩ ((w.alloc (.cells #[.int .i64 a, .int .i64 b, .int .i64 c, .int .i64 o, .int .i64 p] 57)).alloc (.cells #[.int .i64 0, .int .i64 0, .int .i64 0, .int .i64 0, .int .i64 0] 57)))
      rw [her] at HG
      clear hs her
      go_wp2_with fail
      refine Calls.mono HG.out ?_
      rintro e w1 ⟨rfl, hx⟩
      have h2 := HS.out.ext hx
      have HX := Lib.hid h2.r.r.toExt
      generalize hbz : w.heap.size = bz at *
      have d0 := h2.r.cell (i := 0) rfl
      have d1 := h2.r.cell (i := 1) rfl
      have d2 := h2.r.cell (i := 2) rfl
      have d3 := h2.r.cell (i := 3) rfl
      have d4 := h2.r.cell (i := 4) rfl
      have y0 := h2.cell (i := 0) rfl
      have y1 := h2.cell (i := 1) rfl
      have y2 := h2.cell (i := 2) rfl
      have y3 := h2.cell (i := 3) rfl
      have y4 := h2.cell (i := 4) rfl
      have f0 := h2.free (i := 0)
      have f1 := h2.free (i := 1)
      have f2 := h2.free (i := 2)
      have f3 := h2.free (i := 3)
      have f4 := h2.free (i := 4)
      have l1 := h2.lt
      have l2 := h2.r.lt
      have H2 := Lib.hid h2
      clear hx h2 hbz
      by_cases he : er = 0
      · subst he
        have HZ := Lib.hid (((((H2.out.set (i := 0) (v := .int .i64 a)).set (i := 1) (v := .int .i64 b)).set (i := 2) (v := .int .i64 c)).set (i := 3) (v := .int .i64 o)).set (i := 4) (v := .int .i64 p))
        go_wp2
        (try simp only [Exit.inBlock, Exit.then])
        refine bodyPost_ret (v := .tuple #[.agg #[.int .i64 a, .int .i64 b, .int .i64 c, .int .i64 o, .int .i64 p], .int .i64 0]) ?rh rfl ⟨GlueR.mk _ _ _ _ _ _, HZ.out.r.r.toExt⟩
        case rh => unfold results; go_simp
      · have q1 : (er == 0) = false := by rw [beq_eq_false_iff_ne]; exact he
        have HZ := Lib.hid (((((H2.out.set (i := 0) (v := .int .i64 0)).set (i := 1) (v := .int .i64 0)).set (i := 2) (v := .int .i64 0)).set (i := 3) (v := .int .i64 0)).set (i := 4) (v := .int .i64 0))
        clear he
        go_wp2
        (try simp only [Exit.inBlock, Exit.then])
        refine bodyPost_ret (v := .tuple #[.agg #[.int .i64 0, .int .i64 0, .int .i64 0, .int .i64 0, .int .i64 0], .int .i64 20]) ?rh rfl ⟨GlueR.mk _ _ _ _ _ _, HZ.out.r.r.toExt⟩
        case rh => unfold results; go_simp

end Go.Proofs.Yticljfpippbkkaa
