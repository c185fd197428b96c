/-
  Match of the program. Conditions: those that the theorem names.
-/
import Derived.Test.YtlbebcioabfbgaaMacP
import Derived.Test.YtlbebcioabfbgaaMacQ
import Derived.Test.YtlbebcioabfbgaaMacR
import Derived.Test.YtlbebcioabfbgaaMacS
import Derived.Deep.DeepCutAuto
import Derived.Deep.CutBlock
import Derived.Deep.RegionLaw
namespace Go.Proofs.Ytlbebcioabfbgaa
open Go.RowKit Go.Sp
variable {W w w' : World} {F : HProp}

def MatchPost (w : World) (r : Except Int (List (List Tok) × Nat)) (e : Ending) (w' : World) : Prop :=
  match r with
  | .ok x => ∃ v us, e = .returned (.tuple #[v, .int .i64 x.2, .int .i64 0]) ∧ us.length = x.1.length ∧ Sat w (rowUU v us x.1 * own w) w'
  | .error k => e = .returned (.tuple #[.slice none 0 0, .int .i64 0, .int .i64 k]) ∧ Sat w (own w) w'

theorem MatchPost.no {r : Except Int (List (List Tok) × Nat)} {k : Int} (h : r = .error k) (hs : Sat w (own w) w') : MatchPost w r (.returned (.tuple #[.slice none 0 0, .int .i64 0, .int .i64 k])) w' := by subst h; exact ⟨rfl, hs⟩

theorem Sat.alloc4 (h : Sat W F w) (o1 o2 o3 o4 : Obj) : ∃ b c4 c5 c6 : Nat, w.heap.size = b ∧ w.heap.size + 1 = c4 ∧ w.heap.size + 1 + 1 = c5 ∧ w.heap.size + 1 + 1 + 1 = c6 ∧
    Sat W (pts b o1 * (pts c4 o2 * (pts c5 o3 * (pts c6 o4 * F)))) ((((w.alloc o1).alloc o2).alloc o3).alloc o4) := by
  refine ⟨_, _, _, _, rfl, rfl, rfl, rfl, ?_⟩
  have e1 : (w.alloc o1).heap.size = w.heap.size + 1 := by simp
  have e2 : ((w.alloc o1).alloc o2).heap.size = w.heap.size + 1 + 1 := by simp
  have e3 : (((w.alloc o1).alloc o2).alloc o3).heap.size = w.heap.size + 1 + 1 + 1 := by simp
  have h4 := (((h.alloc o1).alloc o2).alloc o3).alloc o4
  rw [e3, e2, e1] at h4
  exact h4.of_eq (by ac_rfl)

theorem Sat.res {c4 c5 c6 : Nat} {va vu ve : Value} (h : Sat W (pts c4 (.cells #[va] 39 (0, 0)) * (pts c5 (.cells #[vu] 3 (0, 0)) * (pts c6 (.cells #[ve] 26 (0, 0)) * F))) w) :
    (w.cell? ⟨c4, 0, none⟩ = some va ∧ w.cell? ⟨c5, 0, none⟩ = some vu ∧ w.cell? ⟨c6, 0, none⟩ = some ve) ∧ (w.frozen? ⟨c4, 0, none⟩ = false ∧ w.frozen? ⟨c5, 0, none⟩ = false ∧ w.frozen? ⟨c6, 0, none⟩ = false) ∧
    (c4 ≠ c5 ∧ c5 ≠ c6 ∧ c4 ≠ c6) ∧ c4 < w.heap.size ∧ c5 < w.heap.size ∧ c6 < w.heap.size ∧
    ∀ va' vu' ve', Sat W (Res c4 c5 c6 va' vu' ve' * F) (((w.setCell ⟨c4, 0, none⟩ va').setCell ⟨c5, 0, none⟩ vu').setCell ⟨c6, 0, none⟩ ve') := by
  refine ⟨⟨h.cell rfl, h.r.cell rfl, h.r.r.cell rfl⟩, ⟨h.free, h.r.free, h.r.r.free⟩, ⟨h.ne, h.r.ne, ?_⟩, h.lt, h.r.lt, h.r.r.lt, fun va' vu' ve' => ?_⟩
  · exact (h.of_eq (show _ = pts c4 (.cells #[va] 39 (0, 0)) * (pts c6 (.cells #[ve] 26 (0, 0)) * (pts c5 (.cells #[vu] 3 (0, 0)) * F)) by ac_rfl)).ne
  · have g1 := (h.set (i := 0) (v := va')).rot
    have g2 := (g1.set (i := 0) (v := vu')).of_eq (show _ = pts c6 (.cells #[ve] 26 (0, 0)) * (pts c4 (.cells #[va'] 39 (0, 0)) * (pts c5 (.cells #[vu'] 3 (0, 0)) * F)) by simp; ac_rfl)
    exact (g2.set (i := 0) (v := ve')).of_eq (by unfold Res; simp; ac_rfl)

/-- what stands beside the matcher -/
abbrev StF (w : World) (bm c4 c5 c6 : Nat) (mo : Obj) (va : Value) (us : List Value) (acc : List (List Tok)) : HProp :=
  pts bm mo * (pts c4 (.cells #[va] 39 (0, 0)) * (pts c5 (.cells #[.int .i64 0] 3 (0, 0)) * (pts c6 (.cells #[.int .i64 0] 26 (0, 0)) * (rowUU va us acc * own w))))

theorem row_nil_eq {e : TypeId} {size : Nat} : row (.slice none 0 0) 0 e size [] = emp :=
  HProp.ext fun x => ⟨fun h => by
    rcases h.2 with ⟨_, _, h⟩ | ⟨g, cap, cur, h, _⟩
    · exact h
    · simp at h, fun h => ⟨by simp, .inl ⟨rfl, rfl, h⟩⟩⟩

theorem rowUU_nil : rowUU (.slice none 0 0) [] [] * F = F := by
  unfold rowUU
  rw [show ([] : List (List Tok)).length = 0 from rfl, row_nil_eq, emp_star]
  exact emp_star

theorem StF.res {w' : World} {bm c4 c5 c6 : Nat} {mo : Obj} {va : Value} {us : List Value} {acc : List (List Tok)} {A : HProp} (h : Sat w (A * StF w bm c4 c5 c6 mo va us acc) w') :
    Sat w (Res c4 c5 c6 va (.int .i64 0) (.int .i64 0) * (A * (pts bm mo * (rowUU va us acc * own w)))) w' := h.of_eq (by unfold Res StF; ac_rfl)

theorem Res.parts {w' : World} {c4 c5 c6 : Nat} {a b c : Value} (h : Sat W (Res c4 c5 c6 a b c * F) w') :
    Sat W (pts c4 (.cells #[a] 39 (0, 0)) * (pts c5 (.cells #[b] 3 (0, 0)) * (pts c6 (.cells #[c] 26 (0, 0)) * F))) w' := h.of_eq (by unfold Res; ac_rfl)

theorem StF.ne {w' : World} {b bm c4 c5 c6 : Nat} {mo o : Obj} {va : Value} {us : List Value} {acc : List (List Tok)} (h : Sat w (pts b o * StF w bm c4 c5 c6 mo va us acc) w') : b ≠ c4 ∧ b ≠ c5 ∧ b ≠ c6 := by
  refine ⟨(h.of_eq (show _ = pts b o * (pts c4 (.cells #[va] 39 (0, 0)) * (pts bm mo * (pts c5 (.cells #[.int .i64 0] 3 (0, 0)) * (pts c6 (.cells #[.int .i64 0] 26 (0, 0)) * (rowUU va us acc * own w))))) by unfold StF; ac_rfl)).ne,
    (h.of_eq (show _ = pts b o * (pts c5 (.cells #[.int .i64 0] 3 (0, 0)) * (pts bm mo * (pts c4 (.cells #[va] 39 (0, 0)) * (pts c6 (.cells #[.int .i64 0] 26 (0, 0)) * (rowUU va us acc * own w))))) by unfold StF; ac_rfl)).ne,
    (h.of_eq (show _ = pts b o * (pts c6 (.cells #[.int .i64 0] 26 (0, 0)) * (pts bm mo * (pts c4 (.cells #[va] 39 (0, 0)) * (pts c5 (.cells #[.int .i64 0] 3 (0, 0)) * (rowUU va us acc * own w))))) by unfold StF; ac_rfl)).ne⟩

theorem parts_more {P : List Tok} {i j : Nat} (hij : i ≤ j) (h : j < P.length) (hc : P[j].cat ≠ 17) (e : parts (P.drop i) = ((P.drop i).take (j - i) ++ (parts (P.drop j)).1, (parts (P.drop j)).2)) :
    parts (P.drop i) = ((P.drop i).take (j + 1 - i) ++ (parts (P.drop (j + 1))).1, (parts (P.drop (j + 1))).2) := by
  have e2 : (P.drop i).take (j + 1 - i) = (P.drop i).take (j - i) ++ [P[j]] := by
    rw [show j + 1 - i = (j - i) + 1 by omega, List.take_succ_eq_append_getElem (by rw [List.length_drop]; omega), List.getElem_drop]
    congr 3
    omega
  rw [e, e2, parts_plain j h hc, List.append_assoc]
  rfl

theorem preM_zero : ∀ (D S : List Tok), preM D S = 0 → D.length ≤ S.length := by
  intro D
  induction D with
  | nil => intro S _; simp
  | cons x D ih =>
    intro S h
    cases S with
    | nil => simp [preM] at h
    | cons y S =>
      rw [preM] at h
      split at h
      · have := ih _ h; simpa using this
      · simp at h

theorem rd_new (w : World) (u : Value) (e : TypeId) : Rd (w.alloc (.cells #[u] e)) (.slice (some ⟨w.heap.size, 0, none⟩) 1 1) 1 1 [u] := by
  refine ⟨rfl, by simp [maxLen], _, _, rfl, fun j v hv => ⟨_, _, rfl, ?_⟩⟩
  have := new_cells w #[u] e j v (by simpa using hv)
  rw [Addr.add_lit] at this
  exact this

theorem argsStep {w w2 : World} {b bm c4 c5 c6 : Nat} {mo uo : Obj} {va vo v1 : Value} {us : List Value} {acc : List (List Tok)} {X : List Tok} (hl : us.length = acc.length)
    (h : Sat w (row va (acc.length + 1) 22 1 (us ++ [v1]) * (row v1 X.length 46 3 (flat X) * (rows us acc * (pts b uo * (pts bm mo * (pts c4 (.cells #[vo] 39 (0, 0)) * (pts c5 (.cells #[.int .i64 0] 3 (0, 0)) * (pts c6 (.cells #[.int .i64 0] 26 (0, 0)) * own w)))))))) w2) :
    Sat w (pts b uo * StF w bm c4 c5 c6 mo va (us ++ [v1]) (acc ++ [X])) (w2.setCell ⟨c4, 0, none⟩ va) := by
  have e : rows (us ++ [v1]) (acc ++ [X]) = rows us acc * rowT v1 X := rows_snoc us acc v1 X hl
  have h2 := h.of_eq (show _ = pts c4 (.cells #[vo] 39 (0, 0)) * (row va (acc.length + 1) 22 1 (us ++ [v1]) * (row v1 X.length 46 3 (flat X) * (rows us acc * (pts b uo * (pts bm mo * (pts c5 (.cells #[.int .i64 0] 3 (0, 0)) * (pts c6 (.cells #[.int .i64 0] 26 (0, 0)) * own w))))))) by ac_rfl)
  refine (h2.set (i := 0) (v := va)).of_eq ?_
  unfold StF rowUU
  rw [e, List.length_append, rowT]
  simp only [Array.setIfInBounds, List.length_singleton]
  simp
  ac_rfl

/-- at a place, or at the end -/
def Stop (P : List Tok) (k : Nat) : Prop := k = P.length ∨ ∃ h : k < P.length, P[k].cat = 17


set_option maxRecDepth 100000 in
set_option maxHeartbeats 8000000 in
theorem match_any (P B L : List Tok) (vp vb vl : Value) (long : Bool) (w : World) (hp : RdT w vp P) (hb : RdT w vb B) (hl : RdT w vl L) (hnP : P.length ≤ 4000000000) (hnB : B.length ≤ 4000000000) (hnL : L.length ≤ 4000000000) :
    Calls Try.prog 20 #[.agg #[vp, vb, .bool long], vl] w (MatchPost w (matchM P B long L)) := by
  have hmf : ∀ (fn : Fn) (first cap : Array Value) (w : World), (Instr.makeFunc fn first cap).run Try.prog w = .ok (.func fn first cap) w := fun _ _ _ _ => rfl
  obtain ⟨i0, hi, hz0, hz1, hz2⟩ := info_parts info_tok
  obtain ⟨j0, hj, hy0, hy1, hy2⟩ := info_parts info_sl
  have HI := Lib.hid hi
  have HZ0 := Lib.hid hz0
  have HZ1 := Lib.hid hz1
  have HZ2 := Lib.hid hz2
  have HJ := Lib.hid hj
  have HY0 := Lib.hid hy0
  have HY1 := Lib.hid hy1
  have HY2 := Lib.hid hy2
  clear hi hz0 hz1 hz2 hj hy0 hy1 hy2
  obtain ⟨r, hr⟩ : ∃ r, matchM P B long L = r := ⟨_, rfl⟩
  obtain ⟨np, hnp⟩ : ∃ np, P.length = np := ⟨_, rfl⟩
  obtain ⟨nl, hnl⟩ : ∃ nl, L.length = nl := ⟨_, rfl⟩
  rw [hr]
  obtain ⟨ap, cp, hvp, hcp⟩ := hp.capd
  obtain ⟨al, cl, hvl, hcl⟩ := hl.capd
  have HR := Lib.hid hr
  have HP := Lib.hid hp
  have HB := Lib.hid hb
  have HL := Lib.hid hl
  have HNP := Lib.hid hnP
  have HNB := Lib.hid hnB
  have HNL := Lib.hid hnL
  have NP := Lib.hid hnp
  have NL := Lib.hid hnl
  rw [hnp] at hvp hcp hnP
  rw [hnl] at hvl hcl hnL
  clear hr hp hb hl hnp hnl hnB
  subst hvp hvl
  obtain ⟨bm, c4, c5, c6, e1, e2, e3, e4, h1⟩ := Sat.alloc4 (Sat.start w) (.cells #[.slice ap np cp, vb, .bool long] 25) (.cells #[.slice none 0 0] 39) (.cells #[.int .i64 0] 3) (.cells #[.int .i64 0] 26)
  have H1 := Lib.hid h1
  have HX1 := Lib.hid (show Ext w ((((w.alloc (.cells #[.slice ap np cp, vb, .bool long] 25)).alloc (.cells #[.slice none 0 0] 39)).alloc (.cells #[.int .i64 0] 3)).alloc (.cells #[.int .i64 0] 26)) from (Ext.refl _).alloc.alloc.alloc.alloc)
  have E1 := Lib.hid e1
  have E2 := Lib.hid e2
  have E3 := Lib.hid e3
  have E4 := Lib.hid e4
  clear h1 e1 e2 e3 e4
  go_enter_defers Try.func20, Try.ntmps20
  go_wp2_with fail
  refine Calls.mono (check_any P B _ _ long _ (HP.out.ext HX1.out) (HB.out.ext HX1.out) HNP.out HNB.out) ?_
  rintro e w1 ⟨rfl, hx⟩
  rw [E4.out, E3.out, E2.out, E1.out]
  have HS1 := Lib.hid (H1.out.ext hx)
  clear hx E1 E2 E3 E4
  have h5 := HS1.out
  have m0 := h5.cell (i := 0) rfl
  have m1 := h5.cell (i := 1) rfl
  have m2 := h5.cell (i := 2) rfl
  have lm := h5.lt
  clear h5
  obtain ⟨⟨a0, a1, a2⟩, ⟨f0, f1, f2⟩, ⟨n01, n12, n02⟩, l0, l1, l2, hst⟩ := Sat.res HS1.out.r
  have HST := Lib.hid hst
  clear hst
  cases hck : check P B
  · have HE := Lib.hid (show r = .error 170 by rw [← HR.out]; exact match_170 hck)
    rw [checkE_no hck]
    clear hck
    go_wp2
    refine ⟨.tuple #[.slice none 0 0, .int .i64 0, .int .i64 170], by unfold results; go_simp, MatchPost.no HE.out (HST.out _ _ _).r⟩
  rw [checkE_yes hck]
  by_cases h6 : 20000 < nl
  · have HE := Lib.hid (show r = .error 6 by rw [← HR.out]; exact match_6 hck (by rw [NL.out]; exact h6))
    have h6' : (20000 : Int) < (nl : Int) := by omega
    clear hck h6
    go_wp2
    refine ⟨.tuple #[.slice none 0 0, .int .i64 0, .int .i64 6], by unfold results; go_simp, MatchPost.no HE.out (HST.out _ _ _).r⟩
  have h6' : ¬ (20000 : Int) < (nl : Int) := by omega
  have HCK := Lib.hid hck
  have H6 := Lib.hid (show ¬ 20000 < L.length by rw [NL.out]; exact h6)
  clear hck h6
  clear a0 a1 a2 f0 f1 f2 m0 m1 m2 lm l0 l1 l2 HST
  go_wp2
  go_loopw [24] (fun i wr => ∃ k : Nat, k ≤ nl ∧ i = .int .i64 k ∧ (L.drop k).all rightB = L.all rightB ∧ Sat w (pts bm (.cells #[.slice ap np cp, vb, .bool long] 25 (0, 0)) * (pts c4 (.cells #[.slice none 0 0] 39 (0, 0)) * (pts c5 (.cells #[.int .i64 0] 3 (0, 0)) * (pts c6 (.cells #[.int .i64 0] 26 (0, 0)) * own w)))) wr) (fun i _ => nl - (intOf i).toNat)
  case atStart => exact ⟨0, by omega, rfl, rfl, HS1.out⟩
  case round =>
    obtain ⟨k, hk, rfl, ha, hx⟩ := hrel
    have HA := Lib.hid ha
    have HX := Lib.hid hx
    clear ha hx
    by_cases hlt : k < nl
    · have hlt' : k < L.length := by rw [NL.out]; exact hlt
      obtain ⟨b', off, hab, ⟨d0, d1, d2⟩, hb'⟩ := (HL.out.ext HX.out.r.r.r.r.toExt).at hlt'
      cases hab
      have HT := Lib.hid (allQ L rightB k hlt')
      generalize L[k] = t at *
      have lt2 : (k : Int) < (nl : Int) := by omega
      obtain ⟨⟨a0, a1, a2⟩, ⟨f0, f1, f2⟩, ⟨n01, n12, n02⟩, l0, l1, l2, hst⟩ := Sat.res HX.out.r
      have HST := Lib.hid hst
      clear hst
      cases hrt : rightB t
      · have HE := Lib.hid (show r = .error 160 by rw [← HR.out]; exact match_160 HCK.out H6.out (by rw [← HA.out, HT.out, hrt]; rfl))
        go_wp2_with (go_at_call 38; with_reducible refine Calls.mono (right_any _ _) ?_; rintro e w' ⟨rfl, rfl⟩)
        refine ⟨.tuple #[.slice none 0 0, .int .i64 0, .int .i64 160], by unfold results; go_simp, MatchPost.no HE.out (HST.out _ _ _).r.allocD.allocD⟩
      · go_wp2_with (go_at_call 38; with_reducible refine Calls.mono (right_any _ _) ?_; rintro e w' ⟨rfl, rfl⟩)
        go_roundw
        case rel => exact ⟨k + 1, by omega, by go_num, by rw [← HA.out, HT.out, hrt, Bool.true_and], HX.out.allocD.allocD⟩
        case measure => simp [intOf]; omega
    · have hkn : nl = k := by omega
      subst hkn
      have HAL := Lib.hid (show L.all rightB = true by rw [← HA.out, List.drop_of_length_le (by rw [NL.out]; omega)]; rfl)
      have h5 := HX.out
      have m0 := h5.cell (i := 0) rfl
      have m1 := h5.cell (i := 1) rfl
      have m2 := h5.cell (i := 2) rfl
      have lm := h5.lt
      clear h5
      have HU0 := HX.out.alloc (useO (.slice ap np cp) vb long (.slice al nl cl) 0)
      obtain ⟨bu, hbu⟩ : ∃ bu, wr.heap.size = bu := ⟨_, rfl⟩
      have HU := Lib.hid (show Sat w (pts bu (useO (.slice ap np cp) vb long (.slice al nl cl) 0) * StF w bm c4 c5 c6 (.cells #[.slice ap np cp, vb, .bool long] 25) (.slice none 0 0) [] []) (wr.alloc (useO (.slice ap np cp) vb long (.slice al nl cl) 0)) from hbu ▸ HU0.of_eq (by simp only [StF, rowUU_nil]))
      have HBU := Lib.hid hbu
      clear HU0 hbu
      go_upto_block 2 with fail
      rw [HBU.out]
      clear m0 m1 m2 lm
      go_cut [11] from 37 to 52 (fun s11 wx => ∃ k : Nat, k ≤ np ∧ s11 = .int .i64 k ∧ parts P = (P.take k ++ (parts (P.drop k)).1, (parts (P.drop k)).2) ∧ Stop P k ∧ Sat w (pts bu (useO (.slice ap np cp) vb long (.slice al nl cl) 0) * StF w bm c4 c5 c6 (.cells #[.slice ap np cp, vb, .bool long] 25) (.slice none 0 0) [] []) wx)
      case first =>
        go_wp2_with fail
        go_loopg [11] np (fun g s11 wx => ∃ k : Nat, k ≤ np ∧ g = np - k ∧ s11 = .int .i64 k ∧ parts P = (P.take k ++ (parts (P.drop k)).1, (parts (P.drop k)).2) ∧ Sat w (pts bu (useO (.slice ap np cp) vb long (.slice al nl cl) 0) * StF w bm c4 c5 c6 (.cells #[.slice ap np cp, vb, .bool long] 25) (.slice none 0 0) [] []) wx)
        case atStart => exact ⟨0, by omega, rfl, rfl, by simp, HU.out⟩
        case round =>
          obtain ⟨k, hk, rfl, rfl, ha, hx⟩ := hrel
          have HA2 := Lib.hid ha
          have HX2 := Lib.hid hx
          clear ha hx
          have hst := HX2.out.r
          have m0 := hst.cell (i := 0) rfl
          have lm := hst.lt
          clear hst
          by_cases hlt2 : k < np
          · have hlt2' : k < P.length := by rw [NP.out]; exact hlt2
            obtain ⟨b', off, hab, ⟨d0, d1, d2⟩, hb'⟩ := (HP.out.ext HX2.out.r.r.r.r.r.r.toExt).at hlt2'
            cases hab
            by_cases h17 : P[k].cat = 17
            · have q1 : (P[k].cat == 17) = true := by simp [h17]
              have q2 : (P[k].cat != 17) = false := by simp [h17]
              have HSTP := Lib.hid (show Stop P k from .inr ⟨hlt2', h17⟩)
              generalize P[k] = t at *
              clear h17
              have lt3 : (k : Int) < (np : Int) := by omega
              go_wp2
              go_meet
              exact ⟨k, hk, rfl, HA2.out, HSTP.out, HX2.out⟩
            · have q1 : (P[k].cat == 17) = false := by simp [h17]
              have q2 : (P[k].cat != 17) = true := by simp [h17]
              have HA3 := Lib.hid (show parts P = (P.take (k + 1) ++ (parts (P.drop (k + 1))).1, (parts (P.drop (k + 1))).2) by
                rw [HA2.out, parts_plain k hlt2' h17, List.take_succ_eq_append_getElem hlt2', List.append_assoc]; rfl)
              generalize P[k] = t at *
              clear h17
              have lt3 : (k : Int) < (np : Int) := by omega
              go_wp2
              go_roundg (np - (k + 1))
              case measure => omega
              case rel => exact ⟨k + 1, by omega, rfl, by go_num, HA3.out, HX2.out⟩
          · have hkn : np = k := by omega
            subst hkn
            go_wp2
            go_meet
            exact ⟨np, hk, rfl, HA2.out, .inl NP.out.symm, HX2.out⟩
      case rest =>
        obtain ⟨k, hk, rfl, hpt, hstop, hx⟩ := hcut
        have HPT := Lib.hid hpt
        have HSTP := Lib.hid hstop
        have HX2 := Lib.hid hx
        clear hpt hstop hx
        have HD1 := Lib.hid (show (parts P).1 = P.take k by rw [HPT.out]; simp only [parts_stop HSTP.out, List.append_nil])
        have HD2 := Lib.hid (show (parts P).2 = (parts (P.drop k)).2 by rw [HPT.out])
        have hkl : (P.take k).length = k := by rw [List.length_take, NP.out]; omega
        have HKL := Lib.hid hkl
        have hEX := exactly_any (.slice ap np cp) vb (.slice al nl cl) (.slice ap k cp) long L (P.take k) bu 0 HX2.out (fun w' h => HL.out.ext h.r.r.r.r.r.toExt) (fun w' h => (HP.out.ext h.r.r.r.r.r.toExt).take (by rw [NP.out]; exact hk)) (Nat.zero_le _)
        rw [hkl, List.drop_zero] at hEX
        obtain ⟨pr, hpr⟩ : ∃ pr, preM (P.take k) L = pr := ⟨_, rfl⟩
        rw [hpr] at hEX
        have HEX := Lib.hid hEX
        have HPR := Lib.hid hpr
        have hst := HX2.out.r
        have m0 := hst.cell (i := 0) rfl
        have m1 := hst.cell (i := 1) rfl
        have m2 := hst.cell (i := 2) rfl
        have lm := hst.lt
        have kcp : (k : Int) ≤ (cp : Int) := by omega
        clear hst hkl hEX hpr
        go_wp2_with fail
        refine Calls.mono HEX.out ?_
        rintro e w2 hex
        by_cases hp0 : pr = 0
        · rw [ExPost, if_pos hp0] at hex
          obtain ⟨rfl, hex⟩ := hex
          rw [Nat.zero_add] at hex
          have HX3 := Lib.hid hex
          have HRG := Lib.hid (show r = argsAt long [] k (parts (P.drop k)).2 (L.drop k) by
            rw [← HR.out, match_rest HCK.out H6.out HAL.out (by rw [HD1.out, HPR.out, hp0]), HD1.out, HD2.out, HKL.out]; rfl)
          have HKN := Lib.hid (show k ≤ nl by have := preM_zero (P.take k) L (by rw [HPR.out, hp0]); rw [HKL.out, NL.out] at this; exact this)
          clear hex m0 m1 m2 lm hp0
          go_wp2_with fail
          go_loopg [11] (np - k) (fun g s11 wx => ∃ (i at_ : Nat) (va : Value) (us : List Value) (acc : List (List Tok)), i ≤ np ∧ g = np - i ∧ s11 = .int .i64 i ∧ Stop P i ∧ at_ ≤ nl ∧ us.length = acc.length ∧ acc.length ≤ i ∧
            argsAt long acc at_ (parts (P.drop i)).2 (L.drop at_) = r ∧
            Sat w (pts bu (useO (.slice ap np cp) vb long (.slice al nl cl) at_) * StF w bm c4 c5 c6 (.cells #[.slice ap np cp, vb, .bool long] 25) va us acc) wx)
          case atStart => exact ⟨k, k, .slice none 0 0, [], [], hk, rfl, rfl, HSTP.out, HKN.out, rfl, by simp, HRG.out.symm, HX3.out⟩
          case round =>
            obtain ⟨i, at_, va, us, acc, hi, rfl, rfl, hst, hat, hul, hai, ha, hx⟩ := hrel
            have HST := Lib.hid hst
            have HUL := Lib.hid hul
            have HA3 := Lib.hid ha
            have HX4 := Lib.hid hx
            clear hst hul ha hx
            obtain ⟨nb4, nb5, nb6⟩ := StF.ne HX4.out
            obtain ⟨-, -, -, ⟨xa, xc, rfl, -⟩, -⟩ := rowUU_rd HUL.out HX4.out.r.r.r.r.r
            by_cases hlt3 : i < np
            · have hlt3' : i < P.length := by rw [NP.out]; exact hlt3
              have h17 : P[i].cat = 17 := by
                rcases HST.out with h | ⟨_, h⟩
                · omega
                · exact h
              have HPA := Lib.hid (show (parts (P.drop i)).2 = (parts (P.drop (i + 1))).1 :: (parts (P.drop (i + 1))).2 by rw [parts_place i hlt3' h17])
              clear h17
              have hst := HX4.out.r
              have m0 := hst.cell (i := 0) rfl
              have lm := hst.lt
              clear hst
              have lt5 : (i : Int) < (np : Int) := by omega
              go_upto_block 6 with fail
              go_cut [12] from 66 to 81 (fun s12 wx => ∃ j : Nat, i + 1 ≤ j ∧ j ≤ np ∧ s12 = .int .i64 j ∧ parts (P.drop (i + 1)) = ((P.drop (i + 1)).take (j - (i + 1)) ++ (parts (P.drop j)).1, (parts (P.drop j)).2) ∧ Stop P j ∧
                Sat w (pts bu (useO (.slice ap np cp) vb long (.slice al nl cl) at_) * StF w bm c4 c5 c6 (.cells #[.slice ap np cp, vb, .bool long] 25) (.slice xa acc.length xc) us acc) wx)
              case first =>
                clear m0 lm
                go_wp2_with fail
                go_loopg [12] (np - (i + 1)) (fun g s12 wx => ∃ j : Nat, i + 1 ≤ j ∧ j ≤ np ∧ g = np - j ∧ s12 = .int .i64 j ∧ parts (P.drop (i + 1)) = ((P.drop (i + 1)).take (j - (i + 1)) ++ (parts (P.drop j)).1, (parts (P.drop j)).2) ∧
                  Sat w (pts bu (useO (.slice ap np cp) vb long (.slice al nl cl) at_) * StF w bm c4 c5 c6 (.cells #[.slice ap np cp, vb, .bool long] 25) (.slice xa acc.length xc) us acc) wx)
                case atStart => exact ⟨i + 1, Nat.le_refl _, by omega, rfl, by go_num, by simp, HX4.out⟩
                case round =>
                  obtain ⟨j, hj1, hj2, rfl, rfl, ha, hx⟩ := hrel
                  have HA5 := Lib.hid ha
                  have HX5 := Lib.hid hx
                  clear ha hx
                  have hst := HX5.out.r
                  have m0 := hst.cell (i := 0) rfl
                  have lm := hst.lt
                  clear hst
                  by_cases hlt6 : j < np
                  · have hlt6' : j < P.length := by rw [NP.out]; exact hlt6
                    obtain ⟨b', off, hab, ⟨d0, d1, d2⟩, hb'⟩ := (HP.out.ext HX5.out.r.r.r.r.r.r.toExt).at hlt6'
                    cases hab
                    have lt3 : (j : Int) < (np : Int) := by omega
                    by_cases h17 : P[j].cat = 17
                    · have q1 : (P[j].cat == 17) = true := by simp [h17]
                      have q2 : (P[j].cat != 17) = false := by simp [h17]
                      have HSTP := Lib.hid (show Stop P j from .inr ⟨hlt6', h17⟩)
                      generalize P[j] = t at *
                      clear h17
                      go_wp2
                      go_meet
                      exact ⟨j, hj1, hj2, rfl, HA5.out, HSTP.out, HX5.out⟩
                    · have q1 : (P[j].cat == 17) = false := by simp [h17]
                      have q2 : (P[j].cat != 17) = true := by simp [h17]
                      have HA6 := Lib.hid (parts_more hj1 hlt6' h17 HA5.out)
                      generalize P[j] = t at *
                      clear h17
                      go_wp2
                      go_roundg (np - (j + 1))
                      case measure => omega
                      case rel => exact ⟨j + 1, by omega, by omega, rfl, by go_num, HA6.out, HX5.out⟩
                  · have hkn : np = j := by omega
                    subst hkn
                    go_wp2
                    go_meet
                    exact ⟨np, hj1, hj2, rfl, HA5.out, .inl NP.out.symm, HX5.out⟩
              case rest =>
                obtain ⟨j, hj1, hj2, rfl, hpt, hstop, hx⟩ := hcut
                have HX5 := Lib.hid hx
                have HS5 := Lib.hid hstop
                obtain ⟨D, hD⟩ : ∃ D, (P.drop (i + 1)).take (j - (i + 1)) = D := ⟨_, rfl⟩
                have hDl : D.length = j - (i + 1) := by rw [← hD, List.length_take, List.length_drop, NP.out]; omega
                have HDS := Lib.hid (show (parts (P.drop i)).2 = D :: (parts (P.drop j)).2 by rw [HPA.out, hpt]; simp only [parts_stop hstop, List.append_nil, hD])
                have HD := Lib.hid hD
                have HDL := Lib.hid hDl
                clear hpt hstop hx hD hDl m0 lm
                obtain ⟨ar, har⟩ : ∃ ar, argM long D (L.drop at_) = ar := ⟨_, rfl⟩
                have HAR := Lib.hid har
                clear har
                have hst := HX5.out.r
                have m0 := hst.cell (i := 0) rfl
                have lm := hst.lt
                clear hst
                go_upto_if 85 with fail
                go_cut [13] from 82 to 95 (fun s13 wx => ∃ x : List Tok × Nat, ar = .ok x ∧ View (.slice al nl cl) L s13 x.1 ∧ Sat w (pts bu (useO (.slice ap np cp) vb long (.slice al nl cl) (at_ + x.2)) * StF w bm c4 c5 c6 (.cells #[.slice ap np cp, vb, .bool long] 25) (.slice xa acc.length xc) us acc) wx)
                case first =>
                  by_cases hji : j = i + 1
                  · have q1 : ((j : Int) == (i : Int) + 1) = true := by rw [beq_iff_eq]; omega
                    have HPL := Lib.hid (plain_any (.slice ap np cp) vb (.slice al nl cl) long L bu at_ HX5.out (fun w' h => HL.out.ext h.r.r.r.r.r.toExt) (by rw [NL.out]; exact hat) HNL.out)
                    have HPE := Lib.hid (show plainM long (L.drop at_) = ar by rw [← HAR.out, argM, if_pos (List.eq_nil_of_length_eq_zero (by rw [HDL.out]; omega))])
                    clear hji
                    go_wp2_with fail
                    refine Calls.mono HPL.out ?_
                    rintro e w3 hex
                    rw [HPE.out] at hex
                    cases ar with
                    | error k =>
                      obtain ⟨rfl, jj, hex⟩ := hex
                      have HE := Lib.hid (show r = .error k by rw [← HA3.out, HDS.out]; exact argsAt_no HAR.out)
                      refine leaves_cons (f := 46) (args := #[.pointer (some ⟨c4, 0, none⟩), .pointer (some ⟨c5, 0, none⟩), .pointer (some ⟨c6, 0, none⟩)]) (by simp) (by simp [go_sem]) ?_
                      refine (catch_panic c4 c5 c6 _ _ _ k _ [] (StF.res hex)).mono ?_
                      rintro e u' w'' ⟨rfl, rfl, h9⟩
                      obtain ⟨⟨a0, a1, a2⟩, -⟩ := Sat.res (Res.parts h9)
                      refine ⟨.tuple #[.slice none 0 0, .int .i64 0, .int .i64 k], by unfold results; go_simp, MatchPost.no HE.out h9.r.r.r.r⟩
                    | ok x =>
                      obtain ⟨v, rfl, hv, hs⟩ := hex
                      have HV := Lib.hid hv
                      have HS := Lib.hid hs
                      clear hv hs
                      go_wp2
                      go_meet
                      exact ⟨x, rfl, HV.out, HS.out⟩
                  · have q1 : ((j : Int) == (i : Int) + 1) = false := by rw [beq_eq_false_iff_ne]; omega
                    have hi2 : i + 1 < np := by omega
                    obtain ⟨b', off, rfl, -, -⟩ := (HP.out).at (i := i + 1) (by rw [NP.out]; exact hi2)
                    have hdv := View.mid (b := b') (off := off) (c := cp) (i := i + 1) (m := j - (i + 1)) NP.out hi2 (by omega)
                    rw [HD.out] at hdv
                    have HPL := Lib.hid (delimited_any (.slice (some ⟨b', off, none⟩) np cp) vb (.slice al nl cl) (.slice (some ⟨b', off + (i + 1) * 3, none⟩) (j - (i + 1)) (cp - (i + 1))) long L D bu at_ HX5.out (fun w' h => HL.out.ext h.r.r.r.r.r.toExt) (fun w' h => hdv _ (HP.out.ext h.r.r.r.r.r.toExt)) (by rw [NL.out]; exact hat) HNL.out (by rw [HDL.out]; omega) (by rw [HDL.out]; omega))
                    have HPE := Lib.hid (show delM D long (L.drop at_) = ar by rw [← HAR.out, argM, if_neg (by intro h0; have := HDL.out; rw [h0] at this; simp at this; omega)])
                    have e1 : ((i : Int) + 1).toNat = i + 1 := by omega
                    have e2 : (i : Int) + 1 ≤ (j : Int) := by omega
                    have e3 : (j : Int) ≤ (cp : Int) := by omega
                    clear hji hdv
                    go_wp2_with fail
                    refine Calls.mono HPL.out ?_
                    rintro e w3 hex
                    rw [HPE.out] at hex
                    cases ar with
                    | error k =>
                      obtain ⟨rfl, jj, hex⟩ := hex
                      have HE := Lib.hid (show r = .error k by rw [← HA3.out, HDS.out]; exact argsAt_no HAR.out)
                      refine leaves_cons (f := 46) (args := #[.pointer (some ⟨c4, 0, none⟩), .pointer (some ⟨c5, 0, none⟩), .pointer (some ⟨c6, 0, none⟩)]) (by simp) (by simp [go_sem]) ?_
                      refine (catch_panic c4 c5 c6 _ _ _ k _ [] (StF.res hex)).mono ?_
                      rintro e u' w'' ⟨rfl, rfl, h9⟩
                      obtain ⟨⟨a0, a1, a2⟩, -⟩ := Sat.res (Res.parts h9)
                      refine ⟨.tuple #[.slice none 0 0, .int .i64 0, .int .i64 k], by unfold results; go_simp, MatchPost.no HE.out h9.r.r.r.r⟩
                    | ok x =>
                      obtain ⟨v, rfl, hv, hs⟩ := hex
                      have HV := Lib.hid hv
                      have HS := Lib.hid hs
                      clear hv hs
                      go_wp2
                      go_meet
                      exact ⟨x, rfl, HV.out, HS.out⟩
                case rest =>
                  obtain ⟨x, rfl, hview, hx⟩ := hcut
                  have HX6 := Lib.hid hx
                  have hle := argM_le HAR.out
                  rw [List.length_drop, NL.out] at hle
                  obtain ⟨hle1, hle2⟩ := hle
                  have HVW := Lib.hid (hview _ (HL.out.ext HX6.out.r.r.r.r.r.r.toExt.drew))
                  have HA7 := Lib.hid (show argsAt long (acc ++ [x.1]) (at_ + x.2) (parts (P.drop j)).2 (L.drop (at_ + x.2)) = r by rw [← HA3.out, HDS.out, argsAt_yes HAR.out, List.drop_drop])
                  obtain ⟨X, xn⟩ := x
                  simp only at hle1 hle2
                  clear hx hview m0 lm
                  have c40 := HX6.out.r.r.cell (i := 0) rfl
                  have l40 := HX6.out.r.r.lt
                  go_wp2_with fail
                  refine wp_region_noPanic ?_
                  go_region_law
                    (first
                      | (refine step_append_rd rfl _ _ 22 rfl i0 _ 32 Try.underlying22 HI.out HZ0.out HZ1.out HZ2.out rfl (by omega) rfl HX6.out.drew.row_nil _ X.length (flat X) rfl HVW.out.1 (flat_one X) ?_ ?_ ?_
                         · simp [maxLen]; omega
                         · omega
                         intro v1 w1 h7 _
                         simp only [Nat.zero_add, List.nil_append] at h7
                         obtain ⟨ya, yc, rfl, -⟩ := h7.row_val
                         have H7 := Lib.hid h7
                         have l41 := h7.r.r.r.lt
                         have c41 := h7.r.r.r.cell (i := 0) rfl
                         clear h7)
                      | (refine step_append_rd rfl _ _ 39 rfl j0 _ 24 Try.underlying39 HJ.out HY0.out HY1.out HY2.out rfl (by omega) rfl (H7.out.allocD.of_eq (show _ = row (.slice xa acc.length xc) acc.length 22 1 us * (row (.slice ya X.length yc) X.length 46 3 (flat X) * (rows us acc * (pts bu (useO (.slice ap np cp) vb long (.slice al nl cl) (at_ + xn)) * (pts bm (.cells #[.slice ap np cp, vb, .bool long] 25) * (pts c4 (.cells #[.slice xa acc.length xc] 39 (0, 0)) * (pts c5 (.cells #[.int .i64 0] 3 (0, 0)) * (pts c6 (.cells #[.int .i64 0] 26 (0, 0)) * own w))))))) by unfold StF rowUU; ac_rfl)) _ 1 [.slice ya X.length yc] rfl (rd_new w1 _ _) (by simp [Value.oneCell']) ?_ ?_ ?_
                         · simp [maxLen]; omega
                         · omega
                         intro v2 w2 h8 _
                         obtain ⟨za, zc, rfl, -⟩ := h8.row_val
                         have H8 := Lib.hid h8
                         have l42 := h8.r.r.r.r.r.lt
                         have c42 := h8.r.r.r.r.r.cell (i := 0) rfl
                         have f42 := h8.r.r.r.r.r.free (i := 0)
                         clear h8))
                  all_goals
                    refine NoPanic.normal ?_
                    go_wp2
                    go_roundg (np - j)
                    case measure => omega
                    case rel => exact ⟨j, at_ + xn, _, us ++ [.slice ya X.length yc], acc ++ [X], hj2, rfl, rfl, HS5.out, by omega, by simp [HUL.out], by simp; omega, HA7.out, argsStep HUL.out (H8.out.of_eq (by ac_rfl))⟩
            · have hkn : np = i := by omega
              subst hkn
              have HRE := Lib.hid (show r = .ok (acc, at_) by rw [← HA3.out, List.drop_of_length_le (by rw [NP.out]; omega)]; exact argsAt_nil acc at_ _)
              have hst := HX4.out.r
              have m0 := hst.cell (i := 0) rfl
              have lm := hst.lt
              have u4 := HX4.out.cell (i := 4) rfl
              have lu := HX4.out.lt
              obtain ⟨⟨a0, a1, a2⟩, ⟨f0, f1, f2⟩, ⟨n01, n12, n02⟩, l0, l1, l2, hst⟩ := Sat.res HX4.out.r.r
              have HST := Lib.hid hst
              clear hst
              go_wp2
              go_region
              go_wp2
              refine leaves_cons (f := 46) (args := #[.pointer (some ⟨c4, 0, none⟩), .pointer (some ⟨c5, 0, none⟩), .pointer (some ⟨c6, 0, none⟩)]) (by simp) (by simp [go_sem]) ?_
              refine (catch_idle c4 c5 c6 _).mono ?_
              rintro e u' w'' ⟨rfl, rfl, rfl⟩
              refine ⟨.tuple #[.slice xa acc.length xc, .int .i64 at_, .int .i64 0], by unfold results; go_simp, ?_⟩
              rw [HRE.out]
              exact ⟨.slice xa acc.length xc, us, rfl, HUL.out, (HST.out _ _ _).r.drew⟩
        · rw [ExPost, if_neg hp0] at hex
          obtain ⟨rfl, j, hex⟩ := hex
          have HE := Lib.hid (show r = .error pr by rw [← HR.out]; exact match_pre HCK.out H6.out HAL.out (by rw [HD1.out]; exact HPR.out) hp0)
          refine leaves_cons (f := 46) (args := #[.pointer (some ⟨c4, 0, none⟩), .pointer (some ⟨c5, 0, none⟩), .pointer (some ⟨c6, 0, none⟩)]) (by simp) (by simp [go_sem]) ?_
          refine (catch_panic c4 c5 c6 _ _ _ pr _ [] (StF.res hex)).mono ?_
          rintro e u' w'' ⟨rfl, rfl, h9⟩
          obtain ⟨⟨a0, a1, a2⟩, -⟩ := Sat.res (Res.parts h9)
          refine ⟨.tuple #[.slice none 0 0, .int .i64 0, .int .i64 pr], by unfold results; go_simp, MatchPost.no HE.out h9.r.r.r.r⟩

end Go.Proofs.Ytlbebcioabfbgaa
