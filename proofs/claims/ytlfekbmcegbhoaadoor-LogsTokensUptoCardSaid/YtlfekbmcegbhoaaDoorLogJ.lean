
/-
  The law LogsJoined, walked. Conditions: those that each theorem names.
-/
import Derived.Test.YtlfekbmcegbhoaaDoorLogI
import Derived.Deep.RegionLaw
namespace Go.Sp
open Go Go.RowKit
section
variable {W w w' : World} {A : HProp} {v : Value} {n : Nat} {e : TypeId} {size : Nat} {xs : List Value}
theorem step_append_rd {P : Program} {ops : Array Oper} {o : Oper} {ac : Act} {K : Act → World → Prop} {Q : Exit → Act → World → Prop} {E : Prop} (hgd : o.guard = none) (s x : Operand) (t : TypeId)
    (ho : o.op = .call { callee := .builtin .append, args := #[s, x], argTypes := #[t, t] })
    (i : TypeInfo) (z : Value) (bytes : Nat) (ht : P.underlying t = some (.slice e)) (hi : P.info? e = some i) (hz : i.zero = some z)
    (hsize : i.size = size) (hby : i.bytes = bytes) (hzs : z.cells.size = size) (hsz : 0 < size)
    (hs : ac.eval s = v) (h : Sat W (row v n e size xs * A) w)
    (u : Value) (m : Nat) (news : List Value) (hx : ac.eval x = u) (hr : Rd w u m size news) (h1 : ∀ u ∈ news, u.oneCell' = true)
    (h63 : n + m ≤ maxLen) (hbytes : (n + m) * bytes ≤ 140737488355328)
    (hK : ∀ v' w', Sat W (row v' (n + m) e size (xs ++ news) * A) w' → (v' = .slice none 0 0 ↔ v = .slice none 0 0 ∧ m = 0) → K (ac.put o.dst v') w') :
    if Region.wanted o (yielded ops ac.tmps) = true then Oper.wp P o ac w K Q else E := by
  rw [if_pos (by simp [Region.wanted, hgd])]
  have hr' := hr
  obtain ⟨hl, hm, a, c, rfl, hcell⟩ := hr'
  cases a with
  | some a =>
    obtain ⟨v', w', hrun, r1, r2⟩ := Sat.run_append (P := P) t o.type i z bytes ht hi hz hsize hby hzs h a m c news hl (fun j u hu => by
      obtain ⟨b, off, e1, e2⟩ := hcell j u hu
      cases e1
      rw [Addr.add_lit]; exact e2) h1 h63 hbytes
    unfold Oper.wp
    simp [execOp, ho, resolve, invoke, builtin, hs, hx, hrun, Result.andThen]
    exact hK _ _ r1 r2
  | none =>
    have hm0 : m = 0 := by
      rcases Nat.eq_zero_or_pos m with h0 | h0
      · exact h0
      · obtain ⟨b, off, cap, e1, _⟩ := hr.head h0 hsz
        cases e1
    subst hm0
    have hn : news = [] := List.eq_nil_of_length_eq_zero (by simpa using hl)
    subst hn
    unfold Oper.wp
    have key : ∃ b cap, v = .slice b n cap ∧ n ≤ cap := by
      obtain ⟨_, hc⟩ := h.row_cases
      rcases hc with ⟨rfl, rfl, _⟩ | ⟨g, cap, cur, rfl, hc, _⟩
      · exact ⟨none, 0, rfl, Nat.le_refl _⟩
      · exact ⟨_, cap, rfl, hc⟩
    obtain ⟨b, cap, rfl, hc⟩ := key
    simp [execOp, ho, resolve, invoke, builtin, hs, hx, run_append_empty (P := P) t o.type i ht hi w b n cap c hc, Result.andThen]
    have := hK (.slice b n cap) w (by simpa using h) (by simp)
    exact this

theorem step_load_row {P : Program} {ops : Array Oper} {o : Oper} {ac : Act} {K : Act → World → Prop} {Q : Exit → Act → World → Prop} {E : Prop} (hgd : o.guard = none) (ty : TypeId) (x : Operand) (ho : o.op = .load ty x)
    (g : Nat) (hx : ac.eval x = .pointer (some ⟨g, 0, none⟩)) (t : TypeId) (cs : Array Value) (fr : Nat × Nat) (d : TypeDesc) (hg : w.heap[g]? = some (.cells cs t fr))
    (hu : P.underlying ty = some d) (hd : (match d with | .struct _ | .array _ _ => true | _ => false) = true) (hi : (P.info? ty).map (·.size) = some cs.size)
    (h : K (ac.put o.dst (.agg cs)) w) : if Region.wanted o (yielded ops ac.tmps) = true then Oper.wp P o ac w K Q else E := by
  rw [if_pos (by simp [Region.wanted, hgd])]
  exact wp_load_row ty x ho g hx t cs fr d hg hu hd hi h
end
end Go.Sp

namespace Go.Proofs.YtlfekbmcegbhoaaDoor
open Go.RowKit Go.Sp
variable {W w w' : World} {F F' : HProp}


/-- what Tokens answers -/
def tokR (C : List Int) (L : List Tok) : ByteArray × Int := if 20000 < L.length then (⟨#[]⟩, 6) else (⟨(textB C L).toArray⟩, 0)

theorem tokens_r (C : List Int) (hC : C.length = 256) (v : Value) (L : List Tok) (hv : ∀ w', Sat W F w' → RdT w' v L) (hT : (textB C L).length ≤ 200000000) (hN : ∀ t ∈ L, t.name.size ≤ 2000000) (h : Sat W F w) :
    Calls Tryd.prog 13 #[v, codesV C, .int .i64 1099511627776] w fun e w' => e = .returned (.tuple #[.string (tokR C L).1, .int .i64 (tokR C L).2]) ∧ Sat W F w' := by
  by_cases hl : 20000 < L.length
  · have e : tokR C L = (⟨#[]⟩, 6) := by rw [tokR, if_pos hl]
    rw [e]
    exact tokens_big C v L 1099511627776 (by omega) (hv w h) hl h
  · have e : tokR C L = (⟨(textB C L).toArray⟩, 0) := by rw [tokR, if_neg hl]
    rw [e]
    exact tokens_any C hC v L hv (by omega) hT hN h

theorem tokR_join (C : List Int) (a b : List Tok) : (20000 < a.length + b.length → (tokR C (a ++ b)).2 = 6) ∧
    (a.length + b.length ≤ 20000 → (tokR C a).2 = 0 ∧ (tokR C b).2 = 0 ∧ (tokR C (a ++ b)).2 = 0 ∧ (tokR C a).1 ++ (tokR C b).1 = (tokR C (a ++ b)).1 ∧ (tokR C a).1.size = (textB C a).length ∧ (tokR C b).1.size = (textB C b).length) := by
  refine ⟨fun h => by rw [tokR, if_pos (by rw [List.length_append]; exact h)], fun h => ?_⟩
  have ea : tokR C a = (⟨(textB C a).toArray⟩, 0) := by rw [tokR, if_neg (by omega)]
  have eb : tokR C b = (⟨(textB C b).toArray⟩, 0) := by rw [tokR, if_neg (by omega)]
  have ec : tokR C (a ++ b) = (⟨(textB C (a ++ b)).toArray⟩, 0) := by rw [tokR, if_neg (by rw [List.length_append]; omega)]
  rw [ea, eb, ec]
  refine ⟨rfl, rfl, rfl, ?_, by simp [ByteArray.size], by simp [ByteArray.size]⟩
  rw [textB_app]
  exact cat_mk _ _

theorem _root_.Go.Sp.Sat.extRR {W w : World} {A B : HProp} (h : Sat W (A * (B * own W)) w) : Ext W w := h.r.r.toExt

set_option maxRecDepth 1000000 in
set_option maxHeartbeats 8000000 in
theorem joined_any (C : List Int) (hC : C.length = 256) (a b : List Tok) (va vb : Value) (ha : RdT w va a) (hb : RdT w vb b) (hla : a.length ≤ 2000000) (hlb : b.length ≤ 2000000)
    (hTa : (textB C a).length ≤ 90000000) (hTb : (textB C b).length ≤ 90000000) (hNa : ∀ t ∈ a, t.name.size ≤ 2000000) (hNb : ∀ t ∈ b, t.name.size ≤ 2000000) :
    Calls Tryd.prog 5 #[va, vb, codesV C] w fun e w' => e = .returned (.bool true) ∧ Sat w (own w) w' := by
  obtain ⟨i0, hi, hz0, hz1, hz2⟩ := info_parts3 info_tok
  have HI := Lib.hid hi
  have HZ0 := Lib.hid hz0
  have HZ1 := Lib.hid hz1
  have HZ2 := Lib.hid hz2
  clear hi hz0 hz1 hz2
  have h0 := (Sat.start w).alloc (codesO C 40)
  have H0 := Lib.hid h0
  have HA := Lib.hid ha
  have HB := Lib.hid hb
  have HC := Lib.hid hC
  obtain ⟨bc, hbc⟩ : ∃ bc, w.heap.size = bc := ⟨_, rfl⟩
  rw [hbc] at H0
  have HT1 := Lib.hid (fun (w' : World) (h : Sat w (pts bc (codesO C 40) * own w) w') => tokens_r C hC va a (fun w' h => ha.ext h.extR) (by omega) hNa h)
  have HT2 := Lib.hid (fun (w' : World) (h : Sat w (pts bc (codesO C 40) * own w) w') => tokens_r C hC vb b (fun w' h => hb.ext h.extR) (by omega) hNb h)
  have HT3 := Lib.hid (fun (v : Value) (w' : World) (h : Sat w (rowT v (a ++ b) * (pts bc (codesO C 40) * own w)) w') => tokens_r C hC v (a ++ b) (fun w' h => rowT_rd h) (by rw [textB_app, List.length_append]; omega) (fun t ht => by
    rcases List.mem_append.1 ht with h | h
    · exact hNa t h
    · exact hNb t h) h)
  obtain ⟨⟨S1, e1⟩, h1⟩ : ∃ r, tokR C a = r := ⟨_, rfl⟩
  obtain ⟨⟨S2, e2⟩, h2⟩ : ∃ r, tokR C b = r := ⟨_, rfl⟩
  obtain ⟨⟨S3, e3⟩, h3⟩ : ∃ r, tokR C (a ++ b) = r := ⟨_, rfl⟩
  have hj := tokR_join C a b
  rw [h1, h2, h3] at hj
  rw [h1] at HT1
  rw [h2] at HT2
  rw [h3] at HT3
  simp only at hj HT1 HT2 HT3
  have HJ := Lib.hid hj
  obtain ⟨aa, ca, rfl⟩ := ha.val
  obtain ⟨ab, cb, rfl⟩ := hb.val
  obtain ⟨q1, hq1⟩ : ∃ q, (textB C a).length = q := ⟨_, rfl⟩
  obtain ⟨q2, hq2⟩ : ∃ q, (textB C b).length = q := ⟨_, rfl⟩
  rw [hq1] at hTa HJ
  rw [hq2] at hTb HJ
  obtain ⟨na, hna⟩ : ∃ n, a.length = n := ⟨_, rfl⟩
  obtain ⟨nb, hnb⟩ : ∃ n, b.length = n := ⟨_, rfl⟩
  have NA := Lib.hid hna
  have NB := Lib.hid hnb
  rw [hna] at hla HT1 HJ HA
  rw [hnb] at hlb HT2 HJ HB
  rw [hna, hnb]
  clear h0 ha hb hC hNa hNb hj h1 h2 h3 hq1 hq2 hna hnb
  go_enter Tryd.func5, Tryd.ntmps5
  go_wp2_with fail
  clear hbc
  refine wp_load_row 40 (.tmp 5) (by rfl) bc (by rfl) _ _ _ _ H0.out.blk Tryd.underlying40 (by rfl) ?_ ?_
  · rw [size_codes]; simp [HC.out]
  go_wp2_with fail
  refine Calls.mono (HT1.out _ H0.out) ?_
  rintro e w1 ⟨rfl, h4⟩
  have H4 := Lib.hid h4
  clear h4
  go_wp2_with fail
  refine wp_load_row 40 (.tmp 5) (by rfl) bc (by rfl) _ _ _ _ H4.out.blk Tryd.underlying40 (by rfl) ?_ ?_
  · rw [size_codes]; simp [HC.out]
  go_wp2_with fail
  refine Calls.mono (HT2.out _ H4.out) ?_
  rintro e w2 ⟨rfl, h5⟩
  have H5 := Lib.hid h5
  clear h5
  go_wp2_with fail
  have hsz : w2.drew.heap.size = w2.heap.size := rfl
  have HX0 := Lib.hid (show Sat w (row (.slice (some ⟨w2.heap.size, 0, none⟩) 0 0) 0 55 3 [] * (pts bc (codesO C 40) * own w)) (w2.drew.alloc (.cells #[] 55)) from
    ((H5.out.drew.alloc (.cells #[] 55)).row_whole 0 (size := 3) (by simp [maxLen]) (by simp)))
  clear hsz
  have hd : (Tryd.prog.info? 40).map (·.size) = some ((C.map (Value.int .i64)).toArray).size := by rw [size_codes]; simp [HC.out]
  have HLD := Lib.hid (fun (w' : World) (h : w'.heap[bc]? = some (codesO C 40)) => run_loadVar_row (P := Tryd.prog) w' bc 40 40 (C.map (Value.int .i64)).toArray (0, 0) _ h Tryd.underlying40 rfl hd)
  clear hd
  have hl0 := HLD.out _ H5.out.drew.blk
  have hl1 := HLD.out _ HX0.out.r.blk
  refine wp_region_any (by kernel_rfl) ?_
  change wpAny _ _ _ _ _ _ _ (World.drew _)
  refine wpAny_take (i := 1) (v := ?_) rfl (by kernel_rfl) (by kernel_rfl) (by kernel_rfl) (fun _ _ _ h => h) (Or.inl ⟨by rfl, ?_⟩) ?_
  rotate_left 1
  · intro w; go_simp; try with_reducible rfl
  refine wpAny_take (i := 3) (v := ?_) rfl (by kernel_rfl) (by kernel_rfl) (by kernel_rfl) (fun _ _ _ h => h) (Or.inl ⟨by rfl, ?_⟩) ?_
  rotate_left 1
  · intro w; go_simp; try with_reducible rfl
  refine wpAny_ready (rs := [0, 5]) (by kernel_rfl) (by simp) ?_
  refine AllReady.cons rfl (fun K hK => ?_) ?_
  · go_simp
    refine hK _ _ ?_
    clear hK K
    refine wpAny_ready (rs := [2, 5]) (by kernel_rfl) (by simp) ?_
    refine AllReady.cons rfl (fun K hK => ?_) ?_
    · refine step_append_rd rfl _ _ 39 rfl i0 _ 32 Tryd.underlying39 HI.out HZ0.out HZ1.out HZ2.out rfl (by omega) rfl HX0.out (.slice aa na ca) a.length (flat a) rfl (HA.out.ext HX0.out.extRR).1 (flat_one a) ?_ ?_ ?_
      · have := NA.out; simp [maxLen]; omega
      · have := NA.out; omega
      intro v1 w5 h7 _
      have h7' := rowT_app (acc := []) (X := a) h7 (by simp)
      obtain ⟨ya, yc, rfl, -⟩ := (rowT_rd h7').capd
      have H7 := Lib.hid (show Sat w (row (.slice ya a.length yc) a.length 55 3 (flat a) * (pts bc (codesO C 40) * own w)) w5 from h7')
      clear h7 h7'
      go_simp
      refine hK _ _ ?_
      clear hK K
      refine wpAny_ready (rs := [4, 5]) (by kernel_rfl) (by simp) ?_
      refine AllReady.cons rfl (fun K hK => ?_) ?_
      · refine step_append_rd rfl _ _ 39 rfl i0 _ 32 Tryd.underlying39 HI.out HZ0.out HZ1.out HZ2.out rfl (by omega) rfl H7.out (.slice ab nb cb) b.length (flat b) rfl (HB.out.ext H7.out.extRR).1 (flat_one b) ?_ ?_ ?_
        · have := NA.out; have := NB.out; simp [maxLen]; omega
        · have := NA.out; have := NB.out; omega
        intro v2 w6 h8 _
        have h8' := rowT_app (acc := a) (X := b) h8 rfl
        have H8 := Lib.hid h8'
        clear h8 h8'
        go_simp
        refine hK _ _ ?_
        clear hK K
        refine wpAny_ready (rs := [5]) (by kernel_rfl) (by simp) ?_
        refine AllReady.cons rfl (fun K hK => ?_) ?_
        · refine step_load_row rfl 40 (.tmp 5) rfl bc rfl 40 (C.map (Value.int .i64)).toArray (0, 0) _ H8.out.r.blk Tryd.underlying40 rfl ?_ ?_
          · rw [size_codes]; simp [HC.out]
          go_simp
          refine hK _ _ ?_
          clear hK K
          refine wpAny_ready (rs := [6]) (by kernel_rfl) (by simp) ?_
          refine AllReady.cons rfl (fun K hK => ?_) ?_
          · go_simp
            refine Calls.mono (HT3.out _ _ H8.out) ?_
            rintro e w7 ⟨rfl, h9⟩
            have H9 := Lib.hid h9
            clear h9
            go_simp
            refine hK _ _ ?_
            clear hK K
            refine wpAny_take (i := 7) (v := ?_) rfl (by kernel_rfl) (by kernel_rfl) (by kernel_rfl) (fun _ _ _ h => h) (Or.inl ⟨by rfl, ?_⟩) ?_
            rotate_left 1
            · intro w; go_simp; try with_reducible rfl
            refine wpAny_take (i := 8) (v := ?_) rfl (by kernel_rfl) (by kernel_rfl) (by kernel_rfl) (fun _ _ _ h => h) (Or.inl ⟨by rfl, ?_⟩) ?_
            rotate_left 1
            · intro w; go_simp; try with_reducible rfl
            refine wpAny_take (i := 9) (v := ?_) rfl (by kernel_rfl) (by kernel_rfl) (by kernel_rfl) (fun _ _ _ h => h) (Or.inl ⟨by rfl, ?_⟩) ?_
            rotate_left 1
            · intro w; go_simp; try with_reducible rfl
            refine wpAny_take (i := 10) (v := ?_) rfl (by kernel_rfl) (by kernel_rfl) (by kernel_rfl) (fun _ _ _ h => h) (Or.inl ⟨by rfl, ?_⟩) ?_
            rotate_left 1
            · intro w; go_simp; try with_reducible rfl
            refine wpAny_take (i := 11) (v := ?_) rfl (by kernel_rfl) (by kernel_rfl) (by kernel_rfl) (fun _ _ _ h => h) (Or.inl ⟨by rfl, ?_⟩) ?_
            rotate_left 1
            · intro w; go_simp; try with_reducible rfl
            refine wpAny_done (by kernel_rfl) ?_ _
            have HF := Lib.hid H9.out.r.r
            by_cases hbig : 20000 < na + nb
            · have i1 : (20000 : Int) < (na : Int) + (nb : Int) := by omega
              obtain rfl : e3 = 6 := HJ.out.1 hbig
              clear hbig
              go_wp2_with (go_at_call 9; refine Calls.mono (num_any _ _) ?_; rintro e w' ⟨rfl, rfl⟩)
              refine Calls.mono (knows_any HF.out) ?_
              rintro e w8 ⟨rfl, h10⟩
              go_wp2
              go_ret
              exact ⟨rfl, h10⟩
            · have i1 : ¬ (20000 : Int) < (na : Int) + (nb : Int) := by omega
              obtain ⟨rfl, rfl, rfl, hcat, hs1, hs2⟩ := HJ.out.2 (by omega)
              clear hbig
              go_wp2_with (go_at_call 9; refine Calls.mono (num_any _ _) ?_; rintro e w' ⟨rfl, rfl⟩)
              refine Calls.mono (knows_any HF.out) ?_
              rintro e w8 ⟨rfl, h10⟩
              go_wp2
              go_ret
              exact ⟨rfl, h10⟩
          exact AllReady.nil
        exact AllReady.nil
      refine AllReady.cons rfl (fun K hK => ?_) ?_
      · refine step_load_row rfl 40 (.tmp 5) rfl bc rfl 40 (C.map (Value.int .i64)).toArray (0, 0) _ H7.out.r.blk Tryd.underlying40 rfl ?_ ?_
        · rw [size_codes]; simp [HC.out]
        go_simp
        refine hK _ _ ?_
        clear hK K
        refine wpAny_ready (rs := [4]) (by kernel_rfl) (by simp) ?_
        refine AllReady.cons rfl (fun K hK => ?_) ?_
        · refine step_append_rd rfl _ _ 39 rfl i0 _ 32 Tryd.underlying39 HI.out HZ0.out HZ1.out HZ2.out rfl (by omega) rfl H7.out (.slice ab nb cb) b.length (flat b) rfl (HB.out.ext H7.out.extRR).1 (flat_one b) ?_ ?_ ?_
          · have := NA.out; have := NB.out; simp [maxLen]; omega
          · have := NA.out; have := NB.out; omega
          intro v2 w6 h8 _
          have h8' := rowT_app (acc := a) (X := b) h8 rfl
          have H8 := Lib.hid h8'
          clear h8 h8'
          go_simp
          refine hK _ _ ?_
          clear hK K
          refine wpAny_ready (rs := [6]) (by kernel_rfl) (by simp) ?_
          refine AllReady.cons rfl (fun K hK => ?_) ?_
          · go_simp
            refine Calls.mono (HT3.out _ _ H8.out) ?_
            rintro e w7 ⟨rfl, h9⟩
            have H9 := Lib.hid h9
            clear h9
            go_simp
            refine hK _ _ ?_
            clear hK K
            refine wpAny_take (i := 7) (v := ?_) rfl (by kernel_rfl) (by kernel_rfl) (by kernel_rfl) (fun _ _ _ h => h) (Or.inl ⟨by rfl, ?_⟩) ?_
            rotate_left 1
            · intro w; go_simp; try with_reducible rfl
            refine wpAny_take (i := 8) (v := ?_) rfl (by kernel_rfl) (by kernel_rfl) (by kernel_rfl) (fun _ _ _ h => h) (Or.inl ⟨by rfl, ?_⟩) ?_
            rotate_left 1
            · intro w; go_simp; try with_reducible rfl
            refine wpAny_take (i := 9) (v := ?_) rfl (by kernel_rfl) (by kernel_rfl) (by kernel_rfl) (fun _ _ _ h => h) (Or.inl ⟨by rfl, ?_⟩) ?_
            rotate_left 1
            · intro w; go_simp; try with_reducible rfl
            refine wpAny_take (i := 10) (v := ?_) rfl (by kernel_rfl) (by kernel_rfl) (by kernel_rfl) (fun _ _ _ h => h) (Or.inl ⟨by rfl, ?_⟩) ?_
            rotate_left 1
            · intro w; go_simp; try with_reducible rfl
            refine wpAny_take (i := 11) (v := ?_) rfl (by kernel_rfl) (by kernel_rfl) (by kernel_rfl) (fun _ _ _ h => h) (Or.inl ⟨by rfl, ?_⟩) ?_
            rotate_left 1
            · intro w; go_simp; try with_reducible rfl
            refine wpAny_done (by kernel_rfl) ?_ _
            have HF := Lib.hid H9.out.r.r
            by_cases hbig : 20000 < na + nb
            · have i1 : (20000 : Int) < (na : Int) + (nb : Int) := by omega
              obtain rfl : e3 = 6 := HJ.out.1 hbig
              clear hbig
              go_wp2_with (go_at_call 9; refine Calls.mono (num_any _ _) ?_; rintro e w' ⟨rfl, rfl⟩)
              refine Calls.mono (knows_any HF.out) ?_
              rintro e w8 ⟨rfl, h10⟩
              go_wp2
              go_ret
              exact ⟨rfl, h10⟩
            · have i1 : ¬ (20000 : Int) < (na : Int) + (nb : Int) := by omega
              obtain ⟨rfl, rfl, rfl, hcat, hs1, hs2⟩ := HJ.out.2 (by omega)
              clear hbig
              go_wp2_with (go_at_call 9; refine Calls.mono (num_any _ _) ?_; rintro e w' ⟨rfl, rfl⟩)
              refine Calls.mono (knows_any HF.out) ?_
              rintro e w8 ⟨rfl, h10⟩
              go_wp2
              go_ret
              exact ⟨rfl, h10⟩
          exact AllReady.nil
        exact AllReady.nil
      exact AllReady.nil
    refine AllReady.cons rfl (fun K hK => ?_) ?_
    · refine step_load_row rfl 40 (.tmp 5) rfl bc rfl 40 (C.map (Value.int .i64)).toArray (0, 0) _ HX0.out.r.blk Tryd.underlying40 rfl ?_ ?_
      · rw [size_codes]; simp [HC.out]
      go_simp
      refine hK _ _ ?_
      clear hK K
      refine wpAny_ready (rs := [2]) (by kernel_rfl) (by simp) ?_
      refine AllReady.cons rfl (fun K hK => ?_) ?_
      · refine step_append_rd rfl _ _ 39 rfl i0 _ 32 Tryd.underlying39 HI.out HZ0.out HZ1.out HZ2.out rfl (by omega) rfl HX0.out (.slice aa na ca) a.length (flat a) rfl (HA.out.ext HX0.out.extRR).1 (flat_one a) ?_ ?_ ?_
        · have := NA.out; simp [maxLen]; omega
        · have := NA.out; omega
        intro v1 w5 h7 _
        have h7' := rowT_app (acc := []) (X := a) h7 (by simp)
        obtain ⟨ya, yc, rfl, -⟩ := (rowT_rd h7').capd
        have H7 := Lib.hid (show Sat w (row (.slice ya a.length yc) a.length 55 3 (flat a) * (pts bc (codesO C 40) * own w)) w5 from h7')
        clear h7 h7'
        go_simp
        refine hK _ _ ?_
        clear hK K
        refine wpAny_ready (rs := [4]) (by kernel_rfl) (by simp) ?_
        refine AllReady.cons rfl (fun K hK => ?_) ?_
        · refine step_append_rd rfl _ _ 39 rfl i0 _ 32 Tryd.underlying39 HI.out HZ0.out HZ1.out HZ2.out rfl (by omega) rfl H7.out (.slice ab nb cb) b.length (flat b) rfl (HB.out.ext H7.out.extRR).1 (flat_one b) ?_ ?_ ?_
          · have := NA.out; have := NB.out; simp [maxLen]; omega
          · have := NA.out; have := NB.out; omega
          intro v2 w6 h8 _
          have h8' := rowT_app (acc := a) (X := b) h8 rfl
          have H8 := Lib.hid h8'
          clear h8 h8'
          go_simp
          refine hK _ _ ?_
          clear hK K
          refine wpAny_ready (rs := [6]) (by kernel_rfl) (by simp) ?_
          refine AllReady.cons rfl (fun K hK => ?_) ?_
          · go_simp
            refine Calls.mono (HT3.out _ _ H8.out) ?_
            rintro e w7 ⟨rfl, h9⟩
            have H9 := Lib.hid h9
            clear h9
            go_simp
            refine hK _ _ ?_
            clear hK K
            refine wpAny_take (i := 7) (v := ?_) rfl (by kernel_rfl) (by kernel_rfl) (by kernel_rfl) (fun _ _ _ h => h) (Or.inl ⟨by rfl, ?_⟩) ?_
            rotate_left 1
            · intro w; go_simp; try with_reducible rfl
            refine wpAny_take (i := 8) (v := ?_) rfl (by kernel_rfl) (by kernel_rfl) (by kernel_rfl) (fun _ _ _ h => h) (Or.inl ⟨by rfl, ?_⟩) ?_
            rotate_left 1
            · intro w; go_simp; try with_reducible rfl
            refine wpAny_take (i := 9) (v := ?_) rfl (by kernel_rfl) (by kernel_rfl) (by kernel_rfl) (fun _ _ _ h => h) (Or.inl ⟨by rfl, ?_⟩) ?_
            rotate_left 1
            · intro w; go_simp; try with_reducible rfl
            refine wpAny_take (i := 10) (v := ?_) rfl (by kernel_rfl) (by kernel_rfl) (by kernel_rfl) (fun _ _ _ h => h) (Or.inl ⟨by rfl, ?_⟩) ?_
            rotate_left 1
            · intro w; go_simp; try with_reducible rfl
            refine wpAny_take (i := 11) (v := ?_) rfl (by kernel_rfl) (by kernel_rfl) (by kernel_rfl) (fun _ _ _ h => h) (Or.inl ⟨by rfl, ?_⟩) ?_
            rotate_left 1
            · intro w; go_simp; try with_reducible rfl
            refine wpAny_done (by kernel_rfl) ?_ _
            have HF := Lib.hid H9.out.r.r
            by_cases hbig : 20000 < na + nb
            · have i1 : (20000 : Int) < (na : Int) + (nb : Int) := by omega
              obtain rfl : e3 = 6 := HJ.out.1 hbig
              clear hbig
              go_wp2_with (go_at_call 9; refine Calls.mono (num_any _ _) ?_; rintro e w' ⟨rfl, rfl⟩)
              refine Calls.mono (knows_any HF.out) ?_
              rintro e w8 ⟨rfl, h10⟩
              go_wp2
              go_ret
              exact ⟨rfl, h10⟩
            · have i1 : ¬ (20000 : Int) < (na : Int) + (nb : Int) := by omega
              obtain ⟨rfl, rfl, rfl, hcat, hs1, hs2⟩ := HJ.out.2 (by omega)
              clear hbig
              go_wp2_with (go_at_call 9; refine Calls.mono (num_any _ _) ?_; rintro e w' ⟨rfl, rfl⟩)
              refine Calls.mono (knows_any HF.out) ?_
              rintro e w8 ⟨rfl, h10⟩
              go_wp2
              go_ret
              exact ⟨rfl, h10⟩
          exact AllReady.nil
        exact AllReady.nil
      exact AllReady.nil
    exact AllReady.nil
  refine AllReady.cons rfl (fun K hK => ?_) ?_
  · refine step_load_row rfl 40 (.tmp 5) rfl bc rfl 40 (C.map (Value.int .i64)).toArray (0, 0) _ H5.out.drew.blk Tryd.underlying40 rfl ?_ ?_
    · rw [size_codes]; simp [HC.out]
    go_simp
    refine hK _ _ ?_
    clear hK K
    refine wpAny_ready (rs := [0]) (by kernel_rfl) (by simp) ?_
    refine AllReady.cons rfl (fun K hK => ?_) ?_
    · go_simp
      refine hK _ _ ?_
      clear hK K
      refine wpAny_ready (rs := [2]) (by kernel_rfl) (by simp) ?_
      refine AllReady.cons rfl (fun K hK => ?_) ?_
      · refine step_append_rd rfl _ _ 39 rfl i0 _ 32 Tryd.underlying39 HI.out HZ0.out HZ1.out HZ2.out rfl (by omega) rfl HX0.out (.slice aa na ca) a.length (flat a) rfl (HA.out.ext HX0.out.extRR).1 (flat_one a) ?_ ?_ ?_
        · have := NA.out; simp [maxLen]; omega
        · have := NA.out; omega
        intro v1 w5 h7 _
        have h7' := rowT_app (acc := []) (X := a) h7 (by simp)
        obtain ⟨ya, yc, rfl, -⟩ := (rowT_rd h7').capd
        have H7 := Lib.hid (show Sat w (row (.slice ya a.length yc) a.length 55 3 (flat a) * (pts bc (codesO C 40) * own w)) w5 from h7')
        clear h7 h7'
        go_simp
        refine hK _ _ ?_
        clear hK K
        refine wpAny_ready (rs := [4]) (by kernel_rfl) (by simp) ?_
        refine AllReady.cons rfl (fun K hK => ?_) ?_
        · refine step_append_rd rfl _ _ 39 rfl i0 _ 32 Tryd.underlying39 HI.out HZ0.out HZ1.out HZ2.out rfl (by omega) rfl H7.out (.slice ab nb cb) b.length (flat b) rfl (HB.out.ext H7.out.extRR).1 (flat_one b) ?_ ?_ ?_
          · have := NA.out; have := NB.out; simp [maxLen]; omega
          · have := NA.out; have := NB.out; omega
          intro v2 w6 h8 _
          have h8' := rowT_app (acc := a) (X := b) h8 rfl
          have H8 := Lib.hid h8'
          clear h8 h8'
          go_simp
          refine hK _ _ ?_
          clear hK K
          refine wpAny_ready (rs := [6]) (by kernel_rfl) (by simp) ?_
          refine AllReady.cons rfl (fun K hK => ?_) ?_
          · go_simp
            refine Calls.mono (HT3.out _ _ H8.out) ?_
            rintro e w7 ⟨rfl, h9⟩
            have H9 := Lib.hid h9
            clear h9
            go_simp
            refine hK _ _ ?_
            clear hK K
            refine wpAny_take (i := 7) (v := ?_) rfl (by kernel_rfl) (by kernel_rfl) (by kernel_rfl) (fun _ _ _ h => h) (Or.inl ⟨by rfl, ?_⟩) ?_
            rotate_left 1
            · intro w; go_simp; try with_reducible rfl
            refine wpAny_take (i := 8) (v := ?_) rfl (by kernel_rfl) (by kernel_rfl) (by kernel_rfl) (fun _ _ _ h => h) (Or.inl ⟨by rfl, ?_⟩) ?_
            rotate_left 1
            · intro w; go_simp; try with_reducible rfl
            refine wpAny_take (i := 9) (v := ?_) rfl (by kernel_rfl) (by kernel_rfl) (by kernel_rfl) (fun _ _ _ h => h) (Or.inl ⟨by rfl, ?_⟩) ?_
            rotate_left 1
            · intro w; go_simp; try with_reducible rfl
            refine wpAny_take (i := 10) (v := ?_) rfl (by kernel_rfl) (by kernel_rfl) (by kernel_rfl) (fun _ _ _ h => h) (Or.inl ⟨by rfl, ?_⟩) ?_
            rotate_left 1
            · intro w; go_simp; try with_reducible rfl
            refine wpAny_take (i := 11) (v := ?_) rfl (by kernel_rfl) (by kernel_rfl) (by kernel_rfl) (fun _ _ _ h => h) (Or.inl ⟨by rfl, ?_⟩) ?_
            rotate_left 1
            · intro w; go_simp; try with_reducible rfl
            refine wpAny_done (by kernel_rfl) ?_ _
            have HF := Lib.hid H9.out.r.r
            by_cases hbig : 20000 < na + nb
            · have i1 : (20000 : Int) < (na : Int) + (nb : Int) := by omega
              obtain rfl : e3 = 6 := HJ.out.1 hbig
              clear hbig
              go_wp2_with (go_at_call 9; refine Calls.mono (num_any _ _) ?_; rintro e w' ⟨rfl, rfl⟩)
              refine Calls.mono (knows_any HF.out) ?_
              rintro e w8 ⟨rfl, h10⟩
              go_wp2
              go_ret
              exact ⟨rfl, h10⟩
            · have i1 : ¬ (20000 : Int) < (na : Int) + (nb : Int) := by omega
              obtain ⟨rfl, rfl, rfl, hcat, hs1, hs2⟩ := HJ.out.2 (by omega)
              clear hbig
              go_wp2_with (go_at_call 9; refine Calls.mono (num_any _ _) ?_; rintro e w' ⟨rfl, rfl⟩)
              refine Calls.mono (knows_any HF.out) ?_
              rintro e w8 ⟨rfl, h10⟩
              go_wp2
              go_ret
              exact ⟨rfl, h10⟩
          exact AllReady.nil
        exact AllReady.nil
      exact AllReady.nil
    exact AllReady.nil
  exact AllReady.nil

end Go.Proofs.YtlfekbmcegbhoaaDoor
