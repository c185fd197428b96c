/-
  Lists of tokens that a call makes; the small helpers of the laws. Conditions: those that each theorem names.
-/
import Derived.Test.YtlbebcioabfbgaaMacF
import Derived.Deep.RegionHeld3
namespace Go.Sp
open Go Go.RowKit
section
variable {W w w' : World} {A : HProp} {v : Value} {n : Nat} {e : TypeId} {size : Nat} {xs : List Value}

theorem run_append_empty {P : Program} (t ty : TypeId) (i : TypeInfo) (ht : P.underlying t = some (.slice e)) (hi : P.info? e = some i) (w : World) (base : Option Addr) (n cap c : Nat) (hn : n ≤ cap) :
    (Builtin.append_ #[t, t] ty #[.slice base n cap, .slice none 0 c]).run P w = .ok (.slice base n cap) w := by
  cases base <;> simp [Builtin.append_, run_underlying ht, sizeOf, typeInfo, hi, Builtin.lenOf, hn, Builtin.firstCells, loadCells, storeCells]

/-- append of what can be read -/
theorem wpList_append_rd {P : Program} {ops : Array Oper} {rest : List Oper} {o : Oper} {ac : Act} {Q : Exit → Act → World → Prop} (hgd : o.guard = none) (s x : Operand) (t : TypeId)
    (ho : o.op = .call { callee := .builtin .append, args := #[s, x], argTypes := #[t, t] })
    (i : TypeInfo) (z : Value) (bytes : Nat) (ht : P.underlying t = some (.slice e)) (hi : P.info? e = some i) (hz : i.zero = some z)
    (hsize : i.size = size) (hby : i.bytes = bytes) (hzs : z.cells.size = size) (hsz : 0 < size)
    (hs : ac.eval s = v) (h : Sat W (row v n e size xs * A) w)
    (u : Value) (m : Nat) (news : List Value) (hx : ac.eval x = u) (hr : Rd w u m size news) (h1 : ∀ u ∈ news, u.oneCell' = true)
    (h63 : n + m ≤ maxLen) (hbytes : (n + m) * bytes ≤ 140737488355328)
    (hK : ∀ v' w', Sat W (row v' (n + m) e size (xs ++ news) * A) w' → wpList P ops Q rest (ac.put o.dst v') w') : wpList P ops Q (o :: rest) ac w := by
  have hr' := hr
  obtain ⟨hl, hm, a, c, rfl, hcell⟩ := hr'
  cases a with
  | some a =>
    refine wpList_append_sep hgd s x t ho i z bytes ht hi hz hsize hby hzs hs h a m c news hx hl (fun j u hu => ?_) h1 h63 hbytes hK
    obtain ⟨b, off, e1, e2⟩ := hcell j u hu
    cases e1
    rw [Addr.add_lit]; exact e2
  | none =>
    have hm0 : m = 0 := by
      rcases Nat.eq_zero_or_pos m with h0 | h0
      · exact h0
      · obtain ⟨b, off, cap, e1, _⟩ := hr.head h0 hsz
        cases e1
    subst hm0
    have hn : news = [] := List.eq_nil_of_length_eq_zero (by simpa using hl)
    subst hn
    refine wpList_plain hgd fun K hK' => ?_
    unfold Oper.wp
    have key : ∃ b cap, v = .slice b n cap ∧ n ≤ cap := by
      obtain ⟨_, hc⟩ := h.row_cases
      rcases hc with ⟨rfl, rfl, _⟩ | ⟨g, cap, cur, rfl, hc, _⟩
      · exact ⟨none, 0, rfl, Nat.le_refl _⟩
      · exact ⟨_, cap, rfl, hc⟩
    obtain ⟨b, cap, rfl, hc⟩ := key
    simp [execOp, ho, resolve, invoke, builtin, hs, hx, run_append_empty (P := P) t o.type i ht hi w b n cap c hc, Result.andThen]
    have := hK (.slice b n cap) w (by simpa using h)
    exact hK' _ _ this

theorem Rd.frame {B : HProp} {v : Value} {n : Nat} {size : Nat} {xs : List Value} (h : Rd w v n size xs) (k : Sat w (B * own w) w') : Rd w' v n size xs := h.ext k.extR
end
end Go.Sp

namespace Go.Proofs.Ytlbebcioabfbgaa
open Go.RowKit Go.Sp
variable {W w w' : World} {F : HProp}

theorem info_tok : (Try.prog.info? 46).map (fun i => (i.zero, i.size, i.bytes)) = some (some (.agg #[.int .i64 0, .int .u8 0, .string ByteArray.empty]), 3, 32) := by kernel_rfl

/-- a list of tokens that is owned -/
def rowT (v : Value) (L : List Tok) : HProp := row v L.length 46 3 (flat L)

theorem rowT_rd {A : HProp} {v : Value} {L : List Tok} (h : Sat W (rowT v L * A) w) : RdT w v L := by
  refine ⟨h.rd, ?_⟩
  obtain ⟨_, hc⟩ := h.row_cases
  rcases hc with ⟨rfl, h0, _⟩ | ⟨g, cap, cur, rfl, hc, _⟩
  · exact ⟨none, 0, by rw [h0], by omega⟩
  · exact ⟨_, cap, rfl, hc⟩

theorem tokens_any (L : List Tok) (v : Value) (w : World) (hn : L.length ≤ 4000000000) (hv : RdT w v L) :
    Calls Try.prog 11 #[v] w fun e w' => ∃ u, e = .returned u ∧ Sat w (rowT u L * own w) w' := by
  obtain ⟨i0, hi, hz0, hz1, hz2⟩ := info_parts info_tok
  have h0 := ((Sat.start w).alloc (.cells #[] 46)).row_whole 0 (size := 3) (by simp [maxLen]) (by simp)
  have hx : RdT (w.alloc (.cells #[] 46)) v L := hv.ext (Ext.refl _).alloc
  go_enter Try.func11, Try.ntmps11
  go_wp2_with (at_builtin; refine wpList_append_rd rfl _ _ 22 rfl i0 _ 32 Try.underlying22 hi hz0 hz1 hz2 rfl (by omega) rfl h0 v L.length (flat L) rfl hx.1 (flat_one L) ?_ ?_ ?_)
  · simp [maxLen]; omega
  · omega
  · intro v' w1 h1
    go_wp2
    go_ret
    exact ⟨v', rfl, by simpa [rowT] using h1⟩

theorem num_any (e : Int) (w : World) : Calls Try.prog 14 #[.int .i64 e] w fun r w' => r = .returned (.int .i64 e) ∧ w = w' := by
  go_enter Try.func14, Try.ntmps14
  go_wp2
  go_ret
  exact ⟨rfl, rfl⟩

theorem letter_any (c : UInt8) (w : World) : Calls Try.prog 23 #[.int .u8 c.toNat] w fun r w' => r = .returned (Tok.val ⟨11, c, ByteArray.empty⟩) ∧ Ext w w' := by
  go_enter Try.func23, Try.ntmps23
  go_wp2
  (try simp only [Exit.inBlock, Exit.then])
  refine bodyPost_ret (v := Tok.val ⟨11, c, ByteArray.empty⟩) (by unfold results; go_simp; rfl) rfl ?_
  exact ⟨rfl, by first | exact (Ext.refl _).alloc | (go_ways; fail)⟩

set_option maxHeartbeats 4000000 in
theorem given_any (P B : List Tok) (vp vb : Value) (long : Bool) (w : World) (hp : RdT w vp P) (hb : RdT w vb B) (hnP : P.length ≤ 4000000000) (hnB : B.length ≤ 4000000000) :
    Calls Try.prog 19 #[.agg #[vp, vb, .bool long]] w fun e w' => ∃ u v, e = .returned (.agg #[u, v, .bool long]) ∧ Sat w (rowT u P * (rowT v B * own w)) w' := by
  have h1 := ((Sat.start w).alloc (.cells #[vp, vb, .bool long] 29)).alloc (.cells #[.slice none 0 0, .slice none 0 0, .bool false] 25)
  have e1 : (w.alloc (.cells #[vp, vb, .bool long] 29)).heap.size = w.heap.size + 1 := by simp
  rw [e1] at h1
  clear e1
  have HP := Lib.hid hp
  have HB := Lib.hid hb
  clear hp hb
  have NP := Lib.hid hnP
  have NB := Lib.hid hnB
  clear hnP hnB
  go_enter Try.func19, Try.ntmps19
  go_wp2
  generalize hw2 : (w.alloc (.cells #[vp, vb, .bool long] 29)).alloc (.cells #[.slice none 0 0, .slice none 0 0, .bool false] 25) = w2 at *
  generalize hbm : w.heap.size = bm at *
  obtain ⟨rb, hrb⟩ : ∃ rb, bm + 1 = rb := ⟨_, rfl⟩
  rw [hrb] at h1
  rw [hrb]
  clear hrb hbm hw2
  have H1 := Lib.hid h1
  have m0 := h1.rot.cell (i := 0) rfl
  have m1 := h1.rot.cell (i := 1) rfl
  have m2 := h1.rot.cell (i := 2) rfl
  have HX := Lib.hid h1.r.r.toExt
  clear h1
  go_region_held3 (fun w' => w'.cell? ⟨bm, 0, none⟩ = some vp ∧ w'.cell? ⟨bm, 1, none⟩ = some vb ∧ w'.cell? ⟨bm, 2, none⟩ = some (.bool long))
    (first
      | go_keep
      | exact ⟨HX1.out.cell m0, HX1.out.cell m1, HX1.out.cell m2⟩
      | exact ⟨(((HQ.out.set (i := 0)).set (i := 1)).set (i := 2)).r.cell (i := 0) rfl, (((HQ.out.set (i := 0)).set (i := 1)).set (i := 2)).r.cell (i := 1) rfl, (((HQ.out.set (i := 0)).set (i := 1)).set (i := 2)).r.cell (i := 2) rfl⟩
      | exact ⟨HX2.out.cell m0, HX2.out.cell m1, HX2.out.cell m2⟩)
    (first
      | (go_at_call_of 11 vp
         refine Calls.mono (tokens_any P vp _ NP.out ?_) ?_
         exact HP.out.ext HX.out.drew
         rintro e w' ⟨u, rfl, h2⟩
         obtain ⟨ua, uc, rfl, _⟩ := (rowT_rd h2).capd
         have H2 := Lib.hid (Sat.frame H1.out.drew h2)
         have HX1 := Lib.hid (Ext.trans (Ext.refl w2).drew h2.extR)
         clear h2)
      | (go_at_call_of 11 vb
         refine Calls.mono (tokens_any B vb _ NB.out ?_) ?_
         exact HB.out.ext (HX.out.trans HX1.out)
         rintro e w' ⟨v, rfl, h3⟩
         obtain ⟨va, vc, rfl, _⟩ := (rowT_rd h3).capd
         have H3 := Lib.hid (Sat.frame H2.out h3)
         have HX2 := Lib.hid (HX1.out.trans h3.extR)
         have r0 := H3.out.r.r.cell (i := 0) rfl
         have r1 := H3.out.r.r.cell (i := 1) rfl
         have r2 := H3.out.r.r.cell (i := 2) rfl
         have f0 := H3.out.r.r.free (i := 0)
         have f1 := H3.out.r.r.free (i := 1)
         have f2 := H3.out.r.r.free (i := 2)
         have lr := H3.out.r.r.lt
         have HQ := Lib.hid (show Sat w (pts rb (.cells #[.slice none 0 0, .slice none 0 0, .bool false] 25) * (pts bm (.cells #[vp, vb, .bool long] 29) * (rowT (.slice ua P.length uc) P * (rowT (.slice va B.length vc) B * own w)))) w' from H3.out.of_eq (by ac_rfl))
         clear h3))
  have HF := ((HQ.out.set (i := 0) (v := .slice ua P.length uc)).set (i := 1) (v := .slice va B.length vc)).set (i := 2) (v := .bool long)
  have g0 := HF.cell (i := 0) rfl
  have g1 := HF.cell (i := 1) rfl
  have g2 := HF.cell (i := 2) rfl
  go_wp2
  (try simp only [Exit.inBlock, Exit.then])
  refine bodyPost_ret (v := .agg #[.slice ua P.length uc, .slice va B.length vc, .bool long]) (by unfold results; go_simp) rfl ?_
  exact ⟨_, _, rfl, HF.r.r⟩

end Go.Proofs.Ytlbebcioabfbgaa
