
/-
  The law of what is given globally. Conditions: those that each theorem names.
-/
import Derived.Test.YtebggkgciocciaaTabAJ
import Derived.Deep.MidRow
namespace Go.Proofs.Ytebggkgciocciaa
open Go.RowKit Go.Sp
variable {W w w' : World} {F A : HProp}

/-- a list of calls that can be read, each with the slice of its value's tokens -/
structure RdO (w : World) (v : Value) (L : List (OpS × Value)) : Prop where
  val : ∃ a cap, v = .slice a L.length cap ∧ ∀ (k : Nat) (h : k < L.length), ∃ b off, a = some ⟨b, off, none⟩ ∧ ∀ (j : Nat) (u : Value), (L[k].1.cells L[k].2)[j]? = some u → w.cell? ⟨b, off + k * 21 + j, none⟩ = some u
  toks : ∀ x ∈ L, RdT w x.2 x.1.v.toks
  len : ∀ x ∈ L, x.1.v.toks.length ≤ 1000000000

/-- the cells of one call -/
structure OpAt (w : World) (b off : Nat) (o : OpS) (s : Value) : Prop where
  c0 : w.cell? ⟨b, off, none⟩ = some (.int .i64 o.kind)
  c1 : w.cell? ⟨b, off + 1, none⟩ = some (.int .i64 o.cls)
  c2 : w.cell? ⟨b, off + 2, none⟩ = some (.int .i64 o.i)
  c3 : w.cell? ⟨b, off + 3, none⟩ = some (.int .i64 o.n)
  c4 : w.cell? ⟨b, off + 4, none⟩ = some (.string o.name)
  c5 : w.cell? ⟨b, off + 5, none⟩ = some (.int .i64 o.m.kind)
  c6 : w.cell? ⟨b, off + 6, none⟩ = some (.int .i64 o.m.cls)
  c7 : w.cell? ⟨b, off + 7, none⟩ = some (.int .i64 o.m.code)
  c8 : w.cell? ⟨b, off + 8, none⟩ = some (.int .i64 o.m.cat)
  c9 : w.cell? ⟨b, off + 9, none⟩ = some (.string o.m.text)
  c10 : w.cell? ⟨b, off + 10, none⟩ = some (.int .i64 o.v.n)
  c11 : w.cell? ⟨b, off + 11, none⟩ = some (.int .i64 o.v.g.nat)
  c12 : w.cell? ⟨b, off + 12, none⟩ = some (.int .i64 o.v.g.stretch)
  c13 : w.cell? ⟨b, off + 13, none⟩ = some (.int .i64 o.v.g.shrink)
  c14 : w.cell? ⟨b, off + 14, none⟩ = some (.int .i64 o.v.g.so)
  c15 : w.cell? ⟨b, off + 15, none⟩ = some (.int .i64 o.v.g.ko)
  c16 : w.cell? ⟨b, off + 16, none⟩ = some s
  c17 : w.cell? ⟨b, off + 17, none⟩ = some (.int .i64 o.x.cat)
  c18 : w.cell? ⟨b, off + 18, none⟩ = some (.int .u8 o.x.chr.toNat)
  c19 : w.cell? ⟨b, off + 19, none⟩ = some (.string o.x.name)
  c20 : w.cell? ⟨b, off + 20, none⟩ = some (.bool o.glob)

theorem RdO.at {v : Value} {L : List (OpS × Value)} (h : RdO W v L) {k : Nat} (hk : k < L.length) : ∃ a cap b off, v = .slice a L.length cap ∧ a = some ⟨b, off, none⟩ ∧ ∀ w', Ext W w' → OpAt w' b (off + k * 21) L[k].1 L[k].2 := by
  obtain ⟨a, cap, h1, h2⟩ := h.val
  obtain ⟨b, off, h3, h4⟩ := h2 k hk
  refine ⟨a, cap, b, off, h1, h3, fun w' hx => ?_⟩
  refine ⟨hx.cell (h4 0 _ rfl), hx.cell (h4 1 _ rfl), hx.cell (h4 2 _ rfl), hx.cell (h4 3 _ rfl), hx.cell (h4 4 _ rfl), hx.cell (h4 5 _ rfl), hx.cell (h4 6 _ rfl), hx.cell (h4 7 _ rfl), hx.cell (h4 8 _ rfl), hx.cell (h4 9 _ rfl), hx.cell (h4 10 _ rfl), hx.cell (h4 11 _ rfl), hx.cell (h4 12 _ rfl), hx.cell (h4 13 _ rfl), hx.cell (h4 14 _ rfl), hx.cell (h4 15 _ rfl), hx.cell (h4 16 _ rfl), hx.cell (h4 17 _ rfl), hx.cell (h4 18 _ rfl), hx.cell (h4 19 _ rfl), hx.cell (h4 20 _ rfl)⟩

/-- a load whose run is known -/
theorem exec_load_mid {P : Program} {o : Oper} {a : Act} {w : World} (ty : TypeId) (x : Operand) (ho : o.op = .load ty x) (b off : Nat) (hx : a.eval x = .pointer (some ⟨b, off, none⟩)) (v : Value)
    (hld : (Instr.loadAt ty (.pointer (some ⟨b, off, none⟩))).run P w = .ok v w) : (execOp a.eval o).run P w = .ok (.value v) w := by
  unfold execOp
  simp only [ho, hx, Sem.run_bind, Result.andThen_ok, Sem.run_pure, hld]

theorem RdO.load {v : Value} {L : List (OpS × Value)} (h : RdO W v L) {k : Nat} (hk : k < L.length) : ∃ a cap b off, v = .slice a L.length cap ∧ a = some ⟨b, off, none⟩ ∧ (∀ w', Ext W w' → (Instr.loadAt 50 (.pointer (some ⟨b, off + k * 21, none⟩))).run Try.prog w' = .ok (L[k].1.val L[k].2) w') ∧
    ∀ w', Ext W w' → w'.cell? ⟨b, off + k * 21 + 20, none⟩ = some (.bool L[k].1.glob) := by
  obtain ⟨a, cap, h1, h2⟩ := h.val
  obtain ⟨b, off, h3, h4⟩ := h2 k hk
  refine ⟨a, cap, b, off, h1, h3, fun w' hx => ?_, fun w' hx => hx.cell (h4 20 _ rfl)⟩
  have := run_loadAt_mid (P := Try.prog) w' b (off + k * 21) 50 (L[k].1.cells L[k].2).toList _ (fun j u hu => hx.cell (h4 j u (by rw [Array.getElem?_toList] at hu; exact hu))) Try.underlying50 (by rfl) (by kernel_rfl)
  rw [Array.toArray_toList] at this
  exact this

/-- what stays while the groups end: E is the error of the definition, Fe that of the register -/
def GlobJ (S : TabS) (name : ByteArray) (m : Mean) (c i : Int) (v : RegS) (E Fe : Int) : Prop := (E = 0 → NameIn S name m) ∧ (Fe = 0 → RegIn S c.toNat i.toNat v)
theorem glob_start {S S4 S7 : TabS} {name : ByteArray} {m : Mean} {c i : Int} {v : RegS} {E Fe : Int} (hd : DefR S S4 name m true E) (hF : setE c i v = Fe) (hS : setT S4 c i v true = S7) : GlobJ S7 name m c i v E Fe := by
  subst hF
  subst hS
  constructor
  · intro hE
    have h4 : NameIn S4 name m := by
      rcases hd with ⟨h, _⟩ | ⟨_, rfl⟩
      · exact absurd hE h
      · exact nameIn_def _ _ _
    unfold setT
    split
    · exact nameIn_put h4 _ _ _
    · exact h4
  · intro hF
    rw [setT, if_pos hF]
    exact regIn_put _ _ _ _
theorem glob_end {S : TabS} {S0 : List GrpS} {g : GrpS} {name : ByteArray} {m : Mean} {c i : Int} {v : RegS} {E Fe : Int} (hF : setE c i v = Fe) (hj : GlobJ S name m c i v E Fe) (hS : S.groups = S0 ++ [g]) : GlobJ (S.ended S0 g) name m c i v E Fe := by
  refine ⟨fun h => nameIn_end (hj.1 h) hS, fun h => ?_⟩
  have hw : wrongE c i = 0 := by
    rw [h] at hF
    by_cases hw : wrongE c i = 0
    · exact hw
    · rw [setE, if_pos hw] at hF; exact hF
  obtain ⟨c', i', rfl, rfl, h1, h2, h3⟩ := wrongE_nat hw
  have := hj.2 h
  rw [Int.toNat_natCast, Int.toNat_natCast] at this ⊢
  exact regIn_end h3 this hS

set_option maxRecDepth 100000 in
set_option maxHeartbeats 8000000 in
theorem global_law (v : Value) (ops : List (OpS × Value)) (o : OpS) (s : Value) (W : World) (hv : RdO W v ops) (hs : RdT W s o.v.toks) (hn : ops.length ≤ 1048576) (hl : o.v.toks.length ≤ 1000000000) :
    Calls Try.prog 5 #[v, o.val s] W fun e w' => e = .returned (.bool true) ∧ Ext W w' := by
  obtain ⟨a, cap, hva, -⟩ := hv.val
  subst hva
  have HV := Lib.hid hv
  obtain ⟨nx, hnx⟩ : ∃ n, ops.length = n := ⟨_, rfl⟩
  rw [hnx] at HV hn
  rw [hnx]
  have HNX := Lib.hid hnx
  obtain ⟨sa, sc, rfl⟩ := hs.val
  have HS := Lib.hid hs
  have HL := Lib.hid hl
  have hb := (Sat.start W).alloc (.cells (o.cells (.slice sa o.v.toks.length sc)) 50)
  obtain ⟨bo, hbo⟩ : ∃ bo, W.heap.size = bo := ⟨_, rfl⟩
  rw [hbo] at hb
  have HNEW := Lib.hid (new_any hb)
  obtain ⟨kd, cl, i, n, name, ⟨m1, m2, m3, m4, m5⟩, ⟨vn, ⟨g1, g2, g3, g4, g5⟩, L⟩, ⟨x1, x2, x3⟩, gl⟩ := o
  simp only at *
  obtain ⟨k, hk⟩ : ∃ k, L.length = k := ⟨_, rfl⟩
  simp only [hk] at HNEW HS HL hb ⊢
  clear hb hs hl hv hnx
  go_enter Try.func5, Try.ntmps5
  go_wp2_with fail
  refine Calls.mono HNEW.out ?_
  rintro e w1 ⟨p, rfl, h1⟩
  have H1 := Lib.hid h1
  clear h1 HNEW hbo
  go_wp2_with fail
  go_loopg [6] nx (fun gg s6 wx => ∃ (q : Nat) (S : TabS) (N : Nat), q ≤ nx ∧ gg = nx - q ∧ s6 = .int .i64 q ∧ S.ok ∧ TabAt W (pts bo (.cells #[.int .i64 kd, .int .i64 cl, .int .i64 i, .int .i64 n, .string name, .int .i64 m1, .int .i64 m2, .int .i64 m3, .int .i64 m4, .string m5, .int .i64 vn, .int .i64 g1, .int .i64 g2, .int .i64 g3, .int .i64 g4, .int .i64 g5, .slice sa k sc, .int .i64 x1, .int .u8 x2.toNat, .string x3, .bool gl] 50) * own W) p N S wx)
  case atStart => exact ⟨0, newS, 0, by omega, rfl, by go_num, (fun g hg => by cases hg), H1.out⟩
  case round =>
    obtain ⟨q, S, N, hq, rfl, rfl, hok, hx⟩ := hrel
    have HX := Lib.hid hx
    have HOK := Lib.hid hok
    clear hx hok H1
    by_cases hlt : q < nx
    · have i1 : (q : Int) < (nx : Int) := by omega
      obtain ⟨a', cap', b', off, hva, rfl, hat, hgb⟩ := HV.out.load (k := q) (by rw [HNX.out]; exact hlt)
      simp only [Value.slice.injEq, HNX.out, true_and] at hva
      obtain ⟨rfl, rfl⟩ := hva
      obtain ⟨⟨oq, sq⟩, hoq⟩ : ∃ x, ops[q]'(by rw [HNX.out]; exact hlt) = x := ⟨_, rfl⟩
      rw [hoq] at hat hgb
      have hmem : (oq, sq) ∈ ops := by rw [← hoq]; exact List.getElem_mem _
      have HT := Lib.hid (HV.out.toks _ hmem)
      have HLN := Lib.hid (HV.out.len _ hmem)
      have HAT := Lib.hid hat
      have HGB := Lib.hid hgb
      clear hat hgb hoq hmem
      have HAP := Lib.hid (apply_any oq sq oq.glob HOK.out HLN.out (fun w' h => HT.out.ext h.r.toExt) HX.out.drewD)
      go_upto_region 5 with fail
      have HE := Lib.hid HX.out.drewD.sat.r.toExt
      refine wp_region_E (fun w' => Ext W w') (by kernel_rfl) ?_
      generalize wr.drew = W2 at *
      refine wpE_take (i := 0) (q := 10) (v := ?_) rfl (by kernel_rfl) (by kernel_rfl) (by kernel_rfl) (by kernel_rfl) (by kernel_rfl) (fun _ _ _ h => h) (by rfl) ?_ ?_
      rotate_left 1
      · intro w hw; go_simp; try with_reducible rfl
      refine wpE_take (i := 1) (q := 3) (v := ?_) rfl (by kernel_rfl) (by kernel_rfl) (by kernel_rfl) (by kernel_rfl) (by kernel_rfl) (fun _ _ _ h => h) (by rfl) ?_ ?_
      rotate_left 1
      · intro w hw; go_simp; try with_reducible rfl
      refine wpE_take (i := 2) (q := 3) (v := ?_) rfl (by kernel_rfl) (by kernel_rfl) (by kernel_rfl) (by kernel_rfl) (by kernel_rfl) (fun _ _ _ h => h) (by rfl) ?_ ?_
      rotate_left 1
      · intro w hw; go_simp; try with_reducible rfl
      refine wpE_take (i := 3) (q := 4) (v := ?_) rfl (by kernel_rfl) (by kernel_rfl) (by kernel_rfl) (by kernel_rfl) (by kernel_rfl) (fun _ _ _ h => h) (by rfl) ?_ ?_
      rotate_left 1
      · intro w hw; go_simp; try with_reducible rfl
      refine wpE_take (i := 4) (q := 10) (v := oq.val sq) rfl (by kernel_rfl) (by kernel_rfl) (by kernel_rfl) (by kernel_rfl) (by kernel_rfl) (fun _ _ _ h => h) (by rfl) (fun w hw => ?_) ?_
      · refine exec_load_mid 50 (.tmp 25) rfl b' (off + q * 21) ?_ (oq.val sq) (HAT.out w hw)
        first | (go_simp; done) | rfl
      refine wpE_take (i := 5) (q := 7) (v := ?_) rfl (by kernel_rfl) (by kernel_rfl) (by kernel_rfl) (by kernel_rfl) (by kernel_rfl) (fun _ _ _ h => h) (by rfl) ?_ ?_
      rotate_left 1
      · intro w hw; go_simp; try with_reducible rfl
      refine wpE_take (i := 6) (q := 7) (v := ?_) rfl (by kernel_rfl) (by kernel_rfl) (by kernel_rfl) (by kernel_rfl) (by kernel_rfl) (fun _ _ _ h => h) (by rfl) ?_ ?_
      rotate_left 1
      · intro w hw; go_simp; try with_reducible rfl
      refine wpE_take (i := 7) (q := 8) (v := ?_) rfl (by kernel_rfl) (by kernel_rfl) (by kernel_rfl) (by kernel_rfl) (by kernel_rfl) (fun _ _ _ h => h) (by rfl) ?_ ?_
      rotate_left 1
      · intro w hw; go_simp; try with_reducible rfl
      refine wpE_take (i := 8) (q := 9) (v := ?_) rfl (by kernel_rfl) (by kernel_rfl) (by kernel_rfl) (by kernel_rfl) (by kernel_rfl) (fun _ _ _ h => h) (by rfl) ?_ ?_
      rotate_left 1
      · intro w hw; go_simp; try with_reducible rfl
      refine wpE_take (i := 9) (q := 10) (v := ?_) rfl (by kernel_rfl) (by kernel_rfl) (by kernel_rfl) (by kernel_rfl) (by kernel_rfl) (fun _ _ _ h => h) (by rfl) ?_ ?_
      rotate_left 1
      · intro w hw; (have hgb := HGB.out _ hw; go_simp; try with_reducible rfl)
      refine wpE_one (i := 10) rfl (by kernel_rfl) (HE.out) (fun K hK => ?_)
      go_simp
      refine Calls.mono HAP.out ?_
      rintro e w3 ⟨rfl, S', N', hst, h3⟩
      have HOK2 := Lib.hid (step_ok HOK.out hst)
      have H3 := Lib.hid h3
      clear hst h3 HAP HX HE
      go_simp
      refine hK _ _ ?_
      clear hK K
      refine wpE_done (by kernel_rfl) (by kernel_rfl) ?_
      go_wp2
      go_roundg (nx - (q + 1))
      case measure => omega
      case rel => exact ⟨q + 1, S', N', by omega, rfl, by go_num, HOK2.out, H3.out⟩
    · obtain rfl : nx = q := by omega
      have p5 := HX.out.sat.cell (i := 5) rfl
      have p6 := HX.out.sat.cell (i := 6) rfl
      have p7 := HX.out.sat.cell (i := 7) rfl
      have p8 := HX.out.sat.cell (i := 8) rfl
      have p9 := HX.out.sat.cell (i := 9) rfl
      have lo := HX.out.sat.lt
      go_wp2_with fail
      refine Calls.mono (meaning_any ⟨m1, m2, m3, m4, m5⟩ _) ?_
      rintro e w2 ⟨rfl, hx⟩
      have h3 := (HX.out.ext hx).allocX (.cells #[.int .i64 m1, .int .i64 m2, .int .i64 m3, .int .i64 m4, .string m5] 52)
      obtain ⟨b7, hb7⟩ : ∃ b7, w2.heap.size = b7 := ⟨_, rfl⟩
      rw [hb7] at h3
      have H3 := Lib.hid h3
      clear hx p5 p6 p7 p8 p9 lo HX h3
      go_upto_region 7 with fail
      generalize w2.alloc (.cells #[.int .i64 m1, .int .i64 m2, .int .i64 m3, .int .i64 m4, .string m5] 52) = W3 at *
      clear hb7
      have d0 := H3.out.sat.cell (i := 0) rfl
      have d1 := H3.out.sat.cell (i := 1) rfl
      have d2 := H3.out.sat.cell (i := 2) rfl
      have d3 := H3.out.sat.cell (i := 3) rfl
      have d4 := H3.out.sat.cell (i := 4) rfl
      have ld := H3.out.sat.lt
      have p4 := H3.out.sat.r.cell (i := 4) rfl
      have lo := H3.out.sat.r.lt
      go_wp2_with fail
      refine Calls.mono (define_any name ⟨m1, m2, m3, m4, m5⟩ true H3.out) ?_
      rintro e w4 ⟨E, S4, N4, rfl, hd, h4⟩
      have HD := Lib.hid hd
      have H4 := Lib.hid h4
      clear hd h4 H3 d0 d1 d2 d3 d4 ld p4 lo
      go_upto_region 8 with fail
      obtain ⟨C, hC⟩ : ∃ C : World → Prop, C = fun w' => ∃ X, Sat W (X * (pts bo (.cells #[.int .i64 kd, .int .i64 cl, .int .i64 i, .int .i64 n, .string name, .int .i64 m1, .int .i64 m2, .int .i64 m3, .int .i64 m4, .string m5, .int .i64 vn, .int .i64 g1, .int .i64 g2, .int .i64 g3, .int .i64 g4, .int .i64 g5, .slice sa k sc, .int .i64 x1, .int .u8 x2.toNat, .string x3, .bool gl] 50) * own W)) w' := ⟨_, rfl⟩
      have HC := Lib.hid (show ∀ w', C w' → w'.cell? ⟨bo, 1, none⟩ = some (.int .i64 cl) ∧ w'.cell? ⟨bo, 2, none⟩ = some (.int .i64 i) ∧ w'.cell? ⟨bo, 10, none⟩ = some (.int .i64 vn) ∧ w'.cell? ⟨bo, 11, none⟩ = some (.int .i64 g1) ∧ w'.cell? ⟨bo, 12, none⟩ = some (.int .i64 g2) ∧ w'.cell? ⟨bo, 13, none⟩ = some (.int .i64 g3) ∧ w'.cell? ⟨bo, 14, none⟩ = some (.int .i64 g4) ∧ w'.cell? ⟨bo, 15, none⟩ = some (.int .i64 g5) ∧ w'.cell? ⟨bo, 16, none⟩ = some (.slice sa k sc) from fun w' h => by
        rw [hC] at h
        obtain ⟨X, h⟩ := h
        exact ⟨h.r.cell rfl, h.r.cell rfl, h.r.cell rfl, h.r.cell rfl, h.r.cell rfl, h.r.cell rfl, h.r.cell rfl, h.r.cell rfl, h.r.cell rfl⟩)
      have HC2 := Lib.hid (show ∀ X w', Sat W (X * (pts bo (.cells #[.int .i64 kd, .int .i64 cl, .int .i64 i, .int .i64 n, .string name, .int .i64 m1, .int .i64 m2, .int .i64 m3, .int .i64 m4, .string m5, .int .i64 vn, .int .i64 g1, .int .i64 g2, .int .i64 g3, .int .i64 g4, .int .i64 g5, .slice sa k sc, .int .i64 x1, .int .u8 x2.toNat, .string x3, .bool gl] 50) * own W)) w' → C w' from fun X w' h => by rw [hC]; exact ⟨X, h⟩)
      have H5 := Lib.hid H4.out.drewD
      clear hC H4
      refine wp_region_E C (by kernel_rfl) ?_
      generalize w4.drew = W5 at *
      refine wpE_take (i := 0) (q := 8) (v := ?_) rfl (by kernel_rfl) (by kernel_rfl) (by kernel_rfl) (by kernel_rfl) (by kernel_rfl) (fun _ _ _ h => h) (by rfl) ?_ ?_
      rotate_left 1
      · intro w hw; go_simp; try with_reducible rfl
      refine wpE_take (i := 1) (q := 2) (v := ?_) rfl (by kernel_rfl) (by kernel_rfl) (by kernel_rfl) (by kernel_rfl) (by kernel_rfl) (fun _ _ _ h => h) (by rfl) ?_ ?_
      rotate_left 1
      · intro w hw; go_simp; try with_reducible rfl
      refine wpE_take (i := 2) (q := 8) (v := ?_) rfl (by kernel_rfl) (by kernel_rfl) (by kernel_rfl) (by kernel_rfl) (by kernel_rfl) (fun _ _ _ h => h) (by rfl) ?_ ?_
      rotate_left 1
      · intro w hw; (obtain ⟨e1, e2, e3, e4, e5, e6, e7, e8, e9⟩ := HC.out _ hw; go_simp; try with_reducible rfl)
      refine wpE_take (i := 3) (q := 4) (v := ?_) rfl (by kernel_rfl) (by kernel_rfl) (by kernel_rfl) (by kernel_rfl) (by kernel_rfl) (fun _ _ _ h => h) (by rfl) ?_ ?_
      rotate_left 1
      · intro w hw; go_simp; try with_reducible rfl
      refine wpE_take (i := 4) (q := 8) (v := ?_) rfl (by kernel_rfl) (by kernel_rfl) (by kernel_rfl) (by kernel_rfl) (by kernel_rfl) (fun _ _ _ h => h) (by rfl) ?_ ?_
      rotate_left 1
      · intro w hw; (obtain ⟨e1, e2, e3, e4, e5, e6, e7, e8, e9⟩ := HC.out _ hw; go_simp; try with_reducible rfl)
      refine wpE_take (i := 5) (q := 6) (v := ?_) rfl (by kernel_rfl) (by kernel_rfl) (by kernel_rfl) (by kernel_rfl) (by kernel_rfl) (fun _ _ _ h => h) (by rfl) ?_ ?_
      rotate_left 1
      · intro w hw; go_simp; try with_reducible rfl
      refine wpE_take (i := 6) (q := 7) (v := ?_) rfl (by kernel_rfl) (by kernel_rfl) (by kernel_rfl) (by kernel_rfl) (by kernel_rfl) (fun _ _ _ h => h) (by rfl) ?_ ?_
      rotate_left 1
      · intro w hw; (obtain ⟨e1, e2, e3, e4, e5, e6, e7, e8, e9⟩ := HC.out _ hw; go_simp; try with_reducible rfl)
      have HGV := Lib.hid (given_any ⟨vn, ⟨g1, g2, g3, g4, g5⟩, L⟩ (.slice sa k sc) W5 (HS.out.ext H5.out.sat.r.r.toExt) (by simp only [hk]; exact HL.out))
      simp only [valA] at HGV
      refine wpE_one (i := 7) rfl (by kernel_rfl) (HC2.out _ _ H5.out.sat) (fun K hK => ?_)
      go_simp
      refine Calls.mono HGV.out ?_
      rintro e w6 ⟨u, rfl, hx⟩
      have H6 := Lib.hid (H5.out.call hx)
      have HSET := Lib.hid (set_any cl i (v := ⟨vn, ⟨g1, g2, g3, g4, g5⟩, L⟩) (s := u) true (fun w' h => rowT_rd h) (H5.out.call hx))
      simp only [valA] at HSET
      clear hx HGV H5
      go_simp
      refine hK _ _ ?_
      clear hK K
      refine wpE_one (i := 8) rfl (by kernel_rfl) (HC2.out _ _ H6.out.sat.r) (fun K hK => ?_)
      go_simp
      refine Calls.mono HSET.out ?_
      rintro e w7 ⟨rfl, h7⟩
      have H7 := Lib.hid h7
      clear h7 HSET H6
      go_simp
      refine hK _ _ ?_
      clear hK K
      refine wpE_one (i := 9) rfl (by kernel_rfl) (HC2.out _ _ H7.out.sat.r) (fun K hK => ?_)
      go_simp
      refine hK _ _ ?_
      clear hK K
      refine wpE_done (by kernel_rfl) (by kernel_rfl) ?_
      obtain ⟨Fe, hFe⟩ : ∃ Fe, setE cl i ⟨vn, ⟨g1, g2, g3, g4, g5⟩, L⟩ = Fe := ⟨_, rfl⟩
      have HFE := Lib.hid hFe
      obtain ⟨S7, hS7⟩ : ∃ S7, setT S4 cl i ⟨vn, ⟨g1, g2, g3, g4, g5⟩, L⟩ true = S7 := ⟨_, rfl⟩
      have HJ := Lib.hid (glob_start HD.out hFe hS7)
      have HOK7 := Lib.hid (show S7.ok by
        rw [← hS7]
        refine setT_ok ?_ _ _ _ _
        rcases HD.out with ⟨_, h⟩ | ⟨_, h⟩
        · rw [h]; exact HOK.out
        · rw [h]; exact defS_ok HOK.out _ _ _)
      rw [hS7] at H7
      rw [hFe]
      clear hS7 hFe HC HC2
      go_wp2_with fail
      go_loopg [10] S7.groups.length (fun gg _ wx => ∃ (S : TabS) (N : Nat) (B : HProp), gg = S.groups.length ∧ S.ok ∧ GlobJ S name ⟨m1, m2, m3, m4, m5⟩ cl i ⟨vn, ⟨g1, g2, g3, g4, g5⟩, L⟩ E Fe ∧ TabAt W (B * (pts b7 (.cells #[.int .i64 m1, .int .i64 m2, .int .i64 m3, .int .i64 m4, .string m5] 52) * (pts bo (.cells #[.int .i64 kd, .int .i64 cl, .int .i64 i, .int .i64 n, .string name, .int .i64 m1, .int .i64 m2, .int .i64 m3, .int .i64 m4, .string m5, .int .i64 vn, .int .i64 g1, .int .i64 g2, .int .i64 g3, .int .i64 g4, .int .i64 g5, .slice sa k sc, .int .i64 x1, .int .u8 x2.toNat, .string x3, .bool gl] 50) * own W))) p N S wx)
      case atStart => exact ⟨S7, N4, rowT u L, rfl, HOK7.out, HJ.out, H7.out⟩
      case round =>
        obtain ⟨S, N, B, rfl, hok, hj, hx⟩ := hrel
        have HX := Lib.hid hx
        have HOK := Lib.hid hok
        have HJ := Lib.hid hj
        clear hx hok hj H7 HOK7 HD
        have p4 := HX.out.sat.r.r.cell (i := 4) rfl
        have lo := HX.out.sat.r.r.lt
        go_wp2_with fail
        refine Calls.mono (look_any name HX.out) ?_
        rintro e w8 ⟨rfl, h8⟩
        obtain ⟨lk, hlk⟩ : ∃ lk, lookN S.names name = lk := ⟨_, rfl⟩
        have HLK := Lib.hid hlk
        rw [hlk]
        obtain ⟨l1, l2, l3, l4, l5⟩ := lk
        simp only [Mean.val]
        have h9 := h8.allocX (.cells #[.int .i64 l1, .int .i64 l2, .int .i64 l3, .int .i64 l4, .string l5] 52)
        obtain ⟨b10, hb10⟩ : ∃ b10, w8.heap.size = b10 := ⟨_, rfl⟩
        rw [hb10] at h9
        have H9 := Lib.hid h9
        clear p4 lo h8 h9 hlk HX
        go_upto_region 10 with fail
        generalize w8.alloc (.cells #[.int .i64 l1, .int .i64 l2, .int .i64 l3, .int .i64 l4, .string l5] 52) = W9 at *
        clear hb10
        have p1 := H9.out.sat.r.r.r.cell (i := 1) rfl
        have p2 := H9.out.sat.r.r.r.cell (i := 2) rfl
        have lo := H9.out.sat.r.r.r.lt
        by_cases hw : wrongE cl i = 0
        · obtain ⟨c', i', hc', hi', j1, j2, j3⟩ := wrongE_nat hw
          have hget := get_any (c := c') (i := i') (by omega) j3 H9.out
          rw [← hc', ← hi'] at hget
          obtain ⟨z, hz⟩ : ∃ z, S.regs (c' * 256 + i') = z := ⟨_, rfl⟩
          rw [hz] at hget
          have HZ := Lib.hid (show Fe = 0 → z = ⟨vn, ⟨g1, g2, g3, g4, g5⟩, L⟩ from fun h => by
            have := (HJ.out.2 h).1
            rw [hc', hi', Int.toNat_natCast, Int.toNat_natCast, hz] at this
            exact this)
          have HGET := Lib.hid hget
          clear hget hz hw hc' hi' j1 j2 j3
          go_wp2_with fail
          refine Calls.mono HGET.out ?_
          rintro e w10 ⟨u2, rfl, h10⟩
          obtain ⟨za, zc, rfl⟩ := h10.sat.rowT_value
          obtain ⟨zn, ⟨z1, z2, z3, z4, z5⟩, ZL⟩ := z
          simp only [valA]
          obtain ⟨zk, hzk⟩ : ∃ zk, ZL.length = zk := ⟨_, rfl⟩
          simp only [hzk] at h10 ⊢
          have h11 := h10.allocX (.cells #[.int .i64 zn, .int .i64 z1, .int .i64 z2, .int .i64 z3, .int .i64 z4, .int .i64 z5, .slice za zk zc] 40)
          obtain ⟨b11, hb11⟩ : ∃ b11, w10.heap.size = b11 := ⟨_, rfl⟩
          rw [hb11] at h11
          have H11 := Lib.hid h11
          clear h10 h11 H9 HGET p1 p2 lo hzk
          go_upto_region 11 with fail
          generalize w10.alloc (.cells #[.int .i64 zn, .int .i64 z1, .int .i64 z2, .int .i64 z3, .int .i64 z4, .int .i64 z5, .slice za zk zc] 40) = W11 at *
          clear hb11
          go_cut [87] from 63 to 88 (fun s87 wx => s87 = .bool false ∧ Ext W11 wx)
          case first =>
            have hsat := H11.out.sat.of_eq (show _ = pts b11 (.cells #[.int .i64 zn, .int .i64 z1, .int .i64 z2, .int .i64 z3, .int .i64 z4, .int .i64 z5, .slice za zk zc] 40) * (pts b10 (.cells #[.int .i64 l1, .int .i64 l2, .int .i64 l3, .int .i64 l4, .string l5] 52) * (pts b7 (.cells #[.int .i64 m1, .int .i64 m2, .int .i64 m3, .int .i64 m4, .string m5] 52) * (pts bo (.cells #[.int .i64 kd, .int .i64 cl, .int .i64 i, .int .i64 n, .string name, .int .i64 m1, .int .i64 m2, .int .i64 m3, .int .i64 m4, .string m5, .int .i64 vn, .int .i64 g1, .int .i64 g2, .int .i64 g3, .int .i64 g4, .int .i64 g5, .slice sa k sc, .int .i64 x1, .int .u8 x2.toNat, .string x3, .bool gl] 50) * (rowT (.slice za zk zc) ZL * (B * own W))))) by ac_rfl)
            have t0 := hsat.cell (i := 0) rfl
            have t1 := hsat.cell (i := 1) rfl
            have t2 := hsat.cell (i := 2) rfl
            have t3 := hsat.cell (i := 3) rfl
            have t4 := hsat.cell (i := 4) rfl
            have t5 := hsat.cell (i := 5) rfl
            have t6 := hsat.cell (i := 6) rfl
            have r0 := hsat.r.cell (i := 0) rfl
            have r1 := hsat.r.cell (i := 1) rfl
            have r2 := hsat.r.cell (i := 2) rfl
            have r3 := hsat.r.cell (i := 3) rfl
            have r4 := hsat.r.cell (i := 4) rfl
            have s0 := hsat.r.r.cell (i := 0) rfl
            have s1 := hsat.r.r.cell (i := 1) rfl
            have s2 := hsat.r.r.cell (i := 2) rfl
            have s3 := hsat.r.r.cell (i := 3) rfl
            have s4 := hsat.r.r.cell (i := 4) rfl
            have v0 := hsat.r.r.r.cell (i := 10) rfl
            have v1 := hsat.r.r.r.cell (i := 11) rfl
            have v2 := hsat.r.r.r.cell (i := 12) rfl
            have v3 := hsat.r.r.r.cell (i := 13) rfl
            have v4 := hsat.r.r.r.cell (i := 14) rfl
            have v5 := hsat.r.r.r.cell (i := 15) rfl
            have v6 := hsat.r.r.r.cell (i := 16) rfl
            have a0 := hsat.lt
            have a1 := hsat.r.lt
            have a2 := hsat.r.r.lt
            have a3 := hsat.r.r.r.lt
            have HZR := Lib.hid (rowT_rd hsat.r.r.r.r)
            have HWX := Lib.hid hsat.r.r.r.r.r.r.toExt
            have hqm := fun w => run_neq_mean w ⟨l1, l2, l3, l4, l5⟩ ⟨m1, m2, m3, m4, m5⟩
            simp only [Mean.val] at hqm
            have HEQ := Lib.hid (show E = 0 → meanB ⟨l1, l2, l3, l4, l5⟩ ⟨m1, m2, m3, m4, m5⟩ = true from fun h => (meanB_eq _ _).2 (by rw [← HLK.out]; exact (HJ.out.1 h).1))
            clear hsat H11
            by_cases hF : Fe = 0
            · subst hF
              have hz := HZ.out rfl
              simp only [RegS.mk.injEq, Gl.mk.injEq] at hz
              obtain ⟨rfl, ⟨rfl, rfl, rfl, rfl, rfl⟩, rfl⟩ := hz
              have HSM := Lib.hid (same_yes ⟨zn, ⟨z1, z2, z3, z4, z5⟩, ZL⟩ (.slice za zk zc) (.slice sa k sc) W11 HZR.out (HS.out.ext HWX.out))
              simp only [valA] at HSM
              by_cases hE : E = 0
              · subst hE
                rw [HEQ.out rfl] at hqm
                go_wp2_with (go_at_call 8; with_reducible refine Calls.mono (num_any _ _) ?_; rintro e w' ⟨rfl, rfl⟩)
                refine Calls.mono HSM.out ?_
                rintro e w12 ⟨rfl, hx⟩
                go_wp2
                go_meet
                exact ⟨rfl, hx⟩
              · have qe : (E == 0) = false := by rw [beq_eq_false_iff_ne]; exact hE
                go_wp2_with (go_at_call 8; with_reducible refine Calls.mono (num_any _ _) ?_; rintro e w' ⟨rfl, rfl⟩)
                refine Calls.mono HSM.out ?_
                rintro e w12 ⟨rfl, hx⟩
                go_wp2
                go_meet
                exact ⟨rfl, hx⟩
            · have qf : (Fe == 0) = false := by rw [beq_eq_false_iff_ne]; exact hF
              by_cases hE : E = 0
              · subst hE
                rw [HEQ.out rfl] at hqm
                go_wp2_with (go_at_call 8; with_reducible refine Calls.mono (num_any _ _) ?_; rintro e w' ⟨rfl, rfl⟩)
                go_meet
                exact ⟨rfl, Ext.refl _⟩
              · have qe : (E == 0) = false := by rw [beq_eq_false_iff_ne]; exact hE
                go_wp2_with (go_at_call 8; with_reducible refine Calls.mono (num_any _ _) ?_; rintro e w' ⟨rfl, rfl⟩)
                go_meet
                exact ⟨rfl, Ext.refl _⟩
          case rest =>
            obtain ⟨rfl, hx⟩ := hcut
            have H12 := Lib.hid ((H11.out.ext hx).of_eq (show _ = (pts b11 (.cells #[.int .i64 zn, .int .i64 z1, .int .i64 z2, .int .i64 z3, .int .i64 z4, .int .i64 z5, .slice za zk zc] 40) * (rowT (.slice za zk zc) ZL * (pts b10 (.cells #[.int .i64 l1, .int .i64 l2, .int .i64 l3, .int .i64 l4, .string l5] 52) * B))) * (pts b7 (.cells #[.int .i64 m1, .int .i64 m2, .int .i64 m3, .int .i64 m4, .string m5] 52) * (pts bo (.cells #[.int .i64 kd, .int .i64 cl, .int .i64 i, .int .i64 n, .string name, .int .i64 m1, .int .i64 m2, .int .i64 m3, .int .i64 m4, .string m5, .int .i64 vn, .int .i64 g1, .int .i64 g2, .int .i64 g3, .int .i64 g4, .int .i64 g5, .slice sa k sc, .int .i64 x1, .int .u8 x2.toNat, .string x3, .bool gl] 50) * own W)) by ac_rfl))
            clear hx H11
            generalize pts b11 (.cells #[.int .i64 zn, .int .i64 z1, .int .i64 z2, .int .i64 z3, .int .i64 z4, .int .i64 z5, .slice za zk zc] 40) * (rowT (.slice za zk zc) ZL * (pts b10 (.cells #[.int .i64 l1, .int .i64 l2, .int .i64 l3, .int .i64 l4, .string l5] 52) * B)) = B2 at *
            rcases List.eq_nil_or_concat S.groups with hg | ⟨S0, gr, hg⟩
            · have HDP := Lib.hid (depth_any H12.out)
              rw [hg, List.length_nil] at HDP
              go_wp2_with fail
              refine Calls.mono HDP.out ?_
              rintro e w' ⟨rfl, rfl⟩
              go_wp2_with fail
              refine Calls.mono (knows_tab H12.out) ?_
              rintro e w14 ⟨rfl, h14⟩
              have H14 := Lib.hid h14.sat.r.r.r.toExt
              clear h14
              go_wp2
              go_ret
              exact ⟨rfl, H14.out⟩
            · rw [List.concat_eq_append] at hg
              have HDP := Lib.hid (depth_any H12.out)
              have hlen : S.groups.length = S0.length + 1 := by rw [hg]; simp
              rw [hlen] at HDP
              have HEN := Lib.hid (end_some S0 gr hg (HOK.out gr (by rw [hg]; simp)) H12.out)
              have HOK2 := Lib.hid (ended_ok HOK.out hg)
              have HJ2 := Lib.hid (glob_end HFE.out HJ.out hg)
              have HLE := Lib.hid hlen
              have qd : (((S0.length + 1 : Nat) : Int) == 0) = false := by rw [beq_eq_false_iff_ne]; omega
              generalize hsl : ((S0.length + 1 : Nat) : Int) = sl at *
              clear hg hlen hsl
              go_wp2_with fail
              refine Calls.mono HDP.out ?_
              rintro e w' ⟨rfl, rfl⟩
              go_wp2_with fail
              refine Calls.mono HEN.out ?_
              rintro e w14 ⟨rfl, N14, h14⟩
              have H14 := Lib.hid h14
              clear h14
              go_wp2_with (go_at_call 8; with_reducible refine Calls.mono (num_any _ _) ?_; rintro e w' ⟨rfl, rfl⟩)
              go_roundg S0.length
              case measure => have := HLE.out; omega
              case rel => exact ⟨S.ended S0 gr, N14, B2, rfl, HOK2.out, HJ2.out, H14.out⟩
        · have hget := get_no hw H9.out
          have HFN := Lib.hid (show Fe ≠ 0 from fun h => by
            have hF := HFE.out
            rw [setE, if_pos hw] at hF
            exact hw (hF.trans h))
          have HGET := Lib.hid hget
          clear hget hw
          go_wp2_with fail
          refine Calls.mono HGET.out ?_
          rintro e w10 ⟨er, her, rfl, h10⟩
          have h11 := h10.allocX (.cells #[.int .i64 0, .int .i64 0, .int .i64 0, .int .i64 0, .int .i64 0, .int .i64 0, .slice none 0 0] 40)
          obtain ⟨b11, hb11⟩ : ∃ b11, w10.heap.size = b11 := ⟨_, rfl⟩
          rw [hb11] at h11
          have H11 := Lib.hid h11
          have qf : (Fe == 0) = false := by rw [beq_eq_false_iff_ne]; exact HFN.out
          clear h10 h11 H9 HGET p1 p2 lo her
          go_upto_region 11 with fail
          generalize w10.alloc (.cells #[.int .i64 0, .int .i64 0, .int .i64 0, .int .i64 0, .int .i64 0, .int .i64 0, .slice none 0 0] 40) = W11 at *
          clear hb11
          go_cut [87] from 63 to 88 (fun s87 wx => s87 = .bool false ∧ Ext W11 wx)
          case first =>
            have hsat := H11.out.sat.of_eq (show _ = pts b10 (.cells #[.int .i64 l1, .int .i64 l2, .int .i64 l3, .int .i64 l4, .string l5] 52) * (pts b7 (.cells #[.int .i64 m1, .int .i64 m2, .int .i64 m3, .int .i64 m4, .string m5] 52) * (pts bo (.cells #[.int .i64 kd, .int .i64 cl, .int .i64 i, .int .i64 n, .string name, .int .i64 m1, .int .i64 m2, .int .i64 m3, .int .i64 m4, .string m5, .int .i64 vn, .int .i64 g1, .int .i64 g2, .int .i64 g3, .int .i64 g4, .int .i64 g5, .slice sa k sc, .int .i64 x1, .int .u8 x2.toNat, .string x3, .bool gl] 50) * (pts b11 (.cells #[.int .i64 0, .int .i64 0, .int .i64 0, .int .i64 0, .int .i64 0, .int .i64 0, .slice none 0 0] 40) * (B * own W)))) by ac_rfl)
            have r0 := hsat.cell (i := 0) rfl
            have r1 := hsat.cell (i := 1) rfl
            have r2 := hsat.cell (i := 2) rfl
            have r3 := hsat.cell (i := 3) rfl
            have r4 := hsat.cell (i := 4) rfl
            have s0 := hsat.r.cell (i := 0) rfl
            have s1 := hsat.r.cell (i := 1) rfl
            have s2 := hsat.r.cell (i := 2) rfl
            have s3 := hsat.r.cell (i := 3) rfl
            have s4 := hsat.r.cell (i := 4) rfl
            have a1 := hsat.lt
            have a2 := hsat.r.lt
            have hqm := fun w => run_neq_mean w ⟨l1, l2, l3, l4, l5⟩ ⟨m1, m2, m3, m4, m5⟩
            simp only [Mean.val] at hqm
            have HEQ := Lib.hid (show E = 0 → meanB ⟨l1, l2, l3, l4, l5⟩ ⟨m1, m2, m3, m4, m5⟩ = true from fun h => (meanB_eq _ _).2 (by rw [← HLK.out]; exact (HJ.out.1 h).1))
            clear hsat H11
            by_cases hE : E = 0
            · subst hE
              rw [HEQ.out rfl] at hqm
              go_wp2_with (go_at_call 8; with_reducible refine Calls.mono (num_any _ _) ?_; rintro e w' ⟨rfl, rfl⟩)
              go_meet
              exact ⟨rfl, Ext.refl _⟩
            · have qe : (E == 0) = false := by rw [beq_eq_false_iff_ne]; exact hE
              go_wp2_with (go_at_call 8; with_reducible refine Calls.mono (num_any _ _) ?_; rintro e w' ⟨rfl, rfl⟩)
              go_meet
              exact ⟨rfl, Ext.refl _⟩
          case rest =>
            obtain ⟨rfl, hx⟩ := hcut
            have H12 := Lib.hid ((H11.out.ext hx).of_eq (show _ = (pts b11 (.cells #[.int .i64 0, .int .i64 0, .int .i64 0, .int .i64 0, .int .i64 0, .int .i64 0, .slice none 0 0] 40) * (pts b10 (.cells #[.int .i64 l1, .int .i64 l2, .int .i64 l3, .int .i64 l4, .string l5] 52) * B)) * (pts b7 (.cells #[.int .i64 m1, .int .i64 m2, .int .i64 m3, .int .i64 m4, .string m5] 52) * (pts bo (.cells #[.int .i64 kd, .int .i64 cl, .int .i64 i, .int .i64 n, .string name, .int .i64 m1, .int .i64 m2, .int .i64 m3, .int .i64 m4, .string m5, .int .i64 vn, .int .i64 g1, .int .i64 g2, .int .i64 g3, .int .i64 g4, .int .i64 g5, .slice sa k sc, .int .i64 x1, .int .u8 x2.toNat, .string x3, .bool gl] 50) * own W)) by ac_rfl))
            clear hx H11
            generalize pts b11 (.cells #[.int .i64 0, .int .i64 0, .int .i64 0, .int .i64 0, .int .i64 0, .int .i64 0, .slice none 0 0] 40) * (pts b10 (.cells #[.int .i64 l1, .int .i64 l2, .int .i64 l3, .int .i64 l4, .string l5] 52) * B) = B2 at *
            rcases List.eq_nil_or_concat S.groups with hg | ⟨S0, gr, hg⟩
            · have HDP := Lib.hid (depth_any H12.out)
              rw [hg, List.length_nil] at HDP
              go_wp2_with fail
              refine Calls.mono HDP.out ?_
              rintro e w' ⟨rfl, rfl⟩
              go_wp2_with fail
              refine Calls.mono (knows_tab H12.out) ?_
              rintro e w14 ⟨rfl, h14⟩
              have H14 := Lib.hid h14.sat.r.r.r.toExt
              clear h14
              go_wp2
              go_ret
              exact ⟨rfl, H14.out⟩
            · rw [List.concat_eq_append] at hg
              have HDP := Lib.hid (depth_any H12.out)
              have hlen : S.groups.length = S0.length + 1 := by rw [hg]; simp
              rw [hlen] at HDP
              have HEN := Lib.hid (end_some S0 gr hg (HOK.out gr (by rw [hg]; simp)) H12.out)
              have HOK2 := Lib.hid (ended_ok HOK.out hg)
              have HJ2 := Lib.hid (glob_end HFE.out HJ.out hg)
              have HLE := Lib.hid hlen
              have qd : (((S0.length + 1 : Nat) : Int) == 0) = false := by rw [beq_eq_false_iff_ne]; omega
              generalize hsl : ((S0.length + 1 : Nat) : Int) = sl at *
              clear hg hlen hsl
              go_wp2_with fail
              refine Calls.mono HDP.out ?_
              rintro e w' ⟨rfl, rfl⟩
              go_wp2_with fail
              refine Calls.mono HEN.out ?_
              rintro e w14 ⟨rfl, N14, h14⟩
              have H14 := Lib.hid h14
              clear h14
              go_wp2_with (go_at_call 8; with_reducible refine Calls.mono (num_any _ _) ?_; rintro e w' ⟨rfl, rfl⟩)
              go_roundg S0.length
              case measure => have := HLE.out; omega
              case rel => exact ⟨S.ended S0 gr, N14, B2, rfl, HOK2.out, HJ2.out, H14.out⟩

end Go.Proofs.Ytebggkgciocciaa
