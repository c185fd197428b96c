
/-
  The law of groups in which nothing is changed globally. Conditions: those that each theorem names.
-/
import Derived.Test.YtebggkgciocciaaTabAN
import Derived.Test.YtebggkgciocciaaTabAK
namespace Go.Proofs.Ytebggkgciocciaa
open Go.RowKit Go.Sp
variable {W w w' : World} {F A : HProp}

theorem TabAt.codes {b N : Nat} {S : TabS} (h : TabAt W F b N S w) (L : List Int) : TabAt W (pts w.heap.size (codesO L 60) * F) b N S ((w.alloc (.cells zc256 60)).setRow w.heap.size (L.map (Value.int .i64)).toArray) := by
  obtain ⟨Y, h1, h2⟩ := h.focus
  have h3 : Sat W (pts w.heap.size (codesO (List.replicate 256 0) 60) * (F * Y)) (w.alloc (.cells zc256 60)) := h1.alloc _
  exact h2 _ _ (h3.setRowC (M := L)).asc'

theorem RdO.range {v : Value} {L : List (OpS × Value)} (h : RdO W v L) {k : Nat} (hk : k < L.length) : ∃ a cap b off, v = .slice a L.length cap ∧ a = some ⟨b, off, none⟩ ∧ (∀ w', Ext W w' → w'.rangeAt b (off + k * 21) (L[k].1.cells L[k].2).toList) ∧
    ∀ w', Ext W w' → w'.cell? ⟨b, off + k * 21, none⟩ = some (.int .i64 L[k].1.kind) := by
  obtain ⟨a, cap, h1, h2⟩ := h.val
  obtain ⟨b, off, h3, h4⟩ := h2 k hk
  exact ⟨a, cap, b, off, h1, h3, fun w' hx j u hu => hx.cell (h4 j u (by rw [Array.getElem?_toList] at hu; exact hu)), fun w' hx => hx.cell (h4 0 _ rfl)⟩

theorem load_mean {w : World} {b : Nat} {l1 l2 l3 l4 : Int} {l5 : ByteArray} (h0 : w.cell? ⟨b, 0, none⟩ = some (.int .i64 l1)) (h1 : w.cell? ⟨b, 1, none⟩ = some (.int .i64 l2)) (h2 : w.cell? ⟨b, 2, none⟩ = some (.int .i64 l3)) (h3 : w.cell? ⟨b, 3, none⟩ = some (.int .i64 l4)) (h4 : w.cell? ⟨b, 4, none⟩ = some (.string l5)) :
    (Instr.loadAt 52 (.pointer (some ⟨b, 0, none⟩))).run Try.prog w = .ok (.agg #[.int .i64 l1, .int .i64 l2, .int .i64 l3, .int .i64 l4, .string l5]) w :=
  run_loadAt_mid (P := Try.prog) w b 0 52 [.int .i64 l1, .int .i64 l2, .int .i64 l3, .int .i64 l4, .string l5] _ (fun j v hj => by
    rcases j with _ | _ | _ | _ | _ | j <;> simp at hj <;> subst hj <;> assumption) Try.underlying52 rfl (by kernel_rfl)
theorem load_glue {w : World} {b : Nat} {l1 l2 l3 l4 l5 : Int} (h0 : w.cell? ⟨b, 1, none⟩ = some (.int .i64 l1)) (h1 : w.cell? ⟨b, 2, none⟩ = some (.int .i64 l2)) (h2 : w.cell? ⟨b, 3, none⟩ = some (.int .i64 l3)) (h3 : w.cell? ⟨b, 4, none⟩ = some (.int .i64 l4)) (h4 : w.cell? ⟨b, 5, none⟩ = some (.int .i64 l5)) :
    (Instr.loadAt 38 (.pointer (some ⟨b, 1, none⟩))).run Try.prog w = .ok (.agg #[.int .i64 l1, .int .i64 l2, .int .i64 l3, .int .i64 l4, .int .i64 l5]) w :=
  run_loadAt_mid (P := Try.prog) w b 1 38 [.int .i64 l1, .int .i64 l2, .int .i64 l3, .int .i64 l4, .int .i64 l5] _ (fun j v hj => by
    rcases j with _ | _ | _ | _ | _ | j <;> simp at hj <;> subst hj <;> assumption) Try.underlying38 rfl (by kernel_rfl)
/-- what stays readable: what was told ahead of the group -/
structure GrpF (W w : World) (bo b10 b11 b12 : Nat) (cl i : Int) (name : ByteArray) (lk : Mean) (z : RegS) (za : Value) (fl : List Int) : Prop where
  ext : Ext W w
  o1 : w.cell? ⟨bo, 1, none⟩ = some (.int .i64 cl)
  o2 : w.cell? ⟨bo, 2, none⟩ = some (.int .i64 i)
  o4 : w.cell? ⟨bo, 4, none⟩ = some (.string name)
  m0 : w.cell? ⟨b10, 0, none⟩ = some (.int .i64 lk.kind)
  m1 : w.cell? ⟨b10, 1, none⟩ = some (.int .i64 lk.cls)
  m2 : w.cell? ⟨b10, 2, none⟩ = some (.int .i64 lk.code)
  m3 : w.cell? ⟨b10, 3, none⟩ = some (.int .i64 lk.cat)
  m4 : w.cell? ⟨b10, 4, none⟩ = some (.string lk.text)
  v0 : w.cell? ⟨b11, 0, none⟩ = some (.int .i64 z.n)
  v1 : w.cell? ⟨b11, 1, none⟩ = some (.int .i64 z.g.nat)
  v2 : w.cell? ⟨b11, 2, none⟩ = some (.int .i64 z.g.stretch)
  v3 : w.cell? ⟨b11, 3, none⟩ = some (.int .i64 z.g.shrink)
  v4 : w.cell? ⟨b11, 4, none⟩ = some (.int .i64 z.g.so)
  v5 : w.cell? ⟨b11, 5, none⟩ = some (.int .i64 z.g.ko)
  v6 : w.cell? ⟨b11, 6, none⟩ = some za
  toks : RdT w za z.toks
  cod : w.heap[b12]? = some (codesO fl 60)
  l0 : bo < w.heap.size
  l1 : b10 < w.heap.size
  l2 : b11 < w.heap.size
  l3 : b12 < w.heap.size

theorem grpF {bo b10 b11 b12 : Nat} {cl i : Int} {name : ByteArray} {lk : Mean} {z : RegS} {za : Value} {fl : List Int} {CO : Array Value} (h1 : CO[1]? = some (.int .i64 cl)) (h2 : CO[2]? = some (.int .i64 i)) (h4 : CO[4]? = some (.string name))
    (h : Sat W (pts b12 (codesO fl 60) * (pts b11 (.cells #[.int .i64 z.n, .int .i64 z.g.nat, .int .i64 z.g.stretch, .int .i64 z.g.shrink, .int .i64 z.g.so, .int .i64 z.g.ko, za] 40) * (rowT za z.toks * (pts b10 (.cells #[.int .i64 lk.kind, .int .i64 lk.cls, .int .i64 lk.code, .int .i64 lk.cat, .string lk.text] 52) * (pts bo (.cells CO 50) * own W))))) w) :
    GrpF W w bo b10 b11 b12 cl i name lk z za fl where
  ext := h.r.r.r.r.r.toExt
  o1 := h.r.r.r.r.cell h1
  o2 := h.r.r.r.r.cell h2
  o4 := h.r.r.r.r.cell h4
  m0 := h.r.r.r.cell rfl
  m1 := h.r.r.r.cell rfl
  m2 := h.r.r.r.cell rfl
  m3 := h.r.r.r.cell rfl
  m4 := h.r.r.r.cell rfl
  v0 := h.r.cell rfl
  v1 := h.r.cell rfl
  v2 := h.r.cell rfl
  v3 := h.r.cell rfl
  v4 := h.r.cell rfl
  v5 := h.r.cell rfl
  v6 := h.r.cell rfl
  toks := rowT_rd h.r.r
  cod := h.blk
  l0 := h.r.r.r.r.lt
  l1 := h.r.r.r.lt
  l2 := h.r.lt
  l3 := h.lt

set_option maxRecDepth 100000 in
set_option maxHeartbeats 8000000 in
theorem groups_law (v u : Value) (ops ins : List (OpS × Value)) (o : OpS) (s : Value) (W : World) (hv : RdO W v ops) (hu : RdO W u ins) (hn : ops.length ≤ 1048576) (hm : ins.length ≤ 1048576) :
    Calls Try.prog 6 #[v, u, o.val s] W fun e w' => e = .returned (.bool true) ∧ Ext W w' := by
  obtain ⟨a, cap, hva, -⟩ := hv.val
  subst hva
  obtain ⟨a2, cap2, hua, -⟩ := hu.val
  subst hua
  have HV := Lib.hid hv
  have HU := Lib.hid hu
  obtain ⟨nx, hnx⟩ : ∃ n, ops.length = n := ⟨_, rfl⟩
  rw [hnx] at HV hn
  rw [hnx]
  have HNX := Lib.hid hnx
  obtain ⟨ny, hny⟩ : ∃ n, ins.length = n := ⟨_, rfl⟩
  rw [hny] at HU hm
  rw [hny]
  have HNY := Lib.hid hny
  obtain ⟨cl, hcl⟩ : ∃ x, o.cls = x := ⟨_, rfl⟩
  obtain ⟨i, hi⟩ : ∃ x, o.i = x := ⟨_, rfl⟩
  obtain ⟨name, hname⟩ : ∃ x, o.name = x := ⟨_, rfl⟩
  have k1 : (o.cells s)[1]? = some (.int .i64 cl) := by rw [← hcl]; rfl
  have k2 : (o.cells s)[2]? = some (.int .i64 i) := by rw [← hi]; rfl
  have k4 : (o.cells s)[4]? = some (.string name) := by rw [← hname]; rfl
  show Calls _ _ #[_, _, .agg (o.cells s)] _ _
  obtain ⟨CO, hCO⟩ : ∃ CO, o.cells s = CO := ⟨_, rfl⟩
  rw [hCO] at k1 k2 k4
  rw [hCO]
  have K1 := Lib.hid k1
  have K2 := Lib.hid k2
  have K4 := Lib.hid k4
  have hb := (Sat.start W).alloc (.cells CO 50)
  obtain ⟨bo, hbo⟩ : ∃ bo, W.heap.size = bo := ⟨_, rfl⟩
  rw [hbo] at hb
  have HNEW := Lib.hid (new_any hb)
  clear hb hv hu hnx hny k1 k2 k4 hcl hi hname hCO o
  go_enter Try.func6, Try.ntmps6
  go_wp2_with fail
  refine Calls.mono HNEW.out ?_
  rintro e w1 ⟨p, rfl, h1⟩
  have H1 := Lib.hid h1
  clear h1 HNEW hbo
  go_wp2_with fail
  go_loopg [8] nx (fun gg s8 wx => ∃ (q : Nat) (S : TabS) (N : Nat), q ≤ nx ∧ gg = nx - q ∧ s8 = .int .i64 q ∧ S.ok ∧ TabAt W (pts bo (.cells CO 50) * own W) p N S wx)
  case atStart => exact ⟨0, newS, 0, by omega, rfl, by go_num, (fun g hg => by cases hg), H1.out⟩
  case round =>
    obtain ⟨q, S, N, hq, rfl, rfl, hok, hx⟩ := hrel
    have HX := Lib.hid hx
    have HOK := Lib.hid hok
    clear hx hok H1
    by_cases hlt : q < nx
    · have i1 : (q : Int) < (nx : Int) := by omega
      obtain ⟨a', cap', b', off, hva, rfl, hat, hgb⟩ := HV.out.load (k := q) (by rw [HNX.out]; exact hlt)
      simp only [Value.slice.injEq, HNX.out, true_and] at hva
      obtain ⟨rfl, rfl⟩ := hva
      obtain ⟨⟨oq, sq⟩, hoq⟩ : ∃ x, ops[q]'(by rw [HNX.out]; exact hlt) = x := ⟨_, rfl⟩
      rw [hoq] at hat hgb
      have hmem : (oq, sq) ∈ ops := by rw [← hoq]; exact List.getElem_mem _
      have HT := Lib.hid (HV.out.toks _ hmem)
      have HLN := Lib.hid (HV.out.len _ hmem)
      have HAT := Lib.hid hat
      have HGB := Lib.hid hgb
      clear hat hgb hoq hmem
      have HAP := Lib.hid (apply_any oq sq oq.glob HOK.out HLN.out (fun w' h => HT.out.ext h.r.toExt) HX.out.drewD)
      go_upto_region 5 with fail
      have HE := Lib.hid HX.out.drewD.sat.r.toExt
      refine wp_region_E (fun w' => Ext W w') (by kernel_rfl) ?_
      generalize wr.drew = W2 at *
      refine wpE_take (i := 0) (q := 10) (v := ?_) rfl (by kernel_rfl) (by kernel_rfl) (by kernel_rfl) (by kernel_rfl) (by kernel_rfl) (fun _ _ _ h => h) (by rfl) ?_ ?_
      rotate_left 1
      · intro w hw; go_simp; try with_reducible rfl
      refine wpE_take (i := 1) (q := 3) (v := ?_) rfl (by kernel_rfl) (by kernel_rfl) (by kernel_rfl) (by kernel_rfl) (by kernel_rfl) (fun _ _ _ h => h) (by rfl) ?_ ?_
      rotate_left 1
      · intro w hw; go_simp; try with_reducible rfl
      refine wpE_take (i := 2) (q := 3) (v := ?_) rfl (by kernel_rfl) (by kernel_rfl) (by kernel_rfl) (by kernel_rfl) (by kernel_rfl) (fun _ _ _ h => h) (by rfl) ?_ ?_
      rotate_left 1
      · intro w hw; go_simp; try with_reducible rfl
      refine wpE_take (i := 3) (q := 4) (v := ?_) rfl (by kernel_rfl) (by kernel_rfl) (by kernel_rfl) (by kernel_rfl) (by kernel_rfl) (fun _ _ _ h => h) (by rfl) ?_ ?_
      rotate_left 1
      · intro w hw; go_simp; try with_reducible rfl
      refine wpE_take (i := 4) (q := 10) (v := oq.val sq) rfl (by kernel_rfl) (by kernel_rfl) (by kernel_rfl) (by kernel_rfl) (by kernel_rfl) (fun _ _ _ h => h) (by rfl) (fun w hw => ?_) ?_
      · refine exec_load_mid 50 (.tmp 29) rfl b' (off + q * 21) ?_ (oq.val sq) (HAT.out w hw)
        first | (go_simp; done) | rfl
      refine wpE_take (i := 5) (q := 7) (v := ?_) rfl (by kernel_rfl) (by kernel_rfl) (by kernel_rfl) (by kernel_rfl) (by kernel_rfl) (fun _ _ _ h => h) (by rfl) ?_ ?_
      rotate_left 1
      · intro w hw; go_simp; try with_reducible rfl
      refine wpE_take (i := 6) (q := 7) (v := ?_) rfl (by kernel_rfl) (by kernel_rfl) (by kernel_rfl) (by kernel_rfl) (by kernel_rfl) (fun _ _ _ h => h) (by rfl) ?_ ?_
      rotate_left 1
      · intro w hw; go_simp; try with_reducible rfl
      refine wpE_take (i := 7) (q := 8) (v := ?_) rfl (by kernel_rfl) (by kernel_rfl) (by kernel_rfl) (by kernel_rfl) (by kernel_rfl) (fun _ _ _ h => h) (by rfl) ?_ ?_
      rotate_left 1
      · intro w hw; go_simp; try with_reducible rfl
      refine wpE_take (i := 8) (q := 9) (v := ?_) rfl (by kernel_rfl) (by kernel_rfl) (by kernel_rfl) (by kernel_rfl) (by kernel_rfl) (fun _ _ _ h => h) (by rfl) ?_ ?_
      rotate_left 1
      · intro w hw; go_simp; try with_reducible rfl
      refine wpE_take (i := 9) (q := 10) (v := ?_) rfl (by kernel_rfl) (by kernel_rfl) (by kernel_rfl) (by kernel_rfl) (by kernel_rfl) (fun _ _ _ h => h) (by rfl) ?_ ?_
      rotate_left 1
      · intro w hw; (have hgb := HGB.out _ hw; go_simp; try with_reducible rfl)
      refine wpE_one (i := 10) rfl (by kernel_rfl) (HE.out) (fun K hK => ?_)
      go_simp
      refine Calls.mono HAP.out ?_
      rintro e w3 ⟨rfl, S', N', hst, h3⟩
      have HOK2 := Lib.hid (step_ok HOK.out hst)
      have H3 := Lib.hid h3
      clear hst h3 HAP HX HE
      go_simp
      refine hK _ _ ?_
      clear hK K
      refine wpE_done (by kernel_rfl) (by kernel_rfl) ?_
      go_wp2
      go_roundg (nx - (q + 1))
      case measure => omega
      case rel => exact ⟨q + 1, S', N', by omega, rfl, by go_num, HOK2.out, H3.out⟩
    · obtain rfl : nx = q := by omega
      have p4 := HX.out.sat.cell K4.out
      have lo := HX.out.sat.lt
      go_wp2_with fail
      refine Calls.mono (look_any name HX.out) ?_
      rintro e w8 ⟨rfl, h8⟩
      obtain ⟨lk, hlk⟩ : ∃ lk, lookN S.names name = lk := ⟨_, rfl⟩
      have HLK := Lib.hid hlk
      rw [hlk]
      obtain ⟨l1, l2, l3, l4, l5⟩ := lk
      simp only [Mean.val]
      have h9 := h8.allocX (.cells #[.int .i64 l1, .int .i64 l2, .int .i64 l3, .int .i64 l4, .string l5] 52)
      obtain ⟨b10, hb10⟩ : ∃ b10, w8.heap.size = b10 := ⟨_, rfl⟩
      rw [hb10] at h9
      have H9 := Lib.hid h9
      clear p4 lo h8 h9 hlk HX
      go_upto_region 7 with fail
      generalize w8.alloc (.cells #[.int .i64 l1, .int .i64 l2, .int .i64 l3, .int .i64 l4, .string l5] 52) = W9 at *
      clear hb10
      have p1 := H9.out.sat.r.cell K1.out
      have p2 := H9.out.sat.r.cell K2.out
      have lo := H9.out.sat.r.lt
      have hget := get_all cl i H9.out
      obtain ⟨z, hz⟩ : ∃ z, getV S cl i = z := ⟨_, rfl⟩
      rw [hz] at hget
      have HZ := Lib.hid hz
      obtain ⟨er, her⟩ : ∃ er, wrongE cl i = er := ⟨_, rfl⟩
      have HER := Lib.hid her
      rw [her] at hget
      have HGET := Lib.hid hget
      clear hget hz her
      go_wp2_with fail
      refine Calls.mono HGET.out ?_
      rintro e w10 ⟨ua, rfl, h10⟩
      obtain ⟨za, zc, rfl⟩ := h10.sat.rowT_value
      obtain ⟨zn, ⟨z1, z2, z3, z4, z5⟩, ZL⟩ := z
      simp only [valA] at *
      obtain ⟨zk, hzk⟩ : ∃ zk, ZL.length = zk := ⟨_, rfl⟩
      rw [hzk] at h10
      rw [hzk]
      have HZK := Lib.hid hzk
      have h11 := h10.allocX (.cells #[.int .i64 zn, .int .i64 z1, .int .i64 z2, .int .i64 z3, .int .i64 z4, .int .i64 z5, .slice za zk zc] 40)
      obtain ⟨b11, hb11⟩ : ∃ b11, w10.heap.size = b11 := ⟨_, rfl⟩
      rw [hb11] at h11
      have H11 := Lib.hid h11
      clear h10 h11 H9 HGET p1 p2 lo hzk
      go_upto_region 8 with fail
      generalize w10.alloc (.cells #[.int .i64 zn, .int .i64 z1, .int .i64 z2, .int .i64 z3, .int .i64 z4, .int .i64 z5, .slice za zk zc] 40) = W11 at *
      clear hb11
      have HCD := Lib.hid (codes_any H11.out)
      obtain ⟨fl, hfl⟩ : ∃ fl, tabCodes S = fl := ⟨_, rfl⟩
      have HFL := Lib.hid hfl
      have HFN := Lib.hid (show fl.length = 256 by rw [← hfl]; exact tabCodes_len S)
      rw [hfl] at HCD
      clear hfl
      go_wp2_with fail
      refine Calls.mono HCD.out ?_
      rintro e w12 ⟨rfl, h12⟩
      have hb12 := ((Sat.start w12).alloc (.cells zc256 60)).blk
      have H13 := Lib.hid (h12.codes fl)
      clear h12 H11 HCD
      go_simp
      go_step
      refine wpList_plain rfl (fun K hK => ?_)
      go_simp
      refine hK _ _ ?_
      clear hK K
      refine wpList_store_row (by rfl) 60 (.tmp 12) (.tmp 51) (by rfl) w12.heap.size (fl.map (Value.int .i64)).toArray (by rfl) (by rfl) _ _ hb12 ?_ ?_ ?_ ?_
      · rw [size_codes]; simp [HFN.out]
      · simp [HFN.out]
      · exact one_codes fl
      clear hb12
      generalize (w12.alloc (.cells zc256 60)).setRow w12.heap.size (fl.map (Value.int .i64)).toArray = W13 at *
      generalize w12.heap.size = b12 at *
      obtain ⟨FB, hFB⟩ : ∃ FB, pts b12 (codesO fl 60) * (pts b11 (.cells #[.int .i64 zn, .int .i64 z1, .int .i64 z2, .int .i64 z3, .int .i64 z4, .int .i64 z5, .slice za zk zc] 40) * (rowT (.slice za zk zc) ZL * (pts b10 (.cells #[.int .i64 l1, .int .i64 l2, .int .i64 l3, .int .i64 l4, .string l5] 52) * (pts bo (.cells CO 50) * own W)))) = FB := ⟨_, rfl⟩
      have HFB := Lib.hid (show ∀ w', Sat W FB w' → GrpF W w' bo b10 b11 b12 cl i name ⟨l1, l2, l3, l4, l5⟩ ⟨zn, ⟨z1, z2, z3, z4, z5⟩, ZL⟩ (.slice za zk zc) fl from fun w' h => grpF K1.out K2.out K4.out (by rw [← hFB] at h; exact h))
      rw [hFB] at H13
      have HDP := Lib.hid (depth_any H13.out)
      have HBG := Lib.hid (begin_any 3 H13.out)
      obtain ⟨dn, hdn⟩ : ∃ dn, S.groups.length = dn := ⟨_, rfl⟩
      have HDN := Lib.hid hdn
      have hd2 : dn ≤ 200 := by rw [← hdn]; exact H13.out.le
      rw [hdn] at HDP
      clear hFB
      by_cases hbe : beginE S 3 = 0
      · rw [hbe, beginS, if_pos hbe] at HBG
        go_wp2_with fail
        refine Calls.mono HDP.out ?_
        rintro e w' ⟨rfl, rfl⟩
        go_wp2_with fail
        refine Calls.mono HBG.out ?_
        rintro e w14 ⟨rfl, h14⟩
        have H14 := Lib.hid h14
        clear h14 HBG HDP H13 hbe hdn
        go_wp2_with (go_at_call 8; with_reducible refine Calls.mono (num_any _ _) ?_; rintro e w' ⟨rfl, rfl⟩)
        go_loopg [14] ny (fun gg s14 wx => ∃ (q : Nat) (S' : TabS) (N' : Nat) (G : List GrpS), q ≤ ny ∧ gg = ny - q ∧ s14 = .int .i64 q ∧ S'.ok ∧ 0 < G.length ∧ Above S S' G ∧ TabAt W FB p N' S' wx)
        case atStart => exact ⟨0, S.begun 3, N, [grp0 3], by omega, rfl, by go_num, (fun g hg => by
          simp only [TabS.begun, List.mem_append, List.mem_singleton] at hg
          rcases hg with hg | rfl
          · exact HOK.out g hg
          · exact keysOK_grp0 3), by simp, (above_nil S).begun 3, H14.out⟩
        case round =>
          obtain ⟨q, S', N', G, hq, rfl, rfl, hok, hG, hab, hx⟩ := hrel
          have HX := Lib.hid hx
          have HOK1 := Lib.hid hok
          have HAB := Lib.hid hab
          have HGL := Lib.hid hG
          clear hx hok hab hG H14
          by_cases hlt : q < ny
          · have i1 : (q : Int) < (ny : Int) := by omega
            have HEX := Lib.hid (HFB.out _ HX.out.sat).ext
            obtain ⟨a', cap', b', off, hva, rfl, hat, hkd⟩ := HU.out.range (k := q) (by rw [HNY.out]; exact hlt)
            simp only [Value.slice.injEq, HNY.out, true_and] at hva
            obtain ⟨rfl, rfl⟩ := hva
            obtain ⟨⟨oq, sq⟩, hoq⟩ : ∃ x, ins[q]'(by rw [HNY.out]; exact hlt) = x := ⟨_, rfl⟩
            rw [hoq] at hat hkd
            have hmem : (oq, sq) ∈ ins := by rw [← hoq]; exact List.getElem_mem _
            have HT := Lib.hid (HU.out.toks _ hmem)
            have HLN := Lib.hid (HU.out.len _ hmem)
            have HAT := Lib.hid hat
            have c0 := hkd _ HEX.out
            simp only at c0
            have HAP := Lib.hid (apply_any oq sq false HOK1.out HLN.out (fun w' h => HT.out.ext (HFB.out _ h).ext) HX.out)
            have HDP := Lib.hid (depth_any HX.out)
            obtain ⟨m, hm⟩ : ∃ m, S'.groups.length = m := ⟨_, rfl⟩
            have HM := Lib.hid hm
            rw [hm] at HDP
            have hd3 : m ≤ 200 := by rw [← hm]; exact HX.out.le
            clear hat hkd hoq hmem hm
            by_cases hk2 : oq.kind = 2
            · rw [hk2] at c0
              by_cases hg1 : m ≤ dn + 1
              · have i2 : (m : Int) ≤ (dn : Int) + 1 := by omega
                go_wp2_with fail
                refine Calls.mono HDP.out ?_
                rintro e w' ⟨rfl, rfl⟩
                go_wp2
                go_roundg (ny - (q + 1))
                case measure => omega
                case rel => exact ⟨q + 1, S', N', G, by omega, rfl, by go_num, HOK1.out, HGL.out, HAB.out, HX.out⟩
              · have i2 : ¬ (m : Int) ≤ (dn : Int) + 1 := by omega
                have HO := Lib.hid (show oq.kind = 2 → S.groups.length + 1 < S'.groups.length from fun _ => by rw [HDN.out, HM.out]; omega)
                go_wp2_with fail
                refine Calls.mono HDP.out ?_
                rintro e w' ⟨rfl, rfl⟩
                go_upto_region 16 with fail
                go_step
                refine wpList_plain rfl (fun K hK => ?_)
                go_simp
                refine hK _ _ ?_
                clear hK K
                refine wpList_plain rfl (fun K hK => ?_)
                go_simp
                refine hK _ _ ?_
                clear hK K
                refine wpList_plain rfl (fun K hK => ?_)
                go_simp
                refine hK _ _ ?_
                clear hK K
                refine wpList_plain rfl (fun K hK => ?_)
                go_simp
                refine hK _ _ ?_
                clear hK K
                refine wpList_load_mid rfl 50 (.tmp 85) rfl b' (off + q * 21) ?_ _ _ (HAT.out _ HEX.out) Try.underlying50 rfl (by kernel_rfl) ?_
                · first | (go_simp; done) | rfl
                rw [show (oq.cells sq).toList.toArray = oq.cells sq from Array.toArray_toList]
                go_wp2_with fail
                refine Calls.mono HAP.out ?_
                rintro e w3 ⟨rfl, S2, N2, hst, h3⟩
                obtain ⟨G2, hG2, hab2⟩ := HAB.out.step HGL.out hst HO.out
                have HOK2 := Lib.hid (step_ok HOK1.out hst)
                have HG2 := Lib.hid hG2
                have HAB2 := Lib.hid hab2
                have H3 := Lib.hid h3
                clear hst h3 hG2 hab2 HAP HX HEX HDP HAT
                go_wp2
                go_roundg (ny - (q + 1))
                case measure => omega
                case rel => exact ⟨q + 1, S2, N2, G2, by omega, rfl, by go_num, HOK2.out, HG2.out, HAB2.out, H3.out⟩
            · have HO := Lib.hid (show oq.kind = 2 → S.groups.length + 1 < S'.groups.length from fun h => absurd h hk2)
              have k2 : (oq.kind == 2) = false := by rw [beq_eq_false_iff_ne]; exact hk2
              go_upto_region 16 with fail
              go_step
              refine wpList_plain rfl (fun K hK => ?_)
              go_simp
              refine hK _ _ ?_
              clear hK K
              refine wpList_plain rfl (fun K hK => ?_)
              go_simp
              refine hK _ _ ?_
              clear hK K
              refine wpList_plain rfl (fun K hK => ?_)
              go_simp
              refine hK _ _ ?_
              clear hK K
              refine wpList_plain rfl (fun K hK => ?_)
              go_simp
              refine hK _ _ ?_
              clear hK K
              refine wpList_load_mid rfl 50 (.tmp 85) rfl b' (off + q * 21) ?_ _ _ (HAT.out _ HEX.out) Try.underlying50 rfl (by kernel_rfl) ?_
              · first | (go_simp; done) | rfl
              rw [show (oq.cells sq).toList.toArray = oq.cells sq from Array.toArray_toList]
              go_wp2_with fail
              refine Calls.mono HAP.out ?_
              rintro e w3 ⟨rfl, S2, N2, hst, h3⟩
              obtain ⟨G2, hG2, hab2⟩ := HAB.out.step HGL.out hst HO.out
              have HOK2 := Lib.hid (step_ok HOK1.out hst)
              have HG2 := Lib.hid hG2
              have HAB2 := Lib.hid hab2
              have H3 := Lib.hid h3
              clear hst h3 hG2 hab2 HAP HX HEX HDP HAT
              go_wp2
              go_roundg (ny - (q + 1))
              case measure => omega
              case rel => exact ⟨q + 1, S2, N2, G2, by omega, rfl, by go_num, HOK2.out, HG2.out, HAB2.out, H3.out⟩
          · obtain rfl : ny = q := by omega
            go_wp2_with fail
            go_loopg [15, 16] G.length (fun gg _ _ wx => ∃ (S2 : TabS) (N2 : Nat) (G2 : List GrpS), gg = G2.length ∧ S2.ok ∧ Above S S2 G2 ∧ TabAt W FB p N2 S2 wx)
            case atStart => exact ⟨S', N', G, rfl, HOK1.out, HAB.out, HX.out⟩
            case round =>
              obtain ⟨S2, N2, G2, rfl, hok, hab, hx⟩ := hrel
              have H2 := Lib.hid hx
              have HOK2 := Lib.hid hok
              have HAB2 := Lib.hid hab
              clear hx hok hab HX HAB HOK1 HGL
              have HDP := Lib.hid (depth_any H2.out)
              rcases List.eq_nil_or_concat G2 with hg2 | ⟨G3, gr, hg2⟩
              · subst hg2
                have hm : S2.groups.length = dn := by rw [HAB2.out.groups, List.append_nil, HDN.out]
                rw [hm] at HDP
                have HM := Lib.hid hm
                have HNM := Lib.hid (show lookN S2.names name = ⟨l1, l2, l3, l4, l5⟩ from (HAB2.out.names name).trans HLK.out)
                have hrg : S2.regs = S.regs := funext HAB2.out.regs
                have hz2 : getV S2 cl i = ⟨zn, ⟨z1, z2, z3, z4, z5⟩, ZL⟩ := by rw [← HZ.out]; unfold getV; rw [hrg]
                have HCD := Lib.hid (show tabCodes S2 = fl by rw [← HFL.out]; unfold tabCodes; rw [hrg])
                have hget := get_all cl i H2.out
                rw [hz2, HER.out] at hget
                simp only [valA] at hget
                have HGET := Lib.hid hget
                have g0 := HFB.out _ H2.out.sat
                have p1 := g0.o1
                have p2 := g0.o2
                have lo := g0.l0
                clear g0 hget hz2 hrg hm
                go_wp2_with fail
                refine Calls.mono HDP.out ?_
                rintro e w' ⟨rfl, rfl⟩
                go_wp2_with fail
                refine Calls.mono HGET.out ?_
                rintro e w20 ⟨ub, rfl, h20⟩
                obtain ⟨xa, xc, rfl⟩ := h20.sat.rowT_value
                rw [HZK.out] at h20
                rw [HZK.out]
                have h21 := h20.allocX (.cells #[.int .i64 zn, .int .i64 z1, .int .i64 z2, .int .i64 z3, .int .i64 z4, .int .i64 z5, .slice xa zk xc] 40)
                obtain ⟨b17, hb17⟩ : ∃ b17, w20.heap.size = b17 := ⟨_, rfl⟩
                rw [hb17] at h21
                have H21 := Lib.hid h21
                clear h20 h21 p1 p2 lo HGET HDP H2
                go_upto_region 22 with fail
                generalize w20.alloc (.cells #[.int .i64 zn, .int .i64 z1, .int .i64 z2, .int .i64 z3, .int .i64 z4, .int .i64 z5, .slice xa zk xc] 40) = W21 at *
                clear hb17
                have HSM := Lib.hid (fun w (h : Sat W (pts b17 (.cells #[.int .i64 zn, .int .i64 z1, .int .i64 z2, .int .i64 z3, .int .i64 z4, .int .i64 z5, .slice xa zk xc] 40) * (rowT (.slice xa zk xc) ZL * FB)) w) => sameT_any ZL ZL (.slice za zk zc) (.slice xa zk xc) w (HFB.out _ h.r.r).toks (rowT_rd h.r))
                have hqm := fun w => run_eql_mean w ⟨l1, l2, l3, l4, l5⟩ ⟨l1, l2, l3, l4, l5⟩
                rw [(meanB_eq _ _).2 rfl] at hqm
                simp only [Mean.val] at hqm
                have hqg := fun w => run_eql_glue2 w ⟨z1, z2, z3, z4, z5⟩
                simp only [Gl.val] at hqg
                have hqc := run_eql_codes fl HFN.out
                obtain ⟨C, hC⟩ : ∃ C : World → Prop, C = fun w' => Sat W (pts b17 (.cells #[.int .i64 zn, .int .i64 z1, .int .i64 z2, .int .i64 z3, .int .i64 z4, .int .i64 z5, .slice xa zk xc] 40) * (rowT (.slice xa zk xc) ZL * FB)) w' := ⟨_, rfl⟩
                have HC := Lib.hid (show ∀ w', C w' → GrpF W w' bo b10 b11 b12 cl i name ⟨l1, l2, l3, l4, l5⟩ ⟨zn, ⟨z1, z2, z3, z4, z5⟩, ZL⟩ (.slice za zk zc) fl ∧ w'.cell? ⟨b17, 0, none⟩ = some (.int .i64 zn) ∧ w'.cell? ⟨b17, 1, none⟩ = some (.int .i64 z1) ∧ w'.cell? ⟨b17, 2, none⟩ = some (.int .i64 z2) ∧ w'.cell? ⟨b17, 3, none⟩ = some (.int .i64 z3) ∧ w'.cell? ⟨b17, 4, none⟩ = some (.int .i64 z4) ∧ w'.cell? ⟨b17, 5, none⟩ = some (.int .i64 z5) ∧ w'.cell? ⟨b17, 6, none⟩ = some (.slice xa zk xc) from fun w' h => by
                  rw [hC] at h
                  exact ⟨HFB.out _ h.r.r, h.cell rfl, h.cell rfl, h.cell rfl, h.cell rfl, h.cell rfl, h.cell rfl, h.cell rfl⟩)
                have HC2 := Lib.hid (show ∀ w', Sat W (pts b17 (.cells #[.int .i64 zn, .int .i64 z1, .int .i64 z2, .int .i64 z3, .int .i64 z4, .int .i64 z5, .slice xa zk xc] 40) * (rowT (.slice xa zk xc) ZL * FB)) w' → C w' from fun w' h => by rw [hC]; exact h)
                have H22 := Lib.hid (H21.out.of_eq (show _ = pts b17 (.cells #[.int .i64 zn, .int .i64 z1, .int .i64 z2, .int .i64 z3, .int .i64 z4, .int .i64 z5, .slice xa zk xc] 40) * (rowT (.slice xa zk xc) ZL * FB) from rfl)).drewD
                clear H21 hC
                refine wp_region_C C (by kernel_rfl) ?_
                generalize W21.drew = W22 at *
                refine wpC_take (i := 0) (v := ?_) rfl (by kernel_rfl) (by kernel_rfl) (by kernel_rfl) (fun _ _ _ h => h) (by kernel_rfl) ?_ ?_
                rotate_left 1
                · intro w hw; go_simp; try with_reducible rfl
                refine wpC_take (i := 2) (v := ?_) rfl (by kernel_rfl) (by kernel_rfl) (by kernel_rfl) (fun _ _ _ h => h) (by kernel_rfl) ?_ ?_
                rotate_left 1
                · intro w hw; go_simp; try with_reducible rfl
                have HDP := Lib.hid (depth_any H22.out)
                rw [HM.out] at HDP
                refine wpC_one (i := 1) rfl (by kernel_rfl) (HC2.out _ H22.out.sat) (fun K hK => ?_)
                go_simp
                refine Calls.mono HDP.out ?_
                rintro e w' ⟨rfl, rfl⟩
                go_simp
                refine hK _ _ ?_
                clear hK K
                refine wpC_take (i := 3) (v := ?_) rfl (by kernel_rfl) (by kernel_rfl) (by kernel_rfl) (fun _ _ _ h => h) (by kernel_rfl) ?_ ?_
                rotate_left 1
                · intro w hw; go_simp; try with_reducible rfl
                refine wpC_take (i := 4) (v := ?_) rfl (by kernel_rfl) (by kernel_rfl) (by kernel_rfl) (fun _ _ _ h => h) (by kernel_rfl) ?_ ?_
                rotate_left 1
                · intro w hw; go_simp; try with_reducible rfl
                refine wpC_take (i := 5) (v := ?_) rfl (by kernel_rfl) (by kernel_rfl) (by kernel_rfl) (fun _ _ _ h => h) (by kernel_rfl) ?_ ?_
                rotate_left 1
                · intro w hw; go_simp; try with_reducible rfl
                refine wpC_take (i := 6) (v := ?_) rfl (by kernel_rfl) (by kernel_rfl) (by kernel_rfl) (fun _ _ _ h => h) (by kernel_rfl) ?_ ?_
                rotate_left 1
                · intro w hw; go_simp; try with_reducible rfl
                refine wpC_take (i := 7) (v := ?_) rfl (by kernel_rfl) (by kernel_rfl) (by kernel_rfl) (fun _ _ _ h => h) (by kernel_rfl) ?_ ?_
                rotate_left 1
                · intro w hw; obtain ⟨g, x0, x1, x2, x3, x4, x5, x6⟩ := HC.out _ hw; (have q4 := g.o4); go_simp; try with_reducible rfl
                refine wpC_take (i := 9) (v := (.agg #[.int .i64 l1, .int .i64 l2, .int .i64 l3, .int .i64 l4, .string l5])) rfl (by kernel_rfl) (by kernel_rfl) (by kernel_rfl) (fun _ _ _ h => h) (by kernel_rfl) (fun w hw => ?_) ?_
                · obtain ⟨g, x0, x1, x2, x3, x4, x5, x6⟩ := HC.out _ hw
                  refine exec_load_mid 52 (.tmp 9) rfl b10 0 ?_ (.agg #[.int .i64 l1, .int .i64 l2, .int .i64 l3, .int .i64 l4, .string l5]) (load_mean g.m0 g.m1 g.m2 g.m3 g.m4)
                  kernel_rfl
                refine wpC_one (i := 8) rfl (by kernel_rfl) (HC2.out _ H22.out.sat) (fun K hK => ?_)
                go_simp
                refine Calls.mono (look_any name H22.out) ?_
                rintro e w23 ⟨rfl, h23⟩
                have H23 := Lib.hid h23
                rw [HNM.out]
                simp only [Mean.val]
                clear h23 HDP H22
                go_simp
                refine hK _ _ ?_
                clear hK K
                refine wpC_take (i := 10) (v := ?_) rfl (by kernel_rfl) (by kernel_rfl) (by kernel_rfl) (fun _ _ _ h => h) (by kernel_rfl) ?_ ?_
                rotate_left 1
                · intro w hw; go_simp; try with_reducible rfl
                refine wpC_take (i := 11) (v := ?_) rfl (by kernel_rfl) (by kernel_rfl) (by kernel_rfl) (fun _ _ _ h => h) (by kernel_rfl) ?_ ?_
                rotate_left 1
                · intro w hw; go_simp; try with_reducible rfl
                refine wpC_take (i := 12) (v := ?_) rfl (by kernel_rfl) (by kernel_rfl) (by kernel_rfl) (fun _ _ _ h => h) (by kernel_rfl) ?_ ?_
                rotate_left 1
                · intro w hw; go_simp; try with_reducible rfl
                refine wpC_take (i := 13) (v := ?_) rfl (by kernel_rfl) (by kernel_rfl) (by kernel_rfl) (fun _ _ _ h => h) (by kernel_rfl) ?_ ?_
                rotate_left 1
                · intro w hw; go_simp; try with_reducible rfl
                refine wpC_take (i := 15) (v := ?_) rfl (by kernel_rfl) (by kernel_rfl) (by kernel_rfl) (fun _ _ _ h => h) (by kernel_rfl) ?_ ?_
                rotate_left 1
                · intro w hw; go_simp; try with_reducible rfl
                refine wpC_one (i := 14) rfl (by kernel_rfl) (HC2.out _ H23.out.sat) (fun K hK => ?_)
                go_simp
                refine Calls.mono (num_any _ _) ?_
                rintro e w' ⟨rfl, rfl⟩
                go_simp
                refine hK _ _ ?_
                clear hK K
                refine wpC_one (i := 16) rfl (by kernel_rfl) (HC2.out _ H23.out.sat) (fun K hK => ?_)
                go_simp
                refine Calls.mono (num_any _ _) ?_
                rintro e w' ⟨rfl, rfl⟩
                go_simp
                refine hK _ _ ?_
                clear hK K
                refine wpC_take (i := 17) (v := ?_) rfl (by kernel_rfl) (by kernel_rfl) (by kernel_rfl) (fun _ _ _ h => h) (by kernel_rfl) ?_ ?_
                rotate_left 1
                · intro w hw; go_simp; try with_reducible rfl
                refine wpC_take (i := 18) (v := ?_) rfl (by kernel_rfl) (by kernel_rfl) (by kernel_rfl) (fun _ _ _ h => h) (by kernel_rfl) ?_ ?_
                rotate_left 1
                · intro w hw; go_simp; try with_reducible rfl
                refine wpC_take (i := 19) (v := ?_) rfl (by kernel_rfl) (by kernel_rfl) (by kernel_rfl) (fun _ _ _ h => h) (by kernel_rfl) ?_ ?_
                rotate_left 1
                · intro w hw; go_simp; try with_reducible rfl
                refine wpC_take (i := 20) (v := ?_) rfl (by kernel_rfl) (by kernel_rfl) (by kernel_rfl) (fun _ _ _ h => h) (by kernel_rfl) ?_ ?_
                rotate_left 1
                · intro w hw; go_simp; try with_reducible rfl
                refine wpC_take (i := 21) (v := ?_) rfl (by kernel_rfl) (by kernel_rfl) (by kernel_rfl) (fun _ _ _ h => h) (by kernel_rfl) ?_ ?_
                rotate_left 1
                · intro w hw; obtain ⟨g, x0, x1, x2, x3, x4, x5, x6⟩ := HC.out _ hw; (have v0 := g.v0); go_simp; try with_reducible rfl
                refine wpC_take (i := 22) (v := ?_) rfl (by kernel_rfl) (by kernel_rfl) (by kernel_rfl) (fun _ _ _ h => h) (by kernel_rfl) ?_ ?_
                rotate_left 1
                · intro w hw; go_simp; try with_reducible rfl
                refine wpC_take (i := 23) (v := ?_) rfl (by kernel_rfl) (by kernel_rfl) (by kernel_rfl) (fun _ _ _ h => h) (by kernel_rfl) ?_ ?_
                rotate_left 1
                · intro w hw; obtain ⟨g, x0, x1, x2, x3, x4, x5, x6⟩ := HC.out _ hw; (have v0 := g.v0); go_simp; try with_reducible rfl
                refine wpC_take (i := 24) (v := ?_) rfl (by kernel_rfl) (by kernel_rfl) (by kernel_rfl) (fun _ _ _ h => h) (by kernel_rfl) ?_ ?_
                rotate_left 1
                · intro w hw; go_simp; try with_reducible rfl
                refine wpC_take (i := 25) (v := ?_) rfl (by kernel_rfl) (by kernel_rfl) (by kernel_rfl) (fun _ _ _ h => h) (by kernel_rfl) ?_ ?_
                rotate_left 1
                · intro w hw; go_simp; try with_reducible rfl
                refine wpC_take (i := 26) (v := ?_) rfl (by kernel_rfl) (by kernel_rfl) (by kernel_rfl) (fun _ _ _ h => h) (by kernel_rfl) ?_ ?_
                rotate_left 1
                · intro w hw; go_simp; try with_reducible rfl
                refine wpC_take (i := 27) (v := ?_) rfl (by kernel_rfl) (by kernel_rfl) (by kernel_rfl) (fun _ _ _ h => h) (by kernel_rfl) ?_ ?_
                rotate_left 1
                · intro w hw; go_simp; try with_reducible rfl
                refine wpC_take (i := 28) (v := (.agg #[.int .i64 z1, .int .i64 z2, .int .i64 z3, .int .i64 z4, .int .i64 z5])) rfl (by kernel_rfl) (by kernel_rfl) (by kernel_rfl) (fun _ _ _ h => h) (by kernel_rfl) (fun w hw => ?_) ?_
                · obtain ⟨g, x0, x1, x2, x3, x4, x5, x6⟩ := HC.out _ hw
                  refine exec_load_mid 38 (.tmp 136) rfl b11 1 ?_ (.agg #[.int .i64 z1, .int .i64 z2, .int .i64 z3, .int .i64 z4, .int .i64 z5]) (load_glue g.v1 g.v2 g.v3 g.v4 g.v5)
                  kernel_rfl
                refine wpC_take (i := 29) (v := ?_) rfl (by kernel_rfl) (by kernel_rfl) (by kernel_rfl) (fun _ _ _ h => h) (by kernel_rfl) ?_ ?_
                rotate_left 1
                · intro w hw; go_simp; try with_reducible rfl
                refine wpC_take (i := 30) (v := (.agg #[.int .i64 z1, .int .i64 z2, .int .i64 z3, .int .i64 z4, .int .i64 z5])) rfl (by kernel_rfl) (by kernel_rfl) (by kernel_rfl) (fun _ _ _ h => h) (by kernel_rfl) (fun w hw => ?_) ?_
                · obtain ⟨g, x0, x1, x2, x3, x4, x5, x6⟩ := HC.out _ hw
                  refine exec_load_mid 38 (.tmp 138) rfl b17 1 ?_ (.agg #[.int .i64 z1, .int .i64 z2, .int .i64 z3, .int .i64 z4, .int .i64 z5]) (load_glue x1 x2 x3 x4 x5)
                  kernel_rfl
                refine wpC_take (i := 31) (v := ?_) rfl (by kernel_rfl) (by kernel_rfl) (by kernel_rfl) (fun _ _ _ h => h) (by kernel_rfl) ?_ ?_
                rotate_left 1
                · intro w hw; go_simp; try with_reducible rfl
                refine wpC_take (i := 32) (v := ?_) rfl (by kernel_rfl) (by kernel_rfl) (by kernel_rfl) (fun _ _ _ h => h) (by kernel_rfl) ?_ ?_
                rotate_left 1
                · intro w hw; go_simp; try with_reducible rfl
                refine wpC_take (i := 33) (v := ?_) rfl (by kernel_rfl) (by kernel_rfl) (by kernel_rfl) (fun _ _ _ h => h) (by kernel_rfl) ?_ ?_
                rotate_left 1
                · intro w hw; go_simp; try with_reducible rfl
                refine wpC_take (i := 34) (v := ?_) rfl (by kernel_rfl) (by kernel_rfl) (by kernel_rfl) (fun _ _ _ h => h) (by kernel_rfl) ?_ ?_
                rotate_left 1
                · intro w hw; go_simp; try with_reducible rfl
                refine wpC_take (i := 35) (v := ?_) rfl (by kernel_rfl) (by kernel_rfl) (by kernel_rfl) (fun _ _ _ h => h) (by kernel_rfl) ?_ ?_
                rotate_left 1
                · intro w hw; obtain ⟨g, x0, x1, x2, x3, x4, x5, x6⟩ := HC.out _ hw; (have v6 := g.v6); go_simp; try with_reducible rfl
                refine wpC_take (i := 36) (v := ?_) rfl (by kernel_rfl) (by kernel_rfl) (by kernel_rfl) (fun _ _ _ h => h) (by kernel_rfl) ?_ ?_
                rotate_left 1
                · intro w hw; go_simp; try with_reducible rfl
                refine wpC_take (i := 37) (v := ?_) rfl (by kernel_rfl) (by kernel_rfl) (by kernel_rfl) (fun _ _ _ h => h) (by kernel_rfl) ?_ ?_
                rotate_left 1
                · intro w hw; obtain ⟨g, x0, x1, x2, x3, x4, x5, x6⟩ := HC.out _ hw; (have v6 := g.v6); go_simp; try with_reducible rfl
                refine wpC_one (i := 38) rfl (by kernel_rfl) (HC2.out _ H23.out.sat) (fun K hK => ?_)
                go_simp
                refine Calls.mono (HSM.out _ H23.out.sat) ?_
                rintro e w24 ⟨rfl, q, rfl⟩
                rw [show decide (ZL = ZL) = true from decide_eq_true rfl]
                have H24 := Lib.hid (H23.out.drewN (q := q))
                clear H23
                generalize w23.drewN q = w24 at *
                go_simp
                refine hK _ _ ?_
                clear hK K
                refine wpC_take (i := 39) (v := ?_) rfl (by kernel_rfl) (by kernel_rfl) (by kernel_rfl) (fun _ _ _ h => h) (by kernel_rfl) ?_ ?_
                rotate_left 1
                · intro w hw; go_simp; try with_reducible rfl
                refine wpC_take (i := 40) (v := ?_) rfl (by kernel_rfl) (by kernel_rfl) (by kernel_rfl) (fun _ _ _ h => h) (by kernel_rfl) ?_ ?_
                rotate_left 1
                · intro w hw; go_simp; try with_reducible rfl
                refine wpC_take (i := 41) (v := ?_) rfl (by kernel_rfl) (by kernel_rfl) (by kernel_rfl) (fun _ _ _ h => h) (by kernel_rfl) ?_ ?_
                rotate_left 1
                · intro w hw; go_simp; try with_reducible rfl
                refine wpC_take (i := 43) (v := ?_) rfl (by kernel_rfl) (by kernel_rfl) (by kernel_rfl) (fun _ _ _ h => h) (by kernel_rfl) ?_ ?_
                rotate_left 1
                · intro w hw; refine exec_load_row 60 (.tmp 12) ?_ b12 ?_ 60 _ _ _ (HC.out _ hw).1.cod Try.underlying60 (by rfl) (by rw [size_codes]; simp [HFN.out]); rfl; kernel_rfl
                have hcd := codes_any H24.out
                rw [HCD.out] at hcd
                have HCA := Lib.hid hcd
                clear hcd
                refine wpC_one (i := 42) rfl (by kernel_rfl) (HC2.out _ H24.out.sat) (fun K hK => ?_)
                go_simp
                refine Calls.mono HCA.out ?_
                rintro e w25 ⟨rfl, h25⟩
                have H25 := Lib.hid h25
                clear h25 HCA H24
                go_simp
                refine hK _ _ ?_
                clear hK K
                refine wpC_take (i := 44) (v := ?_) rfl (by kernel_rfl) (by kernel_rfl) (by kernel_rfl) (fun _ _ _ h => h) (by kernel_rfl) ?_ ?_
                rotate_left 1
                · intro w hw; go_simp; try with_reducible rfl
                refine wpC_take (i := 45) (v := ?_) rfl (by kernel_rfl) (by kernel_rfl) (by kernel_rfl) (fun _ _ _ h => h) (by kernel_rfl) ?_ ?_
                rotate_left 1
                · intro w hw; go_simp; try with_reducible rfl
                refine wpC_take (i := 46) (v := ?_) rfl (by kernel_rfl) (by kernel_rfl) (by kernel_rfl) (fun _ _ _ h => h) (by kernel_rfl) ?_ ?_
                rotate_left 1
                · intro w hw; go_simp; try with_reducible rfl
                refine wpC_one (i := 47) rfl (by kernel_rfl) (HC2.out _ H25.out.sat) (fun K hK => ?_)
                go_simp
                refine Calls.mono (knows_tab H25.out) ?_
                rintro e w26 ⟨rfl, h26⟩
                have H26 := Lib.hid h26
                clear h26 H25
                go_simp
                refine hK _ _ ?_
                clear hK K
                refine wpC_take (i := 48) (v := ?_) rfl (by kernel_rfl) (by kernel_rfl) (by kernel_rfl) (fun _ _ _ h => h) (by kernel_rfl) ?_ ?_
                rotate_left 1
                · intro w hw; go_simp; try with_reducible rfl
                refine wpC_one (i := 49) rfl (by kernel_rfl) (HC2.out _ H26.out.sat) (fun K hK => ?_)
                go_simp
                refine hK _ _ ?_
                clear hK K
                refine wpC_done (by kernel_rfl) (HC2.out _ H26.out.sat) ?_
                have H27 := Lib.hid (HFB.out _ H26.out.sat.r.r).ext
                clear H26 HC HC2
                go_wp2
                go_ret
                exact ⟨rfl, H27.out⟩
              · rw [List.concat_eq_append] at hg2
                have hgs : S2.groups = (S.groups ++ G3) ++ [gr] := by rw [HAB2.out.groups, hg2, List.append_assoc]
                have hlen : S2.groups.length = dn + G3.length + 1 := by rw [hgs]; simp only [List.length_append, List.length_singleton, HDN.out]
                obtain ⟨m, hm⟩ : ∃ m, dn + G3.length + 1 = m := ⟨_, rfl⟩
                rw [hlen, hm] at HDP
                have i2 : (dn : Int) < (m : Int) := by omega
                have HEN := Lib.hid (end_some (S.groups ++ G3) gr hgs (HOK2.out gr (by rw [hgs]; simp)) H2.out)
                have HOK3 := Lib.hid (ended_ok HOK2.out hgs)
                have hab3 := HAB2.out
                rw [hg2] at hab3
                have HAB3 := Lib.hid (hab3.ended gr)
                have HLL := Lib.hid (show G3.length < G2.length by rw [hg2]; simp)
                clear hgs hlen hm hab3 HAB2
                go_wp2_with fail
                refine Calls.mono HDP.out ?_
                rintro e w' ⟨rfl, rfl⟩
                go_wp2_with fail
                refine Calls.mono HEN.out ?_
                rintro e w14 ⟨rfl, N3, h14⟩
                have H14 := Lib.hid h14
                clear h14
                go_wp2_with (go_at_call 8; with_reducible refine Calls.mono (num_any _ _) ?_; rintro e w' ⟨rfl, rfl⟩)
                go_roundg G3.length
                case measure => exact HLL.out
                case rel => exact ⟨_, N3, G3, rfl, HOK3.out, HAB3.out, H14.out⟩
      · have hl : S.groups.length = 200 := by
          by_cases hl : S.groups.length = 200
          · exact hl
          · exact absurd (by rw [beginE, if_neg (by omega), if_neg hl]) hbe
        have he : beginE S 3 = 6 := by rw [beginE, if_neg (by omega), if_pos hl]
        rw [he] at HBG
        obtain rfl : dn = 200 := by rw [← hdn]; exact hl
        clear hdn hl he hbe
        go_wp2_with fail
        refine Calls.mono HDP.out ?_
        rintro e w' ⟨rfl, rfl⟩
        go_wp2_with fail
        refine Calls.mono HBG.out ?_
        rintro e w14 ⟨rfl, h14⟩
        have H14 := Lib.hid h14
        clear h14 HBG HDP H13
        go_wp2_with (go_at_call 8; with_reducible refine Calls.mono (num_any _ _) ?_; rintro e w' ⟨rfl, rfl⟩)
        refine Calls.mono (knows_tab H14.out) ?_
        rintro e w15 ⟨rfl, h15⟩
        have H15 := Lib.hid (HFB.out _ h15.sat).ext
        go_wp2
        go_ret
        exact ⟨rfl, H15.out⟩

end Go.Proofs.Ytebggkgciocciaa
