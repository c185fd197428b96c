import Derived.Test.YticljfpippbkkaaMNRD
import Derived.Test.YticljfpippbkkaaMTS
/-
  The document's table, of one state: names. Conditions: those that each theorem names.
-/
namespace Go.Proofs.Yticljfpippbkkaa
open Go.RowKit Go.Sp
variable {W w w' : World} {F A : HProp}

theorem ba_inj {a b : ByteArray} (h : a.toList = b.toList) : a = b := by
  rw [ByteArray.toList_eq, ByteArray.toList_eq] at h
  exact ByteArray.ext (Array.toList_inj.1 h)
theorem run_eql_meanR (w : World) (m : Mean) : (binOp .eql 105 m.val m.val).run Try.prog w = .ok (.bool true) w := by
  obtain ⟨a, b, c, d, e⟩ := m
  have h : (Op.equalIn 10000 105 (Mean.val ⟨a, b, c, d, e⟩) (Mean.val ⟨a, b, c, d, e⟩)).run Try.prog w = .ok true w := by
    go_simp
  simp only [binOp]
  simp [Op.equal, Op.maxDepth, h]
/-- a meaning that a name may get -/
def MeanOk (m : Mean) : Prop :=
  (m.kind = 1 ∧ m.cls = 0 ∧ m.code = 0 ∧ m.cat = 0 ∧ m.text ≠ ⟨#[]⟩) ∨
  (m.kind = 3 ∧ m.cls = 0 ∧ 0 ≤ m.code ∧ m.code < 256 ∧ 0 ≤ m.cat ∧ m.cat < 16 ∧ m.text = ⟨#[]⟩) ∨
  (m.kind = 4 ∧ 1 ≤ m.cls ∧ m.cls ≤ 4 ∧ 0 ≤ m.code ∧ m.code < 256 ∧ m.cat = 0 ∧ m.text = ⟨#[]⟩)
abbrev mnOR (m : Mean) : Obj := .cells #[.int .i64 m.kind, .int .i64 m.cls, .int .i64 m.code, .int .i64 m.cat, .string m.text] 105
set_option maxRecDepth 100000 in
set_option maxHeartbeats 4000000 in
theorem meanR_any (m : Mean) (hm : MeanOk m) (w : World) : Calls Try.prog 71 #[m.val] w fun e w' => e = .returned (.bool true) ∧ Ext w w' := by
  obtain ⟨m1, m2, m3, m4, m5⟩ := m
  have HX := Lib.hid (show Ext w (w.alloc (mnOR ⟨m1, m2, m3, m4, m5⟩)) from (Ext.refl w).alloc)
  have HQ := Lib.hid (fun w => run_eql_meanR w ⟨m1, m2, m3, m4, m5⟩)
  rcases hm with ⟨h1, h2, h3, h4, h5⟩ | ⟨h1, h2, h3, h3', h4, h4', h5⟩ | ⟨h1, h2, h2', h3, h3', h4, h5⟩
  · simp only at h1 h2 h3 h4 h5
    subst h1 h2 h3 h4
    have q1 := HQ.out
    simp only [Mean.val] at q1
    have b0 : (m5.toList == []) = false := by
      rw [beq_eq_false_iff_ne]
      intro h
      exact h5 (ba_inj (h.trans (by rw [ByteArray.toList_eq])))
    have b1 : (m5.toList != []) = true := by rw [bne, b0]; rfl
    clear h5
    go_enter Try.func71, Try.ntmps71
    go_wp2
    go_ret
    exact ⟨rfl, HX.out⟩
  · simp only at h1 h2 h3 h3' h4 h4' h5
    subst h1 h2 h5
    have q1 := HQ.out
    simp only [Mean.val] at q1
    go_enter Try.func71, Try.ntmps71
    go_wp2
    go_ret
    exact ⟨rfl, HX.out⟩
  · simp only at h1 h2 h2' h3 h3' h4 h5
    subst h1 h4 h5
    have q1 := HQ.out
    simp only [Mean.val] at q1
    go_enter Try.func71, Try.ntmps71
    go_wp2
    go_ret
    exact ⟨rfl, HX.out⟩

def lookL : List (ByteArray × Mean) → ByteArray → Mean
  | [], _ => mean0
  | (k, m) :: L, x => if k = x then m else lookL L x
theorem rowN_at {v : Value} {L : List (ByteArray × Mean)} (h : Sat W (rowN v L * A) w) : ∃ g cap, v = .slice g L.length cap ∧ L.length ≤ maxLen ∧ ∀ i, (hi : i < L.length) → ∃ b, g = some ⟨b, 0, none⟩ ∧ w.cell? ⟨b, i * 6, none⟩ = some (.string (L[i]).1) ∧ w.cell? ⟨b, i * 6 + 1, none⟩ = some (.int .i64 (L[i]).2.kind) ∧
    w.cell? ⟨b, i * 6 + 2, none⟩ = some (.int .i64 (L[i]).2.cls) ∧ w.cell? ⟨b, i * 6 + 3, none⟩ = some (.int .i64 (L[i]).2.code) ∧ w.cell? ⟨b, i * 6 + 4, none⟩ = some (.int .i64 (L[i]).2.cat) ∧ w.cell? ⟨b, i * 6 + 5, none⟩ = some (.string (L[i]).2.text) := by
  unfold rowN at h
  obtain ⟨g, cap, rfl, hv⟩ := h.row_val
  refine ⟨g, cap, rfl, h.row_len.2, fun i hi => ?_⟩
  obtain ⟨b, e0, c0⟩ := hv _ _ (flatN_get L i 0 _ hi rfl)
  obtain ⟨b1, e1, c1⟩ := hv _ _ (flatN_get L i 1 _ hi rfl)
  obtain ⟨b2, e2, c2⟩ := hv _ _ (flatN_get L i 2 _ hi rfl)
  obtain ⟨b3, e3, c3⟩ := hv _ _ (flatN_get L i 3 _ hi rfl)
  obtain ⟨b4, e4, c4⟩ := hv _ _ (flatN_get L i 4 _ hi rfl)
  obtain ⟨b5, e5, c5⟩ := hv _ _ (flatN_get L i 5 _ hi rfl)
  subst e0
  cases e1; cases e2; cases e3; cases e4; cases e5
  exact ⟨b, rfl, c0, c1, c2, c3, c4, c5⟩
theorem st_names (nv : Value) (R : Nat → RegV) : (stCells nv R)[1]? = some nv := by rw [st_get, if_neg (by omega), if_pos rfl]
set_option maxRecDepth 100000 in
set_option maxHeartbeats 4000000 in
/-- a name's meaning in a state -/
theorem lookR_any {bs : Nat} {nv : Value} {R : Nat → RegV} {NL : List (ByteArray × Mean)} (k : ByteArray) (h : Sat W (pts bs (.cells (stCells nv R) 132) * (rowN nv NL * F)) w) :
    Calls Try.prog 73 #[.pointer (some ⟨bs, 0, none⟩), .string k] w fun e w' => e = .returned (lookL NL k).val ∧ Sat W (pts bs (.cells (stCells nv R) 132) * (rowN nv NL * F)) w' := by
  obtain ⟨g, cap, rfl, hml, -⟩ := rowN_at h.r
  have lm : (NL.length : Int) ≤ 9223372036854775807 := by simp only [maxLen] at hml; omega
  have h1 := h.alloc (mnOR mean0)
  obtain ⟨b4, hb4⟩ : ∃ b4, w.heap.size = b4 := ⟨_, rfl⟩
  obtain ⟨w1, hw1⟩ : ∃ w1, w.alloc (mnOR mean0) = w1 := ⟨_, rfl⟩
  rw [hb4, hw1] at h1
  have H1 := Lib.hid h1
  clear h h1 hml
  go_enter Try.func73, Try.ntmps73
  go_upto_region 1 with fail
  (try rw [show w.alloc (.cells #[.int .i64 0, .int .i64 0, .int .i64 0, .int .i64 0, .string ⟨#[]⟩] 105) = w1 from hw1])
  clear hw1 hb4
  go_wp2_with fail
  go_loopg [5] NL.length (fun gg s5 wx => ∃ i : Nat, i ≤ NL.length ∧ gg = NL.length - i ∧ s5 = .int .i64 i ∧ lookL NL k = lookL (NL.drop i) k ∧ Sat W (pts b4 (mnOR mean0) * (pts bs (.cells (stCells (.slice g NL.length cap) R) 132) * (rowN (.slice g NL.length cap) NL * F))) wx)
  case atStart => exact ⟨0, by omega, rfl, rfl, rfl, H1.out⟩
  case round =>
    obtain ⟨i, hi, rfl, rfl, hlk, hx⟩ := hrel
    have c1 := hx.r.cell (i := 1) (st_names _ R)
    have lb := hx.r.lt
    have d0 : wr.cell? ⟨b4, 0, none⟩ = some (.int .i64 0) := hx.cell (i := 0) rfl
    have d1 : wr.cell? ⟨b4, 1, none⟩ = some (.int .i64 0) := hx.cell (i := 1) rfl
    have d2 : wr.cell? ⟨b4, 2, none⟩ = some (.int .i64 0) := hx.cell (i := 2) rfl
    have d3 : wr.cell? ⟨b4, 3, none⟩ = some (.int .i64 0) := hx.cell (i := 3) rfl
    have d4 : wr.cell? ⟨b4, 4, none⟩ = some (.string ⟨#[]⟩) := hx.cell (i := 4) rfl
    have e0 := hx.free (i := 0)
    have e1 := hx.free (i := 1)
    have e2 := hx.free (i := 2)
    have e3 := hx.free (i := 3)
    have e4 := hx.free (i := 4)
    have l4 := hx.lt
    by_cases hlt : i < NL.length
    · obtain ⟨g', cap', hgv, -, hat⟩ := rowN_at hx.r.r
      cases hgv
      obtain ⟨bn, rfl, n0, n1, n2, n3, n4, n5⟩ := hat i hlt
      clear hat
      have hd : NL.drop i = NL[i] :: NL.drop (i + 1) := List.drop_eq_getElem_cons hlt
      generalize NL[i] = nn at *
      obtain ⟨kk, m1, m2, m3, m4, m5⟩ := nn
      simp only at n0 n1 n2 n3 n4 n5
      have HX := Lib.hid hx
      have HL := Lib.hid hlk
      have HD := Lib.hid hd
      have i1 : (i : Int) < NL.length := by omega
      clear hx hlk hd hlt
      by_cases hk : kk = k
      · subst hk
        have hr : lookL NL kk = ⟨m1, m2, m3, m4, m5⟩ := by rw [HL.out, HD.out, lookL, if_pos rfl]
        have HR := Lib.hid hr
        have h9 := ((((HX.out.set (i := 0) (v := .int .i64 m1)).set (i := 1) (v := .int .i64 m2)).set (i := 2) (v := .int .i64 m3)).set (i := 3) (v := .int .i64 m4)).set (i := 4) (v := .string m5)
        have H9 := Lib.hid h9
        clear h9 hr
        go_wp2
        (try simp only [Exit.inBlock, Exit.then])
        refine bodyPost_ret (v := (Mean.val ⟨m1, m2, m3, m4, m5⟩)) (by unfold results; go_simp) rfl ⟨by rw [HR.out], H9.out.r⟩
      · have q0 : (kk.toList == k.toList) = false := by
          rw [beq_eq_false_iff_ne]
          intro h
          exact hk (ba_inj h)
        have hl2 : lookL NL k = lookL (NL.drop (i + 1)) k := by rw [HL.out, HD.out, lookL, if_neg hk]
        have HL2 := Lib.hid hl2
        clear hk hl2 n1 n2 n3 n4 n5
        go_wp2
        go_roundg (NL.length - (i + 1))
        case measure => omega
        case rel => exact ⟨i + 1, by omega, rfl, by go_num, HL2.out, HX.out⟩
    · obtain rfl : i = NL.length := by omega
      have hr : lookL NL k = mean0 := by rw [hlk, List.drop_length]; rfl
      have HR := Lib.hid hr
      have h9 := ((((hx.set (i := 0) (v := .int .i64 0)).set (i := 1) (v := .int .i64 0)).set (i := 2) (v := .int .i64 0)).set (i := 3) (v := .int .i64 0)).set (i := 4) (v := .string ⟨#[]⟩)
      have H9 := Lib.hid h9
      clear h9 hr hlk hx hlt H1
      go_wp2
      (try simp only [Exit.inBlock, Exit.then])
      refine bodyPost_ret (v := (Mean.val ⟨0, 0, 0, 0, ⟨#[]⟩⟩)) (by unfold results; go_simp) rfl ⟨by rw [HR.out]; rfl, H9.out.r⟩
end Go.Proofs.Yticljfpippbkkaa

/-
  The document's table, of one state: a name gets a meaning. Conditions: those that each theorem names.
-/
namespace Go.Proofs.Yticljfpippbkkaa
open Go.RowKit Go.Sp
variable {W w w' : World} {F A : HProp}

theorem info_name : (Try.prog.info? 174).map (fun i => (i.zero, i.size, i.bytes)) = some (some (.agg #[.string ByteArray.empty, .int .i64 0, .int .i64 0, .int .i64 0, .int .i64 0, .string ByteArray.empty]), 6, 64) := by kernel_rfl
theorem rowN_snoc {v : Value} {acc : List (ByteArray × Mean)} {t : ByteArray × Mean} {n : Nat} {xs : List Value} (h : Sat W (row v n 174 6 xs * F) w) (hn : n = acc.length + 1) (hx : xs = flatN acc ++ nmC t) : Sat W (rowN v (acc ++ [t]) * F) w := by
  subst hn hx
  have e : flatN (acc ++ [t]) = flatN acc ++ nmC t := by rw [flatN_app]; simp [flatN]
  unfold rowN
  rw [e, List.length_append]
  exact h
def cutN (L : List (ByteArray × Mean)) (k : ByteArray) : List (ByteArray × Mean) := L.filter (fun x => decide (x.1 ≠ k))
def giveN (L : List (ByteArray × Mean)) (k : ByteArray) (m : Mean) : List (ByteArray × Mean) := cutN L k ++ [(k, m)]
theorem cutN_len (L : List (ByteArray × Mean)) (k : ByteArray) : (cutN L k).length ≤ L.length := List.length_filter_le _ _
theorem cutN_snoc (L : List (ByteArray × Mean)) (k : ByteArray) (i : Nat) (h : i < L.length) : cutN (L.take (i + 1)) k = cutN (L.take i) k ++ (if (L[i]).1 ≠ k then [L[i]] else []) := by
  rw [List.take_succ_eq_append_getElem h, cutN, List.filter_append, cutN]
  congr 1
  by_cases hk : (L[i]).1 = k
  · simp [hk]
  · simp [hk]
set_option maxRecDepth 100000 in
set_option maxHeartbeats 8000000 in
/-- a name gets a meaning, in a state -/
theorem giveR_any {bs : Nat} {nv : Value} {R : Nat → RegV} {NL : List (ByteArray × Mean)} (k : ByteArray) (m : Mean) (hm : m.kind ≠ 0) (hN : NL.length < 2000) (h : Sat W (pts bs (.cells (stCells nv R) 132) * (rowN nv NL * F)) w) :
    Calls Try.prog 74 #[.pointer (some ⟨bs, 0, none⟩), .string k, m.val] w fun e w' => e = .returned (.tuple #[]) ∧ ∃ nv', Sat W (pts bs (.cells (stCells nv' R) 132) * (rowN nv' (giveN NL k m) * F)) w' := by
  obtain ⟨m1, m2, m3, m4, m5⟩ := m
  simp only at hm
  obtain ⟨i0, hi, hz0, hz1, hz2⟩ := info_parts3 info_name
  have HI := Lib.hid hi
  have HZ0 := Lib.hid hz0
  have HZ1 := Lib.hid hz1
  have HZ2 := Lib.hid hz2
  obtain ⟨g, cap, rfl, -, -⟩ := rowN_at h.r
  have h1 := h.alloc (mnOR ⟨m1, m2, m3, m4, m5⟩)
  obtain ⟨b5, hb5⟩ : ∃ b5, w.heap.size = b5 := ⟨_, rfl⟩
  obtain ⟨w1, hw1⟩ : ∃ w1, w.alloc (mnOR ⟨m1, m2, m3, m4, m5⟩) = w1 := ⟨_, rfl⟩
  rw [hb5, hw1] at h1
  have H1 := Lib.hid (h1.row_nil (e := 174) (size := 6))
  obtain ⟨ln, hln⟩ : ∃ ln, NL.length = ln := ⟨_, rfl⟩
  have HLN := Lib.hid hln
  rw [hln] at hN
  clear h h1 hi hz0 hz1 hz2
  go_enter Try.func74, Try.ntmps74
  go_upto_region 1 with fail
  clear hw1 hb5 hln
  rw [HLN.out] at H1
  go_wp2_with fail
  go_loopg [6, 7] ln (fun gg s6 s7 wx => ∃ i : Nat, i ≤ ln ∧ gg = ln - i ∧ s7 = .int .i64 i ∧ Sat W (rowN s6 (cutN (NL.take i) k) * (pts b5 (mnOR ⟨m1, m2, m3, m4, m5⟩) * (pts bs (.cells (stCells (.slice g ln cap) R) 132) * (rowN (.slice g ln cap) NL * F)))) wx)
  case atStart => exact ⟨0, by omega, rfl, rfl, H1.out⟩
  case round =>
    obtain ⟨i, hi, rfl, rfl, hx⟩ := hrel
    have c1 := hx.r.r.cell (i := 1) (st_names _ R)
    have lb := hx.r.r.lt
    have d0 := hx.r.cell (i := 0) rfl
    have d1 := hx.r.cell (i := 1) rfl
    have d2 := hx.r.cell (i := 2) rfl
    have d3 := hx.r.cell (i := 3) rfl
    have d4 := hx.r.cell (i := 4) rfl
    have l4 := hx.r.lt
    obtain ⟨ga, ca, hs6, -, -⟩ := rowN_at hx
    have hcl : (cutN (NL.take i) k).length ≤ i := Nat.le_trans (cutN_len _ _) (by rw [List.length_take]; omega)
    obtain ⟨cl, hc⟩ : ∃ cl, (cutN (NL.take i) k).length = cl := ⟨_, rfl⟩
    rw [hc] at hs6 hcl
    subst hs6
    have HC := Lib.hid hc
    by_cases hlt : i < ln
    · obtain ⟨g', cap', hgv, -, hat⟩ := rowN_at hx.r.r.r
      have hlt2 : i < NL.length := by rw [HLN.out]; exact hlt
      rw [HLN.out] at hgv
      simp only [Value.slice.injEq] at hgv
      obtain ⟨rfl, -, rfl⟩ := hgv
      obtain ⟨bn, rfl, n0, n1, n2, n3, n4, n5⟩ := hat i hlt2
      clear hat
      have hd := cutN_snoc NL k i hlt2
      generalize NL[i] = nn at *
      obtain ⟨kk, p1, p2, p3, p4, p5⟩ := nn
      simp only at n0 n1 n2 n3 n4 n5 hd
      have HX := Lib.hid hx
      have HD := Lib.hid hd
      have i1 : (i : Int) < ln := by omega
      have HHI := Lib.hid hi
      have HCL := Lib.hid hcl
      have HNN := Lib.hid hN
      clear hx hd hlt hlt2 hc hi hcl hN
      by_cases hk : kk = k
      · subst hk
        have HD2 := Lib.hid (show cutN (NL.take (i + 1)) kk = cutN (NL.take i) kk by rw [HD.out, if_neg (by simp), List.append_nil])
        have := HHI.out; have := HNN.out
        have q0 : (!(kk.toList == kk.toList)) = false := by simp
        clear H1 HD
        go_wp2
        go_roundg (ln - (i + 1))
        case measure => omega
        case rel => exact ⟨i + 1, by omega, rfl, by go_num, by rw [HD2.out]; exact HX.out⟩
      · have q0 : (kk.toList == k.toList) = false := by
          rw [beq_eq_false_iff_ne]
          intro h
          exact hk (ba_inj h)
        have q1 : (!(kk.toList == k.toList)) = true := by rw [q0]; rfl
        have HD2 := Lib.hid (show cutN (NL.take (i + 1)) k = cutN (NL.take i) k ++ [(kk, ⟨p1, p2, p3, p4, p5⟩)] by rw [HD.out, if_pos (by simpa using hk)])
        have HX2 := Lib.hid (HX.out.of_eq (show _ = row (.slice ga cl ca) cl 174 6 (flatN (cutN (NL.take i) k)) * (pts b5 (mnOR ⟨m1, m2, m3, m4, m5⟩) * (pts bs (.cells (stCells (.slice (some ⟨bn, 0, none⟩) ln cap) R) 132) * (rowN (.slice (some ⟨bn, 0, none⟩) ln cap) NL * F))) by rw [rowN, HC.out]))
        clear hk HD H1
        go_wp2_with (at_builtin; refine wpList_append_sep rfl _ _ 128 rfl i0 _ 64 Try.underlying128 HI.out HZ0.out HZ1.out HZ2.out rfl rfl HX2.out.allocD ⟨wr.heap.size, 0, none⟩ 1 1 (nmC (kk, ⟨p1, p2, p3, p4, p5⟩)) rfl rfl ?_ ?_ ?_ ?_ ?_)
        · exact fun _ _ h => h
        · simp [Value.oneCell', nmC, Mean.cells]
        · have := HCL.out; have := HHI.out; have := HNN.out; simp [maxLen]; omega
        · have := HCL.out; have := HHI.out; have := HNN.out; omega
        intro v' w5 h7
        have h8 := rowN_snoc (acc := cutN (NL.take i) k) (t := (kk, ⟨p1, p2, p3, p4, p5⟩)) h7 (by rw [HC.out]) rfl
        have H8 := Lib.hid h8
        have := HHI.out; have := HNN.out
        clear h7 h8
        go_wp2
        go_roundg (ln - (i + 1))
        case measure => omega
        case rel => exact ⟨i + 1, by omega, rfl, by go_num, by rw [HD2.out]; exact H8.out⟩
    · obtain rfl : i = ln := by omega
      have htk : NL.take i = NL := by rw [List.take_of_length_le (by rw [HLN.out]; omega)]
      rw [htk] at hx HC
      have hx2 := (hx.of_eq (show _ = row (.slice ga cl ca) cl 174 6 (flatN (cutN NL k)) * (pts b5 (mnOR ⟨m1, m2, m3, m4, m5⟩) * (pts bs (.cells (stCells (.slice g i cap) R) 132) * (rowN (.slice g i cap) NL * F))) by rw [rowN, HC.out]))
      have HX2 := Lib.hid hx2
      have HHN := Lib.hid hN
      have HCL := Lib.hid hcl
      have b0 : (m1 == 0) = false := by rw [beq_eq_false_iff_ne]; exact hm
      have b1 : (m1 != 0) = true := by rw [bne_iff_ne]; exact hm
      clear hx hx2 htk hlt hc H1 hm hN hcl hi
      go_wp2_with (at_builtin; refine wpList_append_sep rfl _ _ 128 rfl i0 _ 64 Try.underlying128 HI.out HZ0.out HZ1.out HZ2.out rfl rfl HX2.out.allocD ⟨wr.heap.size, 0, none⟩ 1 1 (nmC (k, ⟨m1, m2, m3, m4, m5⟩)) rfl rfl ?_ ?_ ?_ ?_ ?_)
      · exact fun _ _ h => h
      · simp [Value.oneCell', nmC, Mean.cells]
      · have := HCL.out; have := HHN.out; simp [maxLen]; omega
      · have := HCL.out; have := HHN.out; omega
      intro v' w5 h7
      have h8 := (rowN_snoc (acc := cutN NL k) (t := (k, ⟨m1, m2, m3, m4, m5⟩)) h7 (by rw [HC.out]) rfl)
      obtain ⟨gv, cv, rfl, -, -⟩ := rowN_at h8
      generalize (cutN NL k ++ [(k, (⟨m1, m2, m3, m4, m5⟩ : Mean))]).length = lv at *
      have h9 := h8.of_eq (show _ = pts bs (.cells (stCells (.slice g i cap) R) 132) * (rowN (.slice gv lv cv) (cutN NL k ++ [(k, ⟨m1, m2, m3, m4, m5⟩)]) * F * (pts b5 (mnOR ⟨m1, m2, m3, m4, m5⟩) * rowN (.slice g i cap) NL)) by ac_rfl)
      have h10 := h9.set (i := 1) (v := .slice gv lv cv)
      rw [st_set_names] at h10
      have H10 := Lib.hid h10
      have e1 := h9.free (i := 1)
      have c9 := h9.cell (i := 1) (st_names _ R)
      have l9 := h9.lt
      clear h7 h8 h9 h10 c1 d0 d1 d2 d3 d4 l4 lb
      go_wp2
      go_end0
      exact ⟨rfl, _, (H10.out.of_eq (show _ = (pts b5 (mnOR ⟨m1, m2, m3, m4, m5⟩) * rowN (.slice g i cap) NL) * (pts bs (.cells (stCells (.slice gv lv cv) R) 132) * (rowN (.slice gv lv cv) (giveN NL k ⟨m1, m2, m3, m4, m5⟩) * F)) by unfold giveN; ac_rfl)).r⟩
end Go.Proofs.Yticljfpippbkkaa

/-
  The document's table, of one state: Define. Conditions: those that each theorem names.
-/
namespace Go.Proofs.Yticljfpippbkkaa
open Go.RowKit Go.Sp
variable {W w w' : World} {F A : HProp}

theorem fldM0 (a b c d e : Value) (w : World) : (Instr.field 105 (.agg #[a, b, c, d, e]) 0).run Try.prog w = .ok a w := by kernel_rfl
attribute [local go_sem] fldM0
set_option maxRecDepth 100000 in
set_option maxHeartbeats 8000000 in
/-- a name gets a meaning that is right, in a table of one state -/
theorem defineR_any {b : Nat} {S : RfS} (k : ByteArray) (m : Mean) (hm : MeanOk m) (hN : S.names.length < 2000) (h : RfAt W F b S w) :
    Calls Try.prog 44 #[.pointer (some ⟨b, 0, none⟩), .string k, m.val, .bool false] w fun e w' => e = .returned (.int .i64 0) ∧ RfAt W F b ⟨giveN S.names k m, S.regs⟩ w' := by
  have hk0 : m.kind ≠ 0 := by rcases hm with h | h | h <;> omega
  have HM := Lib.hid (fun w => meanR_any m hm w)
  obtain ⟨mm, bs, nv, R, hT, hs⟩ := h
  have HT := Lib.hid hT
  have HG := Lib.hid (fun w F (h : Sat W (pts bs (.cells (stCells nv R) 132) * (rowN nv S.names * F)) w) => giveR_any k m hk0 hN h)
  have HLK := Lib.hid (fun w F (h : Sat W (pts bs (.cells (stCells nv R) 132) * (rowN nv S.names * F)) w) => lookR_any k h)
  have HTP := Lib.hid (fun w F (h : Sat W (rfX b bs nv R S.names F) w) => topR_any h)
  obtain ⟨lk, hlk⟩ : ∃ lk, lookL S.names k = lk := ⟨_, rfl⟩
  rw [hlk] at HLK
  obtain ⟨m1, m2, m3, m4, m5⟩ := m
  simp only at hk0
  have b0 : (m1 == 0) = false := by rw [beq_eq_false_iff_ne]; exact hk0
  have b1 : (m1 != 0) = true := by rw [bne_iff_ne]; exact hk0
  have h1 := hs.alloc (mnOR ⟨m1, m2, m3, m4, m5⟩)
  obtain ⟨b6, hb6⟩ : ∃ b6, w.heap.size = b6 := ⟨_, rfl⟩
  obtain ⟨w1, hw1⟩ : ∃ w1, w.alloc (mnOR ⟨m1, m2, m3, m4, m5⟩) = w1 := ⟨_, rfl⟩
  rw [hb6, hw1] at h1
  have H1 := Lib.hid (h1.of_eq (show _ = pts b6 (mnOR ⟨m1, m2, m3, m4, m5⟩) * rfX b bs nv R S.names (roH mm * F) by unfold rfX; ac_rfl))
  obtain ⟨g, cap, hgv, -, -⟩ := rowN_at hs.r.r
  have HN := Lib.hid hN
  clear hm h1 hs hT hk0 hlk hN
  subst hgv
  go_enter Try.func44, Try.ntmps44
  go_upto_region 1 with fail
  (try rw [hw1])
  have d0 := H1.out.cell (i := 0) rfl
  have d1 := H1.out.cell (i := 1) rfl
  have d2 := H1.out.cell (i := 2) rfl
  have d3 := H1.out.cell (i := 3) rfl
  have d4 := H1.out.cell (i := 4) rfl
  clear hw1 hb6
  go_wp2_with fail
  with_reducible refine Calls.mono (HM.out _) ?_
  rintro e w2 ⟨rfl, hx⟩
  have H2 := Lib.hid (H1.out.ext hx)
  have d0 := H2.out.cell (i := 0) rfl
  clear hx H1
  go_wp2_with fail
  with_reducible refine Calls.mono (HTP.out _ _ H2.out.r) ?_
  rintro e w3 ⟨rfl, rfl⟩
  have H3 := Lib.hid H2.out.drew
  obtain ⟨w3, hw3⟩ : ∃ w3, w2.drew = w3 := ⟨_, rfl⟩
  rw [hw3] at H3
  rw [hw3]
  clear H2 hw3 d0 d1 d2 d3 d4
  go_wp2_with fail
  with_reducible refine Calls.mono (HLK.out _ _ (H3.out.of_eq (show _ = pts bs (.cells (stCells (.slice g S.names.length cap) R) 132) * (rowN (.slice g S.names.length cap) S.names * (pts b6 (mnOR ⟨m1, m2, m3, m4, m5⟩) * (pts b (rtO bs) * (roH mm * F)))) by unfold rfX; ac_rfl))) ?_
  rintro e w4 ⟨rfl, h4⟩
  have H4 := Lib.hid (h4.of_eq (show _ = pts b6 (mnOR ⟨m1, m2, m3, m4, m5⟩) * rfX b bs (.slice g S.names.length cap) R S.names (roH mm * F) by unfold rfX; ac_rfl))
  clear h4 H3
  obtain ⟨l1, l2, l3, l4, l5⟩ := lk
  simp only [Mean.val]
  by_cases hl0 : l1 = 0
  · subst hl0
    go_wp2_with fail
    with_reducible refine Calls.mono (HTP.out _ _ H4.out.r) ?_
    rintro e w5 ⟨rfl, rfl⟩
    have H5 := Lib.hid H4.out.drew
    obtain ⟨w5, hw5⟩ : ∃ w5, w4.drew = w5 := ⟨_, rfl⟩
    rw [hw5] at H5
    rw [hw5]
    have c1 := H5.out.r.r.cell (i := 1) (st_names _ R)
    have ls := H5.out.r.r.lt
    have hN := HN.out
    have i1 : (S.names.length : Int) < 2000 := by omega
    clear H4 hw5 hN
    go_wp2_with fail
    clear i1 c1 ls
    go_loopg [9] 1 (fun gg s9 wx => (gg = 1 ∧ s9 = .int .i64 0 ∧ Sat W (pts b6 (mnOR ⟨m1, m2, m3, m4, m5⟩) * rfX b bs (.slice g S.names.length cap) R S.names (roH mm * F)) wx) ∨ (gg = 0 ∧ s9 = .int .i64 1 ∧ RfAt W F b ⟨giveN S.names k ⟨m1, m2, m3, m4, m5⟩, S.regs⟩ wx))
    case atStart => exact .inl ⟨rfl, rfl, H5.out⟩
    case round =>
      rcases hrel with ⟨hg, rfl, hx⟩ | ⟨hg, rfl, hx⟩
      · have HX := Lib.hid hx
        have c0 := hx.r.cell (i := 0) rfl
        have lb := hx.r.lt
        clear hx H5
        go_upto_region 9 with fail
        clear c0 lb
        have hc0 : ∃ X, Sat W (pts b6 (mnOR ⟨m1, m2, m3, m4, m5⟩) * (pts b (rtO bs) * X)) wr.drew := ⟨_, HX.out.drew.of_eq (by unfold rfX; rfl)⟩
        have HC0 := Lib.hid hc0
        clear hc0
        refine wp_region_C (fun w' => ∃ X, Sat W (pts b6 (mnOR ⟨m1, m2, m3, m4, m5⟩) * (pts b (rtO bs) * X)) w') (by kernel_rfl) ?_
        refine wpC_take (i := 0) (v := ?_) rfl (by kernel_rfl) (by kernel_rfl) (by kernel_rfl) (fun _ _ _ h => h) (by rfl) ?_ ?_
        rotate_left 1
        · intro w hw; go_simp; try with_reducible rfl
        refine wpC_take (i := 1) (v := ?_) rfl (by kernel_rfl) (by kernel_rfl) (by kernel_rfl) (fun _ _ _ h => h) (by rfl) ?_ ?_
        rotate_left 1
        · intro w hw; (obtain ⟨X, hw⟩ := hw; have lb := hw.r.lt; go_simp; try with_reducible rfl)
        refine wpC_take (i := 2) (v := ?_) rfl (by kernel_rfl) (by kernel_rfl) (by kernel_rfl) (fun _ _ _ h => h) (by rfl) ?_ ?_
        rotate_left 1
        · intro w hw; (obtain ⟨X, hw⟩ := hw; have lb := hw.r.lt; go_simp; try with_reducible rfl)
        refine wpC_take (i := 3) (v := ?_) rfl (by kernel_rfl) (by kernel_rfl) (by kernel_rfl) (fun _ _ _ h => h) (by rfl) ?_ ?_
        rotate_left 1
        · intro w hw; (obtain ⟨X, hw⟩ := hw; have c0 := hw.r.cell (i := 0) rfl; go_simp; try with_reducible rfl)
        refine wpC_take (i := 4) (v := ?_) rfl (by kernel_rfl) (by kernel_rfl) (by kernel_rfl) (fun _ _ _ h => h) (by rfl) ?_ ?_
        rotate_left 1
        · intro w hw; go_simp; try with_reducible rfl
        refine wpC_take (i := 5) (v := ?_) rfl (by kernel_rfl) (by kernel_rfl) (by kernel_rfl) (fun _ _ _ h => h) (by rfl) ?_ ?_
        rotate_left 1
        · intro w hw; go_simp; try with_reducible rfl
        refine wpC_take (i := 6) (v := ?_) rfl (by kernel_rfl) (by kernel_rfl) (by kernel_rfl) (fun _ _ _ h => h) (by rfl) ?_ ?_
        rotate_left 1
        · intro w hw; go_simp; try with_reducible rfl
        refine wpC_take (i := 7) (v := ?_) rfl (by kernel_rfl) (by kernel_rfl) (by kernel_rfl) (fun _ _ _ h => h) (by rfl) ?_ ?_
        rotate_left 1
        · intro w hw; (obtain ⟨X, hw⟩ := hw; have d0 := hw.cell (i := 0) rfl; have d1 := hw.cell (i := 1) rfl; have d2 := hw.cell (i := 2) rfl; have d3 := hw.cell (i := 3) rfl; have d4 := hw.cell (i := 4) rfl; go_simp; try with_reducible rfl)
        refine wpC_one (i := 8) rfl (by kernel_rfl) (HC0.out) (fun K hK => ?_)
        go_simp
        refine Calls.mono (HG.out _ _ (HX.out.drew.of_eq (show _ = pts bs (.cells (stCells (.slice g S.names.length cap) R) 132) * (rowN (.slice g S.names.length cap) S.names * (pts b6 (mnOR ⟨m1, m2, m3, m4, m5⟩) * (pts b (rtO bs) * (roH mm * F)))) by unfold rfX; ac_rfl))) ?_
        rintro e w8 ⟨rfl, nv', h8⟩
        have HC8 := Lib.hid (show ∃ X, Sat W (pts b6 (mnOR ⟨m1, m2, m3, m4, m5⟩) * (pts b (rtO bs) * X)) w8 from ⟨_, h8.of_eq (show _ = pts b6 (mnOR ⟨m1, m2, m3, m4, m5⟩) * (pts b (rtO bs) * (pts bs (.cells (stCells nv' R) 132) * (rowN nv' (giveN S.names k ⟨m1, m2, m3, m4, m5⟩) * (roH mm * F)))) by ac_rfl)⟩)
        have HE := Lib.hid (show RfAt W F b ⟨giveN S.names k ⟨m1, m2, m3, m4, m5⟩, S.regs⟩ w8 from ⟨mm, bs, nv', R, HT.out, (h8.of_eq (show _ = pts b6 (mnOR ⟨m1, m2, m3, m4, m5⟩) * (pts b (rtO bs) * (pts bs (.cells (stCells nv' R) 132) * (rowN nv' (giveN S.names k ⟨m1, m2, m3, m4, m5⟩) * (roH mm * F)))) by ac_rfl)).r⟩)
        clear h8
        go_simp
        refine hK _ _ ?_
        clear hK K
        refine wpC_done (by kernel_rfl) (HC8.out) ?_
        go_wp2
        go_roundg 0
        case measure => omega
        case rel => exact .inr ⟨rfl, by go_num, HE.out⟩
      · have HX := Lib.hid hx
        clear hx H5
        obtain ⟨m2', bs2, nv2, R2, hT2, hs2⟩ := HX.out
        have c0 := hs2.cell (i := 0) rfl
        have lb := hs2.lt
        clear hT2 hs2
        go_wp2
        go_ret
        exact ⟨rfl, HX.out⟩
  · have q0 : (l1 == 0) = false := by rw [beq_eq_false_iff_ne]; exact hl0
    have H5 := H4
    clear hl0 H4
    go_wp2_with fail
    go_loopg [9] 1 (fun gg s9 wx => (gg = 1 ∧ s9 = .int .i64 0 ∧ Sat W (pts b6 (mnOR ⟨m1, m2, m3, m4, m5⟩) * rfX b bs (.slice g S.names.length cap) R S.names (roH mm * F)) wx) ∨ (gg = 0 ∧ s9 = .int .i64 1 ∧ RfAt W F b ⟨giveN S.names k ⟨m1, m2, m3, m4, m5⟩, S.regs⟩ wx))
    case atStart => exact .inl ⟨rfl, rfl, H5.out⟩
    case round =>
      rcases hrel with ⟨hg, rfl, hx⟩ | ⟨hg, rfl, hx⟩
      · have HX := Lib.hid hx
        have c0 := hx.r.cell (i := 0) rfl
        have lb := hx.r.lt
        clear hx H5
        go_upto_region 9 with fail
        clear c0 lb
        have hc0 : ∃ X, Sat W (pts b6 (mnOR ⟨m1, m2, m3, m4, m5⟩) * (pts b (rtO bs) * X)) wr.drew := ⟨_, HX.out.drew.of_eq (by unfold rfX; rfl)⟩
        have HC0 := Lib.hid hc0
        clear hc0
        refine wp_region_C (fun w' => ∃ X, Sat W (pts b6 (mnOR ⟨m1, m2, m3, m4, m5⟩) * (pts b (rtO bs) * X)) w') (by kernel_rfl) ?_
        refine wpC_take (i := 0) (v := ?_) rfl (by kernel_rfl) (by kernel_rfl) (by kernel_rfl) (fun _ _ _ h => h) (by rfl) ?_ ?_
        rotate_left 1
        · intro w hw; go_simp; try with_reducible rfl
        refine wpC_take (i := 1) (v := ?_) rfl (by kernel_rfl) (by kernel_rfl) (by kernel_rfl) (fun _ _ _ h => h) (by rfl) ?_ ?_
        rotate_left 1
        · intro w hw; (obtain ⟨X, hw⟩ := hw; have lb := hw.r.lt; go_simp; try with_reducible rfl)
        refine wpC_take (i := 2) (v := ?_) rfl (by kernel_rfl) (by kernel_rfl) (by kernel_rfl) (fun _ _ _ h => h) (by rfl) ?_ ?_
        rotate_left 1
        · intro w hw; (obtain ⟨X, hw⟩ := hw; have lb := hw.r.lt; go_simp; try with_reducible rfl)
        refine wpC_take (i := 3) (v := ?_) rfl (by kernel_rfl) (by kernel_rfl) (by kernel_rfl) (fun _ _ _ h => h) (by rfl) ?_ ?_
        rotate_left 1
        · intro w hw; (obtain ⟨X, hw⟩ := hw; have c0 := hw.r.cell (i := 0) rfl; go_simp; try with_reducible rfl)
        refine wpC_take (i := 4) (v := ?_) rfl (by kernel_rfl) (by kernel_rfl) (by kernel_rfl) (fun _ _ _ h => h) (by rfl) ?_ ?_
        rotate_left 1
        · intro w hw; go_simp; try with_reducible rfl
        refine wpC_take (i := 5) (v := ?_) rfl (by kernel_rfl) (by kernel_rfl) (by kernel_rfl) (fun _ _ _ h => h) (by rfl) ?_ ?_
        rotate_left 1
        · intro w hw; go_simp; try with_reducible rfl
        refine wpC_take (i := 6) (v := ?_) rfl (by kernel_rfl) (by kernel_rfl) (by kernel_rfl) (fun _ _ _ h => h) (by rfl) ?_ ?_
        rotate_left 1
        · intro w hw; go_simp; try with_reducible rfl
        refine wpC_take (i := 7) (v := ?_) rfl (by kernel_rfl) (by kernel_rfl) (by kernel_rfl) (fun _ _ _ h => h) (by rfl) ?_ ?_
        rotate_left 1
        · intro w hw; (obtain ⟨X, hw⟩ := hw; have d0 := hw.cell (i := 0) rfl; have d1 := hw.cell (i := 1) rfl; have d2 := hw.cell (i := 2) rfl; have d3 := hw.cell (i := 3) rfl; have d4 := hw.cell (i := 4) rfl; go_simp; try with_reducible rfl)
        refine wpC_one (i := 8) rfl (by kernel_rfl) (HC0.out) (fun K hK => ?_)
        go_simp
        refine Calls.mono (HG.out _ _ (HX.out.drew.of_eq (show _ = pts bs (.cells (stCells (.slice g S.names.length cap) R) 132) * (rowN (.slice g S.names.length cap) S.names * (pts b6 (mnOR ⟨m1, m2, m3, m4, m5⟩) * (pts b (rtO bs) * (roH mm * F)))) by unfold rfX; ac_rfl))) ?_
        rintro e w8 ⟨rfl, nv', h8⟩
        have HC8 := Lib.hid (show ∃ X, Sat W (pts b6 (mnOR ⟨m1, m2, m3, m4, m5⟩) * (pts b (rtO bs) * X)) w8 from ⟨_, h8.of_eq (show _ = pts b6 (mnOR ⟨m1, m2, m3, m4, m5⟩) * (pts b (rtO bs) * (pts bs (.cells (stCells nv' R) 132) * (rowN nv' (giveN S.names k ⟨m1, m2, m3, m4, m5⟩) * (roH mm * F)))) by ac_rfl)⟩)
        have HE := Lib.hid (show RfAt W F b ⟨giveN S.names k ⟨m1, m2, m3, m4, m5⟩, S.regs⟩ w8 from ⟨mm, bs, nv', R, HT.out, (h8.of_eq (show _ = pts b6 (mnOR ⟨m1, m2, m3, m4, m5⟩) * (pts b (rtO bs) * (pts bs (.cells (stCells nv' R) 132) * (rowN nv' (giveN S.names k ⟨m1, m2, m3, m4, m5⟩) * (roH mm * F)))) by ac_rfl)).r⟩)
        clear h8
        go_simp
        refine hK _ _ ?_
        clear hK K
        refine wpC_done (by kernel_rfl) (HC8.out) ?_
        go_wp2
        go_roundg 0
        case measure => omega
        case rel => exact .inr ⟨rfl, by go_num, HE.out⟩
      · have HX := Lib.hid hx
        clear hx H5
        obtain ⟨m2', bs2, nv2, R2, hT2, hs2⟩ := HX.out
        have c0 := hs2.cell (i := 0) rfl
        have lb := hs2.lt
        clear hT2 hs2
        go_wp2
        go_ret
        exact ⟨rfl, HX.out⟩
end Go.Proofs.Yticljfpippbkkaa
