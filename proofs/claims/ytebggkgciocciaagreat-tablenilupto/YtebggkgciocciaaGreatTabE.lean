
/-
  A table: groups begin. Conditions: those that each theorem names.
-/
import Derived.Test.YtebggkgciocciaaGreatTabD
namespace Go.Proofs.YtebggkgciocciaaGreat
open Go.RowKit Go.Sp
variable {W w w' : World} {F A : HProp}

theorem info_grp : (Tryz.prog.info? 83).map (fun i => (i.zero, i.size, i.bytes)) = some (some (.agg #[.int .i64 0, .map none, .map none, .slice none 0 0]), 4, 48) := by kernel_rfl
theorem info_parts3G {P : Program} {e : TypeId} {z : Value} {s b : Nat} (h : (P.info? e).map (fun i => (i.zero, i.size, i.bytes)) = some (some z, s, b)) : ∃ i, P.info? e = some i ∧ i.zero = some z ∧ i.size = s ∧ i.bytes = b := by
  cases hi : P.info? e with
  | none => rw [hi] at h; cases h
  | some i =>
    rw [hi] at h
    simp only [Option.map_some, Option.some.injEq, Prod.mk.injEq] at h
    exact ⟨i, rfl, h.1, h.2.1, h.2.2⟩

def grp0 (k : Int) : GrpS := ⟨k, fun _ => none, fun _ => none, []⟩
def TabS.begun (S : TabS) (k : Int) : TabS := { S with groups := S.groups ++ [grp0 k] }

theorem slices_one {v : Value} {n : Nat} {e : TypeId} {xs : List Value} (h : Sat W (row v n e 3 xs * A) w) : v.oneCell' = true := by
  obtain ⟨a, c, rfl, _⟩ := h.row_val
  rfl

/-- the slices of all groups are one cell each -/
theorem grp_one {m : Nat → Option Obj} : ∀ (V : List GrpV) (S : List GrpS) (w : World), Sat W (grpsH m V S * A) w → ∀ v ∈ V, v.av.oneCell' = true
  | [], _, _, _, v, hv => by simp at hv
  | u :: V, [], _, h, _, _ => by
    have h' : Sat W (fact False emp * A) _ := h
    exact h'.fact_l.1.elim
  | u :: V, s :: S, w, h, v, hv => by
    have h' : Sat W (grp1 m u s * (grpsH m V S * A)) w := h.asc
    rcases List.mem_cons.1 hv with rfl | hv
    · obtain ⟨_, h2⟩ := h'.fact_l
      obtain ⟨nn, h3⟩ := h2.ex_l
      obtain ⟨rn, h4⟩ := h3.ex_l
      obtain ⟨f, h5⟩ := h4.ex_l
      obtain ⟨_, h6⟩ := h5.fact_l
      have h7 := h6.asc.r.asc.r
      exact slices_one h7
    · exact grp_one V S w h'.r v hv

theorem _root_.Go.Sp.Sat.grp_open {m : Nat → Option Obj} {v : GrpV} {s : GrpS} (h : Sat W (grp1 m v s * A) w) : (v.kind = s.kind ∧ s.after.length ≤ 20000) ∧ ∃ (nn rn : Nat) (f : Int × Int → Option RegV), (∀ k, RepO m (f k) (s.regs k)) ∧
    Sat W (mapH Value.string Mean.val v.nb nn s.names * (mapH kE2 RegV.val v.rb rn f * (rowT v.av s.after * A))) w := by
  obtain ⟨h1, h2⟩ := h.fact_l
  obtain ⟨nn, h3⟩ := h2.ex_l
  obtain ⟨rn, h4⟩ := h3.ex_l
  obtain ⟨f, h5⟩ := h4.ex_l
  obtain ⟨h6, h7⟩ := h5.fact_l
  exact ⟨h1, nn, rn, f, h6, h7.of_eq (by ac_rfl)⟩
theorem _root_.Go.Sp.Sat.grp_mk {m : Nat → Option Obj} {v : GrpV} {s : GrpS} {nn rn : Nat} {f : Int × Int → Option RegV} (h : Sat W (mapH Value.string Mean.val v.nb nn s.names * (mapH kE2 RegV.val v.rb rn f * (rowT v.av s.after * A))) w)
    (h1 : v.kind = s.kind ∧ s.after.length ≤ 20000) (h6 : ∀ k, RepO m (f k) (s.regs k)) : Sat W (grp1 m v s * A) w :=
  Sat.fact_l_intro h1 (Sat.ex_l_intro nn (Sat.ex_l_intro rn (Sat.ex_l_intro f (Sat.fact_l_intro h6 (h.of_eq (by ac_rfl))))))

set_option maxRecDepth 100000 in
set_option maxHeartbeats 4000000 in
theorem begin_yes {b N : Nat} {S : TabS} (k : Int) (hk : 0 ≤ k ∧ k ≤ 20) (hg : S.groups.length < 200) (h : TabAt W F b N S w) :
    Calls Tryz.prog 9 #[.pointer (some ⟨b, 0, none⟩), .int .i64 k] w fun e w' => e = .returned (.int .i64 0) ∧ TabAt W F b N (S.begun k) w' := by
  have HG := Lib.hid (good_any h)
  obtain ⟨i0, hi, hz0, hz1, hz2⟩ := info_parts3G info_grp
  have HI := Lib.hid hi
  have HZ0 := Lib.hid hz0
  have HZ1 := Lib.hid hz1
  have HZ2 := Lib.hid hz2
  clear hi hz0 hz1 hz2
  obtain ⟨m, nm, gs, lt, R, V, ⟨h1, h2, h2b, h3, h4⟩, hs⟩ := h
  obtain ⟨a, cap, rfl⟩ := Sat.row_value hs.r.r.r
  have c0 := hs.cell (i := 10753) (tab_groups nm R _ lt)
  have H1 := Lib.hid h1
  have H2 := Lib.hid h2
  have H2b := Lib.hid h2b
  have H3 := Lib.hid h3
  have HS := Lib.hid hs
  obtain ⟨n, hn⟩ : ∃ n, V.length = n := ⟨_, rfl⟩
  have HN := Lib.hid hn
  rw [hn] at c0 HS h3
  have i1 : ¬ k < 0 := by omega
  have i2 : ¬ 20 < k := by omega
  have q1 : ((n : Int) == 200) = false := by rw [beq_eq_false_iff_ne]; omega
  have hn2 : n < 200 := by omega
  have hmm := @run_makeMap Tryz.prog
  clear hs h1 h2 h2b h3 h4 hn hk hg
  go_enter Tryz.func9, Tryz.ntmps9
  go_wp2_with fail
  refine Calls.mono HG.out ?_
  rintro e w' ⟨rfl, rfl⟩
  go_upto_region 7 with fail
  go_step
  refine wpList_plain rfl (fun K hK => ?_)
  go_simp
  refine hK _ _ ?_
  clear hK K
  refine wpList_plain rfl (fun K hK => ?_)
  go_simp
  refine hK _ _ ?_
  clear hK K
  refine wpList_plain rfl (fun K hK => ?_)
  go_simp
  refine hK _ _ ?_
  clear hK K
  refine wpList_plain rfl (fun K hK => ?_)
  go_simp
  refine hK _ _ ?_
  clear hK K
  refine wpList_plain rfl (fun K hK => ?_)
  go_simp
  refine hK _ _ ?_
  clear hK K
  refine wpList_plain rfl (fun K hK => ?_)
  go_simp
  refine hK _ _ ?_
  clear hK K
  refine wpList_plain rfl (fun K hK => ?_)
  go_simp
  refine hK _ _ ?_
  clear hK K
  refine wpList_plain rfl (fun K hK => ?_)
  go_simp
  refine hK _ _ ?_
  clear hK K
  refine wpList_plain rfl (fun K hK => ?_)
  go_simp
  refine hK _ _ ?_
  clear hK K
  refine wpList_plain rfl (fun K hK => ?_)
  go_simp
  refine hK _ _ ?_
  clear hK K
  have h5 := Sat.map_new (kE := kE2) (vE := RegV.val) (Sat.map_new (kE := Value.string) (vE := Mean.val) HS.out)
  rw [show (w.alloc (.map #[] 0)).heap.size = w.heap.size + 1 by simp] at h5
  have h6 := (h5.alloc (.cells #[.int .i64 k, .map (some w.heap.size), .map (some (w.heap.size + 1)), .slice none 0 0] 83)).row_whole 1 (size := 4) (by simp [maxLen]) rfl
  rw [show ((w.alloc (.map #[] 0)).alloc (.map #[] 0)).heap.size = w.heap.size + 1 + 1 by simp] at h6
  have h7 := h6.of_eq (show _ = row (.slice a n cap) n 83 4 (flatG V) * (pts b (.cells (tabCells nm R (.slice a n cap) lt) 34) * (mapH kE2 RegV.val (w.heap.size + 1) 0 (fun _ => none) * (mapH Value.string Mean.val w.heap.size 0 (fun _ => none) * (roH m * (mapH Value.string Mean.val nm N S.names * (grpsH m V S.groups * (row (.slice (some ⟨w.heap.size + 1 + 1, 0, none⟩) 1 1) 1 83 4 [.int .i64 k, .map (some w.heap.size), .map (some (w.heap.size + 1)), .slice none 0 0] * F))))))) by ac_rfl)
  have H6 := Lib.hid h6.rd
  have H7 := Lib.hid h7
  clear h5 h6 h7
  generalize hb1 : w.heap.size = b1 at *
  generalize ((w.alloc (.map #[] 0)).alloc (.map #[] 0)).alloc (.cells #[.int .i64 k, .map (some b1), .map (some (b1 + 1)), .slice none 0 0] 83) = W3 at *
  clear hb1
  refine wpList_append_rd rfl _ _ 32 rfl i0 _ 48 Tryz.underlying32 HI.out HZ0.out HZ1.out HZ2.out rfl (by omega) rfl H7.out (.slice (some ⟨b1 + 1 + 1, 0, none⟩) 1 1) 1 [.int .i64 k, .map (some b1), .map (some (b1 + 1)), .slice none 0 0] rfl H6.out (by simp [Value.oneCell']) ?_ ?_ ?_
  · simp [maxLen]; omega
  · omega
  intro v1 w4 h8
  obtain ⟨va, vc, hv1⟩ := Sat.row_value h8
  have h9 := h8.of_eq (show _ = pts b (.cells (tabCells nm R (.slice a n cap) lt) 34) * (roH m * (mapH Value.string Mean.val nm N S.names * (row v1 (n + 1) 83 4 (flatG V ++ [.int .i64 k, .map (some b1), .map (some (b1 + 1)), .slice none 0 0]) * (mapH Value.string Mean.val b1 0 (fun _ => none) * (mapH kE2 RegV.val (b1 + 1) 0 (fun _ => none) * (grpsH m V S.groups * (row (.slice (some ⟨b1 + 1 + 1, 0, none⟩) 1 1) 1 83 4 [.int .i64 k, .map (some b1), .map (some (b1 + 1)), .slice none 0 0] * F))))))) by ac_rfl)
  have r0 := h9.cell (i := 10753) (tab_groups nm R _ lt)
  have f0 := h9.free (i := 10753)
  have l0 := h9.lt
  have HF := Lib.hid (h9.set (i := 10753) (v := v1))
  clear h8 h9
  subst hv1
  go_wp2
  go_ret
  refine ⟨rfl, m, nm, (.slice va (n + 1) vc), lt, R, V ++ [⟨k, b1, b1 + 1, .slice none 0 0⟩], ⟨H1.out, H2.out, H2b.out, ?_, ?_⟩, ?_⟩
  · simp [TabS.begun, H3.out]
  · have h3 := H3.out; have hv := HN.out; simp only [TabS.begun, List.length_append, List.length_singleton]; omega
  · have h10 := HF.out
    rw [tab_set_groups] at h10
    have h11 : Sat W (mapH Value.string Mean.val b1 0 (fun _ => none) * (mapH kE2 RegV.val (b1 + 1) 0 (fun _ => none) * (rowT (.slice none 0 0) [] * (pts b (.cells (tabCells nm R (.slice va (n + 1) vc) lt) 34) * (roH m * (mapH Value.string Mean.val nm N S.names * (row (.slice va (n + 1) vc) (n + 1) 83 4 (flatG V ++ [.int .i64 k, .map (some b1), .map (some (b1 + 1)), .slice none 0 0]) * (grpsH m V S.groups * F)))))))) (w4.setCell ⟨b, 10753, none⟩ (.slice va (n + 1) vc)) := by
      have h12 : Sat W (row (.slice none 0 0) 0 40 3 [] * _) (w4.setCell ⟨b, 10753, none⟩ (.slice va (n + 1) vc)) := h10.row_nil (e := 40) (size := 3)
      have h13 := h12.of_eq (show _ = row (.slice (some ⟨b1 + 1 + 1, 0, none⟩) 1 1) 1 83 4 [.int .i64 k, .map (some b1), .map (some (b1 + 1)), .slice none 0 0] * (mapH Value.string Mean.val b1 0 (fun _ => none) * (mapH kE2 RegV.val (b1 + 1) 0 (fun _ => none) * (rowT (.slice none 0 0) [] * (pts b (.cells (tabCells nm R (.slice va (n + 1) vc) lt) 34) * (roH m * (mapH Value.string Mean.val nm N S.names * (row (.slice va (n + 1) vc) (n + 1) 83 4 (flatG V ++ [.int .i64 k, .map (some b1), .map (some (b1 + 1)), .slice none 0 0]) * (grpsH m V S.groups * F)))))))) by unfold rowT flat; ac_rfl)
      exact h13.r
    have h14 := Sat.grp_mk (m := m) (v := ⟨k, b1, b1 + 1, .slice none 0 0⟩) (s := grp0 k) h11 ⟨rfl, by simp [grp0]⟩ (fun _ => trivial)
    refine h14.of_eq ?_
    have e1 : flatG (V ++ [⟨k, b1, b1 + 1, .slice none 0 0⟩]) = flatG V ++ [.int .i64 k, .map (some b1), .map (some (b1 + 1)), .slice none 0 0] := by rw [flatG_app]; rfl
    rw [e1, show (S.begun k).groups = S.groups ++ [grp0 k] from rfl, grpsH_snoc m _ _ V S.groups H3.out, List.length_append, HN.out, List.length_singleton]
    simp only [TabS.begun]
    ac_rfl

end Go.Proofs.YtebggkgciocciaaGreat
