
/-
  Package logs: Add. Conditions: those that each theorem names.
-/
import Derived.Test.YtpcdbeicpmjooaaDoorLogE
namespace Go.Proofs.YtpcdbeicpmjooaaDoor
open Go.RowKit Go.Sp
variable {W w w' : World} {F F' : HProp}

/-- one byte more -/
def addStep (width : Nat) (st : List UInt8 × Nat) (c : UInt8) : List UInt8 × Nat :=
  if c = 10 then (st.1 ++ [10], 0)
  else if 0 < st.2 ∧ width < st.2 + (shownB c).length then (st.1 ++ [10] ++ shownB c, (shownB c).length)
  else (st.1 ++ shownB c, st.2 + (shownB c).length)
/-- what a text adds, and the column behind it -/
def addM (width col : Nat) (l : List UInt8) : List UInt8 × Nat := l.foldl (addStep width) ([], col)

theorem addM_succ (width col : Nat) (l : List UInt8) (k : Nat) (h : k < l.length) : addM width col (l.take (k + 1)) = addStep width (addM width col (l.take k)) l[k] := by
  unfold addM
  rw [List.take_succ_eq_append_getElem h, List.foldl_append]
  rfl

theorem addStep_10 (width : Nat) (more : List UInt8) (col : Nat) : addStep width (more, col) 10 = (more ++ [10], 0) := rfl
theorem addStep_wrap {width col : Nat} {more : List UInt8} {c : UInt8} (h : c ≠ 10) (h2 : 0 < col ∧ width < col + (shownB c).length) : addStep width (more, col) c = (more ++ [10] ++ shownB c, (shownB c).length) := by
  rw [addStep, if_neg h, if_pos h2]
theorem addStep_on {width col : Nat} {more : List UInt8} {c : UInt8} (h : c ≠ 10) (h2 : ¬ (0 < col ∧ width < col + (shownB c).length)) : addStep width (more, col) c = (more ++ shownB c, col + (shownB c).length) := by
  rw [addStep, if_neg h, if_neg h2]

def AddPost (W : World) (F : HProp) (b width : Nat) (txt : List UInt8) (col : Nat) (l : List UInt8) (e : Ending) (w' : World) : Prop :=
  if txt.length + (addM width col l).1.length ≤ 1048576 then e = .returned (.int .i64 0) ∧ LgAt W F b width (txt ++ (addM width col l).1) (addM width col l).2 w'
  else e = .returned (.int .i64 6) ∧ LgAt W F b width txt col w'

set_option maxRecDepth 1000000 in
set_option maxHeartbeats 8000000 in
theorem add_any {b width col : Nat} {txt : List UInt8} (l : List UInt8) (hl : l.length ≤ 100000000) (h : LgAt W F b width txt col w) :
    Calls Tryd.prog 19 #[.pointer (some ⟨b, 0, none⟩), (.string ⟨l.toArray⟩)] w (AddPost W F b width txt col l) := by
  obtain ⟨i0, hi, hz0, hz1, hz2⟩ := info_parts3B info_u8B
  have HI := Lib.hid hi
  have HZ0 := Lib.hid hz0
  have HZ1 := Lib.hid hz1
  have HZ2 := Lib.hid hz2
  clear hi hz0 hz1 hz2
  obtain ⟨v, hw1, hw2, hc0, ht0, hs⟩ := h
  have HG := Lib.hid (good_yes hw1 (hs.cell (i := 1) rfl))
  have c2 := hs.cell (i := 2) rfl
  have HS := Lib.hid hs
  have hsz : (⟨l.toArray⟩ : ByteArray).size = l.length := by simp [ByteArray.size]
  have HGET := Lib.hid (fun (i : Nat) (h : i < (⟨l.toArray⟩ : ByteArray).size) => Lib.getElem_mk l i h)
  obtain ⟨n, hn⟩ : ∃ n, l.length = n := ⟨_, rfl⟩
  rw [hn] at hsz hl
  have HN := Lib.hid hn
  generalize (⟨l.toArray⟩ : ByteArray) = sl at *
  clear hs hn
  go_enter Tryd.func19, Tryd.ntmps19
  go_wp2_with fail
  refine Calls.mono HG.out ?_
  rintro e w' ⟨rfl, rfl⟩
  go_wp2_with fail
  go_loopg [5, 6, 18] n (fun g s5 s6 s18 wx => ∃ (k : Nat) (more : List UInt8) (co : Nat), k ≤ n ∧ g = n - k ∧ s18 = .int .i64 k ∧ s6 = .int .i64 co ∧ addM width col (l.take k) = (more, co) ∧ co ≤ 2000 ∧ more.length ≤ 5 * k ∧ Sat W (rowB s5 more * (pts b (lgO v width col) * (rowB v txt * F))) wx)
  case atStart => exact ⟨0, [], col, by omega, rfl, rfl, rfl, rfl, hc0, by simp, (Sat.row_nil (e := 5) (size := 1) HS.out)⟩
  case round =>
    obtain ⟨k, more, co, hk, rfl, rfl, rfl, ha, hco, hml, hx⟩ := hrel
    have HA := Lib.hid ha
    have HX := Lib.hid hx
    clear ha hx c2
    by_cases hlt : k < n
    · have i1 : (k : Int) < (n : Int) := by omega
      have hkl : k < l.length := by rw [HN.out]; exact hlt
      have hget : sl[k]'(by omega) = l[k] := by
        have := HGET.out k (by omega)
        rw [List.getElem?_eq_getElem hkl] at this
        exact (Option.some.inj this).symm
      have HSU := Lib.hid (addM_succ width col l k hkl)
      obtain ⟨c, hc⟩ : ∃ c, l[k] = c := ⟨_, rfl⟩
      rw [hc, HA.out] at HSU
      rw [hc] at hget
      clear hc hkl
      by_cases h10 : c = 10
      · have q1 : ((c.toNat : Int) == 10) = true := by simp [h10]
        have HST := Lib.hid (show addM width col (l.take (k + 1)) = (more ++ [10], 0) by rw [HSU.out, h10]; rfl)
        clear h10
        go_wp2_with (at_builtin; refine wpList_append_sep rfl _ _ 38 rfl i0 _ 1 Tryd.underlying38 HI.out HZ0.out HZ1.out HZ2.out rfl rfl HX.out.allocD ⟨wr.heap.size, 0, none⟩ 1 1 [.int .u8 10] rfl rfl ?_ ?_ ?_ ?_ ?_)
        · exact new_cellB _ 10 _
        · simp [Value.oneCell']
        · simp [maxLen]; omega
        · omega
        intro v3 w3 h6
        have H6 := Lib.hid (rowB_snoc (acc := more) (c := 10) h6 rfl rfl)
        clear h6
        go_wp2
        go_roundg (n - (k + 1))
        case measure => omega
        case rel => exact ⟨k + 1, more ++ [10], 0, by omega, rfl, by go_num, rfl, HST.out, by omega, by simp; omega, H6.out⟩
      · have q1 : ((c.toNat : Int) == 10) = false := by
          rw [beq_eq_false_iff_ne]; intro h; exact h10 (UInt8.toNat_inj.1 (by simp; omega))
        have HSH := Lib.hid (shown_any c HX.out)
        have HSC := Lib.hid (strCells_mk (shownB c))
        have hss : (⟨(shownB c).toArray⟩ : ByteArray).size = (shownB c).length := by simp [ByteArray.size]
        have hq4 := shownB_le c
        have hq0 := shownB_pos c
        obtain ⟨q, hq⟩ : ∃ q, (shownB c).length = q := ⟨_, rfl⟩
        rw [hq] at hss hq4 hq0
        have HQ := Lib.hid hq
        generalize (⟨(shownB c).toArray⟩ : ByteArray) = s at *
        have HSS := Lib.hid hss
        by_cases hwr : 0 < co ∧ width < co + q
        · have HST := Lib.hid (show addM width col (l.take (k + 1)) = (more ++ [10] ++ shownB c, q) by rw [HSU.out, addStep_wrap h10 (by rw [hq]; exact hwr), hq])
          obtain ⟨j1, j2⟩ := hwr
          have j3 : (width : Int) < (co : Int) + (q : Int) := by omega
          clear hq h10
          go_wp2_with fail
          refine Calls.mono HSH.out ?_
          rintro e w2 ⟨rfl, h2⟩
          have H2 := Lib.hid h2
          have d1 := h2.r.cell (i := 1) rfl
          clear h2
          go_wp2_with (at_builtin; refine wpList_append_sep rfl _ _ 38 rfl i0 _ 1 Tryd.underlying38 HI.out HZ0.out HZ1.out HZ2.out rfl rfl H2.out.allocD ⟨w2.heap.size, 0, none⟩ 1 1 [.int .u8 10] rfl rfl ?_ ?_ ?_ ?_ ?_)
          · exact new_cellB _ 10 _
          · simp [Value.oneCell']
          · simp [maxLen]; omega
          · omega
          intro v3 w3 h6
          have H6 := Lib.hid (show Sat W (row v3 (more.length + 1) 5 1 (bytesB (more ++ [10])) * _) w3 from h6.of_eq (by rw [bytesB_app]; rfl))
          clear h6 d1
          go_wp2_with (at_builtin; refine wpList_append_S rfl _ _ 38 9 rfl i0 Tryd.underlying38 Tryd.underlying9 HI.out HZ0.out HZ1.out HZ2.out rfl H6.out s rfl ?_ ?_ ?_)
          · rw [HSS.out]; simp [maxLen]; omega
          · rw [HSS.out]; omega
          intro v4 w4 h7 _
          have h8 := rowB_app (acc := more ++ [10]) (l := shownB c) h7 (by have h1 := HSS.out; have h2 := HQ.out; simp; omega) (by rw [HSC.out])
          have H8 := Lib.hid h8
          clear h7 h8
          go_wp2
          go_roundg (n - (k + 1))
          case measure => omega
          case rel => exact ⟨k + 1, more ++ [10] ++ shownB c, q, by omega, rfl, by go_num, by go_num, HST.out, by omega, by have := HQ.out; simp; omega, H8.out⟩
        · have HST := Lib.hid (show addM width col (l.take (k + 1)) = (more ++ shownB c, co + q) by rw [HSU.out, addStep_on h10 (by rw [hq]; exact hwr), hq])
          have hps : co = 0 ∨ (0 < co ∧ ¬ (width : Int) < (co : Int) + (q : Int)) := by omega
          have hcq : co + q ≤ 2000 := by omega
          clear hq h10 hwr
          go_wp2_with fail
          refine Calls.mono HSH.out ?_
          rintro e w2 ⟨rfl, h2⟩
          have H2 := Lib.hid h2
          have d1 := h2.r.cell (i := 1) rfl
          clear h2
          rcases hps with rfl | ⟨j1, j2⟩
          all_goals
            go_wp2_with (at_builtin; refine wpList_append_S rfl _ _ 38 9 rfl i0 Tryd.underlying38 Tryd.underlying9 HI.out HZ0.out HZ1.out HZ2.out rfl H2.out s rfl ?_ ?_ ?_)
            · rw [HSS.out]; simp [maxLen]; omega
            · rw [HSS.out]; omega
            intro v4 w4 h7 _
            have h8 := rowB_app (acc := more) (l := shownB c) h7 (by have h1 := HSS.out; have h2 := HQ.out; omega) (by rw [HSC.out])
            have H8 := Lib.hid h8
            clear h7 h8
            go_wp2
            go_roundg (n - (k + 1))
            case measure => omega
            case rel => exact ⟨k + 1, more ++ shownB c, _, by omega, rfl, by go_num, by go_num, HST.out, hcq, by have := HQ.out; simp; omega, H8.out⟩
    · have hkn : n = k := by omega
      subst hkn
      have htk : l.take n = l := List.take_of_length_le (by rw [HN.out]; exact Nat.le_refl _)
      have HAE := Lib.hid (show addM width col l = (more, co) by rw [← HA.out, htk])
      clear htk HA hlt
      have hx := HX.out
      obtain ⟨ma, mc, rfl, hmc, -⟩ := rowB_val hx
      obtain ⟨ta, tc, rfl, htc, -⟩ := rowB_val hx.r.r
      have d0 := hx.r.cell (i := 0) rfl
      have d2 := hx.r.cell (i := 2) rfl
      have f0 := hx.r.free (i := 0)
      have f2 := hx.r.free (i := 2)
      have lb := hx.r.lt
      have HRM := Lib.hid (room_any more.length ht0 (by omega) d0)
      have HY := Lib.hid (hx.of_eq (show _ = rowB (.slice ta txt.length tc) txt * (rowB (.slice ma more.length mc) more * (pts b (lgO (.slice ta txt.length tc) width col) * F)) by ac_rfl))
      have HRD := Lib.hid (show Rd wr (.slice ma more.length mc) more.length 1 (bytesB more) from hx.rd)
      clear hx
      by_cases hle : txt.length + more.length ≤ 1048576
      · rw [decide_eq_true hle] at HRM
        have HPO := Lib.hid (show ∀ e w', (e = .returned (.int .i64 0) ∧ LgAt W F b width (txt ++ more) co w') → AddPost W F b width txt col l e w' by
          intro e w' h
          unfold AddPost
          rw [HAE.out, if_pos hle]
          exact h)
        go_wp2_with fail
        refine Calls.mono HRM.out ?_
        rintro e w2 ⟨rfl, rfl⟩
        go_wp2_with (at_builtin; refine wpList_append_rd rfl _ _ 38 rfl i0 _ 1 Tryd.underlying38 HI.out HZ0.out HZ1.out HZ2.out rfl (by omega) rfl HY.out _ more.length (bytesB more) rfl HRD.out (bytesB_one more) ?_ ?_ ?_)
        · simp [maxLen]; omega
        · omega
        intro v3 w3 h6
        have h7 := (rowB_app (acc := txt) (l := more) h6 rfl rfl).of_eq (show _ = pts b (lgO (.slice ta txt.length tc) width col) * (rowB v3 (txt ++ more) * (rowB (.slice ma more.length mc) more * F)) by ac_rfl)
        obtain ⟨na, nc, rfl, hnc, -⟩ := rowB_val h7.r
        have g0 := h7.cell (i := 0) rfl
        have g2 := h7.cell (i := 2) rfl
        have k0 := h7.free (i := 0)
        have k2 := h7.free (i := 2)
        have lb3 := h7.lt
        rw [List.length_append] at h7 hnc
        have H7 := Lib.hid ((h7.set (i := 0) (v := .slice na (txt.length + more.length) nc)).set (i := 2) (v := .int .i64 co))
        clear h6 h7 d0 d2 f0 f2 lb
        rw [List.length_append]
        go_wp2
        go_ret
        refine HPO.out _ _ ⟨rfl, ?_⟩
        exact ⟨.slice na (txt.length + more.length) nc, hw1, hw2, hco, by simp; omega, H7.out.of_eq (show _ = pts b (lgO (.slice na (txt.length + more.length) nc) width co) * (rowB (.slice na (txt.length + more.length) nc) (txt ++ more) * (rowB (.slice ma more.length mc) more * F)) by rfl) |>.of_eq (show _ = rowB (.slice ma more.length mc) more * (pts b (lgO (.slice na (txt.length + more.length) nc) width co) * (rowB (.slice na (txt.length + more.length) nc) (txt ++ more) * F)) by ac_rfl) |>.r⟩
      · rw [decide_eq_false hle] at HRM
        have HPO := Lib.hid (show ∀ e w', (e = .returned (.int .i64 6) ∧ LgAt W F b width txt col w') → AddPost W F b width txt col l e w' by
          intro e w' h
          unfold AddPost
          rw [HAE.out, if_neg hle]
          exact h)
        go_wp2_with fail
        refine Calls.mono HRM.out ?_
        rintro e w2 ⟨rfl, rfl⟩
        go_wp2
        go_ret
        refine HPO.out _ _ ⟨rfl, ?_⟩
        exact ⟨_, hw1, hw2, hc0, ht0, HX.out.r⟩

end Go.Proofs.YtpcdbeicpmjooaaDoor
