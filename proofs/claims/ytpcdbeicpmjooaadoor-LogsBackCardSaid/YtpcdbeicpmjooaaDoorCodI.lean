
/-
  The tokens of a text. Conditions: those that each theorem names.
-/
import Derived.Test.YtpcdbeicpmjooaaDoorCodH
import Derived.Test.YtpcdbeicpmjooaaDoorTokRow
namespace Go.Proofs.YtpcdbeicpmjooaaDoor
open Go.RowKit Go.Sp
variable {W w w' : World} {F F' : HProp}

/-- what a reader has left of its text only shrinks -/
def Rs.le (R' R : Rs) : Prop := R'.text.length ≤ R.text.length ∧ R'.number + R'.text.length ≤ R.number + R.text.length

theorem Rs.le_refl (R : Rs) : R.le R := ⟨Nat.le_refl _, Nat.le_refl _⟩
theorem Rs.le_trans {A B D : Rs} (h : A.le B) (k : B.le D) : A.le D := ⟨Nat.le_trans h.1 k.1, Nat.le_trans h.2 k.2⟩
theorem Rs.le_left {R : Rs} {l : List UInt8} {s : Nat} : Rs.le { R with left := l, state := s } R := ⟨Nat.le_refl _, Nat.le_refl _⟩

theorem name_le (C : List Int) (R : Rs) : (nameM C R).2.le R := by
  unfold nameM
  split
  · exact Rs.le_left
  · split
    · exact Rs.le_left
    · split <;> exact Rs.le_left

theorem begin_le (endl : Int) (R : Rs) : (beginM endl { R with left := [] }).2.le R := by
  obtain ⟨q, hq⟩ : ∃ q, beginM endl { R with left := [] } = q := ⟨_, rfl⟩
  obtain ⟨b, Rq⟩ := q
  cases b
  · rw [hq]
    rw [beginM] at hq
    split at hq
    · cases hq; exact ⟨Nat.le_refl _, Nat.le_refl _⟩
    · cases hq
  · have := begin_size hq
    rw [hq]
    exact ⟨this.2.1, this.2.2⟩

theorem nextF_le (C : List Int) (endl : Int) : ∀ (n : Nat) (R : Rs), (nextF C endl n R).2.2.le R := by
  intro n
  induction n with
  | zero => intro R; exact Rs.le_refl R
  | succ n ih =>
    intro R
    have key : ∀ (l : List UInt8), (nextF C endl n { R with left := l }).2.2.le R := fun l => Rs.le_trans (ih _) Rs.le_left
    rw [nextF]
    cases h : made C R.left with
    | nil =>
      simp only
      split
      · exact Rs.le_trans (ih _) (begin_le endl R)
      · exact begin_le endl R
    | cons c r =>
      simp only
      split
      · exact Rs.le_trans (name_le C _) Rs.le_left
      · split
        · split
          · exact Rs.le_left
          · split
            · exact Rs.le_left
            · exact key _
        · split
          · exact key _
          · split
            · exact key _
            · split
              · split
                · exact Rs.le_left
                · exact key _
              · split <;> exact Rs.le_left

theorem nextM_le (C : List Int) (endl : Int) (R : Rs) : (nextM C endl R).2.2.le R := by
  unfold nextM
  split
  · exact Rs.le_refl R
  · split
    · exact Rs.le_refl R
    · exact nextF_le C endl _ R

/-- the tokens that are to come, behind those that came -/
def allF (C : List Int) (endl : Int) : Nat → Rs → List Tok → List Tok × Int
  | 0, _, _ => ([], 6)
  | n + 1, R, acc =>
    if (nextM C endl R).2.1 = 3 then (acc, 0)
    else if (nextM C endl R).2.1 ≠ 0 then ([], (nextM C endl R).2.1)
    else if acc.length = 20000 then ([], 6)
    else allF C endl n (nextM C endl R).2.2 (acc ++ [(nextM C endl R).1])

def allM (C : List Int) (endl : Int) (text : List UInt8) : List Tok × Int :=
  if 65536 < text.length then ([], 6) else allF C endl 20001 (newR text) []

def AllPost (W : World) (F : HProp) (r : List Tok × Int) (e : Ending) (w' : World) : Prop :=
  ∃ v, e = .returned (.tuple #[v, .int .i64 r.2]) ∧ Sat W (rowT v r.1 * F) w'

set_option maxRecDepth 1000000 in
set_option maxHeartbeats 8000000 in
theorem all_any (C : List Int) (hC : C.length = 256) (endl : Int) (text : List UInt8) (h : Sat W F w) :
    Calls Tryd.prog 7 #[(.string ⟨text.toArray⟩), codesV C, .int .i64 endl] w (AllPost W F (allM C endl text)) := by
  obtain ⟨i0, hi, hz0, hz1, hz2⟩ := info_parts3 info_tok
  have HI := Lib.hid hi
  have HZ0 := Lib.hid hz0
  have HZ1 := Lib.hid hz1
  have HZ2 := Lib.hid hz2
  clear hi hz0 hz1 hz2
  have HC := Lib.hid hC
  have h0 := h.alloc (codesO C 22)
  have H0 := Lib.hid h0
  obtain ⟨r, hr⟩ : ∃ r, allM C endl text = r := ⟨_, rfl⟩
  rw [hr]
  by_cases ht : 65536 < text.length
  · have HR := Lib.hid (show r = ([], 6) by rw [← hr, allM, if_pos ht])
    have HN := Lib.hid (fun w => new_no text w ht)
    clear h h0 hC hr ht
    generalize (⟨text.toArray⟩ : ByteArray) = s at *
    go_enter Tryd.func7, Tryd.ntmps7
    go_wp2_with fail
    refine Calls.mono (HN.out _) ?_
    rintro e w' ⟨rfl, rfl⟩
    go_wp2
    go_ret2
    rw [HR.out]
    exact ⟨_, rfl, H0.out.r.row_nil⟩
  · have HR := Lib.hid (show r = allF C endl 20001 (newR text) [] by rw [← hr, allM, if_neg ht])
    have HN := Lib.hid (new_any text h0 (by omega))
    have HLE := Lib.hid (show (newR text).text.length ≤ 65536 from by show text.length ≤ 65536; omega)
    have HLE2 := Lib.hid (show (newR text).number + (newR text).text.length ≤ 1000000 from by show 0 + text.length ≤ 1000000; omega)
    clear h h0 hC hr ht
    generalize newR text = R0 at *
    generalize (⟨text.toArray⟩ : ByteArray) = s at *
    obtain ⟨bc, hbc⟩ : ∃ bc, w.heap.size = bc := ⟨_, rfl⟩
    rw [hbc] at HN H0
    go_enter Tryd.func7, Tryd.ntmps7
    go_wp2_with fail
    refine Calls.mono HN.out ?_
    rintro e w1 ⟨b, rfl, hx⟩
    have HX := Lib.hid hx
    clear hx hbc
    go_wp2_with fail
    go_loopg [10, 11] 20001 (fun g s10 s11 wx => ∃ (R : Rs) (acc : List Tok), r = allF C endl g R acc ∧ 1 ≤ g ∧ g + acc.length = 20001 ∧ R.text.length ≤ 65536 ∧ R.number + R.text.length ≤ 1000000 ∧ RdAt W (rowT s10 acc * (pts bc (codesO C 22) * F)) b R wx)
    case atStart =>
      obtain ⟨u, xs, at_, h1, h2, h3, hs⟩ := HX.out
      exact ⟨R0, [], HR.out, by omega, rfl, HLE.out, HLE2.out, u, xs, at_, h1, h2, h3, (Sat.row_nil (e := 26) (size := 3) hs).of_eq (by unfold rowT; simp only [List.length_nil, flat, List.flatMap_nil]; ac_rfl)⟩
    case round =>
      obtain ⟨R, acc, hr, hg1, hg, ht, hn, hx⟩ := hrel
      obtain ⟨g, rfl⟩ : ∃ g, gk = g + 1 := ⟨gk - 1, by omega⟩
      have hN := next_any C HC.out endl R b hx ht hn
      obtain ⟨q, hq⟩ : ∃ q, nextM C endl R = q := ⟨_, rfl⟩
      have hle := nextM_le C endl R
      rw [allF] at hr
      rw [hq] at hN hle hr
      obtain ⟨t, k, R'⟩ := q
      simp only at hle hr
      have HLR := Lib.hid (show R'.text.length ≤ 65536 ∧ R'.number + R'.text.length ≤ 1000000 from ⟨Nat.le_trans hle.1 ht, Nat.le_trans hle.2 hn⟩)
      have HNX := Lib.hid hN
      have HR1 := Lib.hid hr
      obtain ⟨sa, sc, rfl, hsc⟩ := (rowT_rd hx.sat).capd
      have hblk := hx.sat.r.blk
      have HG := Lib.hid hg
      have hal : acc.length ≤ 20000 := by omega
      clear hx hN hq hle hr ht hn hg1 hg
      go_wp2_with fail
      refine wp_load_row 22 (.tmp 4) (by rfl) bc (by rfl) _ _ _ _ hblk Tryd.underlying22 (by rfl) ?_ ?_
      · have e : (Tryd.prog.info? 22).map (·.size) = some 256 := by kernel_rfl
        rw [e]
        simp [HC.out]
      clear hblk
      go_wp2_with fail
      refine Calls.mono HNX.out ?_
      rintro e w2 ⟨rfl, hx⟩
      have HX2 := Lib.hid hx
      clear hx
      by_cases k3 : k = 3
      · subst k3
        have HE := Lib.hid (show r = (acc, 0) by rw [HR1.out, if_pos rfl])
        go_wp2
        go_ret2
        rw [HE.out]
        exact ⟨_, rfl, ((HX2.out.sat.rot.r).allocD)⟩
      · have q3 : (k == 3) = false := by simpa using k3
        by_cases k0 : k = 0
        · subst k0
          by_cases hal2 : acc.length = 20000
          · have HE := Lib.hid (show r = ([], 6) by rw [HR1.out, if_neg (by decide), if_neg (by decide), if_pos hal2])
            have q5 : ((acc.length : Int) == 20000) = true := by rw [hal2]; rfl
            clear hal2
            go_wp2
            go_ret2
            rw [HE.out]
            exact ⟨_, rfl, Sat.row_nil (e := 26) (size := 3) ((HX2.out.sat.r.r).allocD)⟩
          · have HE := Lib.hid (show r = allF C endl g R' (acc ++ [t]) by rw [HR1.out, if_neg (by decide), if_neg (by decide), if_neg hal2])
            have q5 : ((acc.length : Int) == 20000) = false := by rw [beq_eq_false_iff_ne]; omega
            have hl19 : acc.length + 1 ≤ 20000 := by omega
            clear hal2
            obtain ⟨u, xs, at_, h1, h2, h3, hs⟩ := HX2.out
            have HS := Lib.hid (hs.of_eq (show _ = rowT (.slice sa acc.length sc) acc * (pts b (rdO R' u at_) * (rowM u xs * (pts bc (codesO C 22) * F))) by ac_rfl))
            have H1 := Lib.hid h1
            have H3 := Lib.hid h3
            clear hs h1 h3
            go_wp2_with (at_builtin; refine wpList_append_sep rfl _ _ 24 rfl i0 _ 32 Tryd.underlying24 HI.out HZ0.out HZ1.out HZ2.out rfl rfl HS.out.allocD.allocD ⟨w2.heap.size + 1, 0, none⟩ 1 1 [.int .i64 t.cat, .int .u8 t.chr.toNat, .string t.name] rfl rfl ?_ ?_ ?_ ?_ ?_)
            · exact new_cells1 _ _ _ _
            · simp [Value.oneCell']
            · simp [maxLen]; omega
            · omega
            intro v' w4 h6
            have H6 := Lib.hid (rowT_snoc (acc := acc) (t := t) h6 rfl rfl)
            clear h6
            go_wp2
            go_roundg g
            case measure => omega
            case rel => exact ⟨R', acc ++ [t], HE.out, by have := HG.out; omega, by have := HG.out; simp; omega, HLR.out.1, HLR.out.2, u, xs, at_, H1.out, h2, H3.out, H6.out.of_eq (by ac_rfl)⟩
        · have q0 : (k == 0) = false := by simpa using k0
          have q0' : (k != 0) = true := by simpa using k0
          have HE := Lib.hid (show r = ([], k) by rw [HR1.out, if_neg k3, if_pos k0])
          go_wp2
          go_ret2
          rw [HE.out]
          exact ⟨_, rfl, Sat.row_nil (e := 26) (size := 3) ((HX2.out.sat.r.r).allocD)⟩

end Go.Proofs.YtpcdbeicpmjooaaDoor
