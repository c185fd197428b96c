import Derived.Test.YticljfpippbkkaaMNA
import Derived.Test.YticljfpippbkkaaMNumK
/-
  A digit's worth; a number turned; a number that may be a dimension. Conditions: those that each theorem names.
-/
namespace Go.Proofs.Yticljfpippbkkaa
open Go.RowKit Go.Sp
variable {W w w' : World} {A : HProp}

theorem wrap64_id (n : Int) (h1 : -9223372036854775808 ≤ n) (h2 : n ≤ 9223372036854775807) : wrap64 n = n := by
  unfold wrap64
  omega
theorem wrap_chr (c : UInt8) : wrap64 (c.toNat : Int) = (c.toNat : Int) := by
  have := c.toNat_lt
  exact wrap64_id _ (by omega) (by omega)
set_option maxRecDepth 100000 in
set_option maxHeartbeats 4000000 in
theorem digit_any (x : Tok) (base : Int) : Calls Try.prog 95 #[x.val, .int .i64 base] w fun e w' => e = .returned (.tuple #[.int .i64 ((digitM x base).getD 0), .bool (digitM x base).isSome]) ∧ Ext w w' := by
  obtain ⟨cat, chr, nm⟩ := x
  have HX := Lib.hid (show ∀ o, Ext w (w.alloc o) from fun o => (Ext.refl w).alloc)
  have hc := chr.toNat_lt
  have s0 := wrap_chr chr
  have s1 : wrap64 ((chr.toNat : Int) - 48) = (chr.toNat : Int) - 48 := wrap64_id _ (by omega) (by omega)
  have s2 : wrap64 ((chr.toNat : Int) - 65) = (chr.toNat : Int) - 65 := wrap64_id _ (by omega) (by omega)
  have s3 : wrap64 ((chr.toNat : Int) - 65 + 10) = (chr.toNat : Int) - 65 + 10 := wrap64_id _ (by omega) (by omega)
  obtain ⟨D, hD⟩ : ∃ D, digitM ⟨cat, chr, nm⟩ base = D := ⟨_, rfl⟩
  rw [hD]
  have HD := Lib.hid hD
  clear hc hD
  go_enter Try.func95, Try.ntmps95
  go_wp2
  all_goals first
    | (refine bodyPost_ret (v := .tuple #[.int .i64 ((chr.toNat : Int) - 48), .bool true]) ?_ rfl ⟨?_, HX.out _⟩
       · unfold results; go_simp; done
       · have hD := HD.out
         unfold digitM at hD
         simp only at hD
         rw [if_pos (by omega)] at hD
         rw [← hD]; rfl)
    | (refine bodyPost_ret (v := .tuple #[.int .i64 ((chr.toNat : Int) - 65 + 10), .bool true]) ?_ rfl ⟨?_, HX.out _⟩
       · unfold results; go_simp; done
       · have hD := HD.out
         unfold digitM at hD
         simp only at hD
         rw [if_neg (by omega), if_pos (by omega)] at hD
         rw [← hD]; rfl)
    | (refine bodyPost_ret (v := .tuple #[.int .i64 0, .bool false]) ?_ rfl ⟨?_, HX.out _⟩
       · unfold results; go_simp; done
       · have hD := HD.out
         unfold digitM at hD
         simp only at hD
         rw [if_neg (by omega), if_neg (by omega)] at hD
         rw [← hD]; rfl)

end Go.Proofs.Yticljfpippbkkaa

/-
  The next token, be there one or not; a table and a list in one world, behind a scanner. Conditions: those that each theorem names.
-/
namespace Go.Proofs.Yticljfpippbkkaa
open Go.RowKit Go.Sp
variable {W w w' : World} {A : HProp}

abbrev scO (bs bt : Nat) : Obj := .cells #[srcV bs, .pointer (some ⟨bt, 0, none⟩)] 109
/-- a scanner in block bx, its list in block bs, of which the tokens L are left, its table in block bt -/
def ScAt (W : World) (A : HProp) (bx bs bt : Nat) (L : List Tok) (N : Nat) (S : TabS) (w : World) : Prop :=
  ∃ Y, LsAt W (pts bx (scO bs bt) * (A * Y)) bs L w ∧ ∀ A' w', Sat W (A' * Y) w' → TabAt W A' bt N S w'
variable {bx bs bt N : Nat} {L : List Tok} {S : TabS}
theorem ScAt.mk (h : LsAt W (pts bx (scO bs bt) * A) bs L w) (back : ∃ B Y, A = B * Y ∧ ∀ A' w', Sat W (A' * Y) w' → TabAt W A' bt N S w') : ∃ B, ScAt W B bx bs bt L N S w := by
  obtain ⟨B, Y, rfl, h2⟩ := back
  exact ⟨B, Y, h, h2⟩
theorem ScAt.lst (h : ScAt W A bx bs bt L N S w) : ∃ Y, LsAt W Y bs L w ∧ ∀ L' w', LsAt W Y bs L' w' → ScAt W A bx bs bt L' N S w' := by
  obtain ⟨Y, h1, h2⟩ := h
  exact ⟨_, h1, fun L' w' h => ⟨Y, h, h2⟩⟩
theorem ScAt.cells (h : ScAt W A bx bs bt L N S w) : w.cell? ⟨bx, 0, none⟩ = some (srcV bs) ∧ w.cell? ⟨bx, 1, none⟩ = some (.pointer (some ⟨bt, 0, none⟩)) ∧ bx < w.heap.size := by
  obtain ⟨Y, h1, h2⟩ := h
  exact ⟨h1.sat.cell rfl, h1.sat.cell rfl, h1.sat.lt⟩
theorem ScAt.satx (h : ScAt W A bx bs bt L N S w) : ∃ Y, Sat W (pts bx (scO bs bt) * (A * Y)) w := by
  obtain ⟨Y, h1, h2⟩ := h
  exact ⟨Y, h1.sat⟩
theorem ScAt.tab (h : ScAt W A bx bs bt L N S w) : ∃ Z, TabAt W Z bt N S w ∧ ∀ w', TabAt W Z bt N S w' → ScAt W A bx bs bt L N S w' := by
  obtain ⟨Y, h1, h2⟩ := h
  obtain ⟨Y2, h3, back⟩ := h1.focus
  refine ⟨pts bx (scO bs bt) * (A * Y2), h2 _ _ (h3.of_eq (by ac_rfl)), fun w' h => ?_⟩
  obtain ⟨Y3, h4, back3⟩ := h.focus
  exact ⟨Y3, back _ _ (h4.of_eq (by ac_rfl)), back3⟩
theorem ScAt.focus (h : ScAt W A bx bs bt L N S w) : ∃ Y, Sat W (A * Y) w ∧ ∀ A' w', Sat W (A' * Y) w' → ScAt W A' bx bs bt L N S w' := by
  obtain ⟨Y, h1, h2⟩ := h
  obtain ⟨Y2, h3, back⟩ := h1.focus
  exact ⟨pts bx (scO bs bt) * (Y * Y2), h3.of_eq (by ac_rfl), fun A' w' h => ⟨Y, back _ _ (h.of_eq (by ac_rfl)), h2⟩⟩
theorem ScAt.sat (h : ScAt W A bx bs bt L N S w) : Sat W A w := by
  obtain ⟨Y, h1, _⟩ := h.focus
  exact h1.l
theorem ScAt.ext (h : ScAt W A bx bs bt L N S w) (k : Ext w w') : ScAt W A bx bs bt L N S w' := by
  obtain ⟨Y, h1, back⟩ := h.focus
  exact back _ _ (h1.ext k)
theorem ScAt.drew (h : ScAt W A bx bs bt L N S w) : ScAt W A bx bs bt L N S w.drew := by
  obtain ⟨Y, h1, back⟩ := h.focus
  exact back _ _ h1.drew
theorem ScAt.alloc (h : ScAt W A bx bs bt L N S w) (o : Obj) : ScAt W (pts w.heap.size o * A) bx bs bt L N S (w.alloc o) := by
  obtain ⟨Y, h1, back⟩ := h.focus
  exact back _ _ ((h1.alloc o).of_eq (by ac_rfl))
theorem ScAt.of_eq {B : HProp} (h : ScAt W A bx bs bt L N S w) (e : A = B) : ScAt W B bx bs bt L N S w := e ▸ h
theorem ScAt.less {B : HProp} (h : ScAt W (B * A) bx bs bt L N S w) : ScAt W A bx bs bt L N S w := by
  obtain ⟨Y, h1, back⟩ := h.focus
  exact back _ _ (h1.of_eq (by ac_rfl) : Sat W (B * (A * Y)) w).r
theorem other_at (x : Tok) (c : UInt8) (z : Int) (hz : z = (c.toNat : Int)) : Calls Try.prog 58 #[x.val, .int .u8 z] w fun e w' => e = .returned (.bool (otherB x c)) ∧ Ext w w' := by
  subst hz
  exact other_any x c
/-! contracts of the list's, the table's, behind a scanner -/
theorem scnext_any (h : ScAt W A bx bs bt L N S w) : Calls Try.prog 9 #[.pointer (some ⟨bs, 0, none⟩)] w fun e w' => e = .returned (.tuple #[(L.headD tok0).val, .bool (!L.isEmpty)]) ∧ ScAt W A bx bs bt L.tail N S w' := by
  obtain ⟨Y, h1, back⟩ := h.lst
  exact (lsnext_any h1).mono fun e w' ⟨he, hw⟩ => ⟨he, back _ _ hw⟩
theorem scback_any (x : Tok) (hl : L.length ≤ 4000000) (h : ScAt W A bx bs bt L N S w) : Calls Try.prog 8 #[.pointer (some ⟨bs, 0, none⟩), x.val] w fun e w' => e = .returned (.tuple #[]) ∧ ScAt W A bx bs bt (x :: L) N S w' := by
  obtain ⟨Y, h1, back⟩ := h.lst
  exact (lsback_any x hl h1).mono fun e w' ⟨he, hw⟩ => ⟨he, back _ _ hw⟩
abbrev scV (bx : Nat) : Value := .iface 81 (.pointer (some ⟨bx, 0, none⟩))
theorem find_next : (Array.find? (fun x : Method => x.name == "Next") Try.t81.methods).map (fun m => (m.path.toList, m.func)) = some ([⟨109, 0, true⟩], none) := by kernel_rfl
theorem find_back : (Array.find? (fun x : Method => x.name == "Back") Try.t81.methods).map (fun m => (m.path.toList, m.func)) = some ([⟨109, 0, true⟩], none) := by kernel_rfl
theorem SrcOk.scan : SrcOk W (pts bx (scO bs bt) * A) 81 (.pointer (some ⟨bx, 0, none⟩)) bs := by
  intro w' hw
  have c0 : w'.cell? ⟨bx, 0, none⟩ = some (srcV bs) := hw.cell rfl
  have m1 := fun n => m_next n bs w'
  have m2 := fun n => m_back n bs w'
  refine ⟨fun n => ?_, fun n => ?_⟩
  · have hf := find_next
    obtain ⟨m, hm⟩ : ∃ m, Array.find? (fun x : Method => x.name == "Next") Try.t81.methods = some m := by
      cases h : Array.find? (fun x : Method => x.name == "Next") Try.t81.methods with
      | none => rw [h] at hf; cases hf
      | some m => exact ⟨m, rfl⟩
    rw [hm] at hf
    simp only [Option.map_some, Option.some.injEq, Prod.mk.injEq] at hf
    obtain ⟨h1, h2⟩ := hf
    have hfo : (follow [⟨109, 0, true⟩] 81 (.val (.pointer (some ⟨bx, 0, none⟩)))).run Try.prog w' = .ok (80, .var ⟨bx, 0, none⟩) w' := by kernel_rfl
    have hg : (Place.get 80 (.var ⟨bx, 0, none⟩)).run Try.prog w' = .ok (srcV bs) w' := by
      unfold Place.get
      go_simp
    unfold method
    go_simp
  · have hf := find_back
    obtain ⟨m, hm⟩ : ∃ m, Array.find? (fun x : Method => x.name == "Back") Try.t81.methods = some m := by
      cases h : Array.find? (fun x : Method => x.name == "Back") Try.t81.methods with
      | none => rw [h] at hf; cases hf
      | some m => exact ⟨m, rfl⟩
    rw [hm] at hf
    simp only [Option.map_some, Option.some.injEq, Prod.mk.injEq] at hf
    obtain ⟨h1, h2⟩ := hf
    have hfo : (follow [⟨109, 0, true⟩] 81 (.val (.pointer (some ⟨bx, 0, none⟩)))).run Try.prog w' = .ok (80, .var ⟨bx, 0, none⟩) w' := by kernel_rfl
    have hg : (Place.get 80 (.var ⟨bx, 0, none⟩)).run Try.prog w' = .ok (srcV bs) w' := by
      unfold Place.get
      go_simp
    unfold method
    go_simp
theorem scopt_any (hl : L.length ≤ 4000000) (h : ScAt W A bx bs bt L N S w) : Calls Try.prog 56 #[scV bx] w fun e w' => e = .returned (.tuple #[]) ∧ ScAt W A bx bs bt (optM L) N S w' := by
  obtain ⟨Y, h1, h2⟩ := h
  exact (optional_any SrcOk.scan hl h1).mono fun e w' ⟨he, hw⟩ => ⟨he, Y, hw, h2⟩
theorem sclook_any (k : ByteArray) (h : ScAt W A bx bs bt L N S w) : Calls Try.prog 81 #[.pointer (some ⟨bt, 0, none⟩), .string k] w fun e w' => e = .returned (lookN S.names k).val ∧ ScAt W A bx bs bt L N S w' := by
  obtain ⟨Z, h1, back⟩ := h.tab
  exact (look_any k h1).mono fun e w' ⟨he, hw⟩ => ⟨he, back _ hw⟩
theorem scget_any (c i : Int) (h : ScAt W A bx bs bt L N S w) : Calls Try.prog 45 #[.pointer (some ⟨bt, 0, none⟩), .int .i64 c, .int .i64 i] w fun e w' => ∃ a n k, e = .returned (.tuple #[valA (getV S c i) (.slice a n k), .int .i64 (wrongE c i)]) ∧ ScAt W A bx bs bt L N S w' := by
  obtain ⟨Z, h1, back⟩ := h.tab
  refine (get_all c i h1).mono fun e w' ⟨u, he, hw⟩ => ?_
  obtain ⟨a, k, hu⟩ := (rowT_rd hw.sat).val
  exact ⟨a, _, k, by rw [he, hu], back _ hw.less⟩

end Go.Proofs.Yticljfpippbkkaa

/-
  Signs; digits, behind a scanner. Conditions: those that each theorem names.
-/
namespace Go.Proofs.Yticljfpippbkkaa
open Go.RowKit Go.Sp
variable {W w w' : World} {A : HProp} {bx bs bt N : Nat} {L : List Tok} {S : TabS}

set_option maxRecDepth 100000 in
set_option maxHeartbeats 4000000 in
theorem signs_any (hl : L.length ≤ 2000000) (h : ScAt W A bx bs bt L N S w) :
    Calls Try.prog 36 #[.pointer (some ⟨bx, 0, none⟩)] w fun e w' => e = .returned (.bool (signsM L false).1) ∧ ScAt W A bx bs bt (signsM L false).2 N S w' := by
  obtain ⟨r, hr⟩ : ∃ r, signsM L false = r := ⟨_, rfl⟩
  rw [hr]
  have HR := Lib.hid hr
  have H := Lib.hid h
  clear h hr
  go_enter Try.func36, Try.ntmps36
  go_wp2_with fail
  go_loopg [3] (L.length + 1) (fun gg s3 wx => ∃ (m : Bool) (L' : List Tok), L'.length ≤ 2000000 ∧ gg = L'.length + 1 ∧ s3 = .bool m ∧ signsM L' m = r ∧ ScAt W A bx bs bt L' N S wx)
  case atStart => exact ⟨false, L, hl, rfl, rfl, HR.out, H.out⟩
  case round =>
    obtain ⟨m, L', hl', rfl, rfl, hm, hx⟩ := hrel
    have HM := Lib.hid hm
    have HX := Lib.hid hx
    clear hm hx H
    obtain ⟨c0, -, lb⟩ := HX.out.cells
    have hm1 := fun n => m_next n bs wr
    have HN1 := Lib.hid (scnext_any HX.out)
    go_wp2_with fail
    with_reducible refine Calls.mono HN1.out ?_
    rintro e w2 ⟨rfl, h2⟩
    clear c0 lb hm1 HN1 HX
    cases L' with
    | nil =>
      have H2 := Lib.hid (h2.ext ((Ext.refl _).alloc (o := tok0.box)))
      clear h2
      go_wp2
      go_ret
      have hm := HM.out
      rw [signsM] at hm
      subst hm
      exact ⟨rfl, H2.out⟩
    | cons x L' =>
      simp only [List.headD_cons, List.isEmpty_cons, Bool.not_false, List.tail_cons, List.length_cons] at *
      have HX2 := Lib.hid (h2.ext ((Ext.refl _).alloc (o := x.box)))
      clear h2
      obtain ⟨T, hT⟩ : ∃ T, otherB x 45 = T := ⟨_, rfl⟩
      have HT := Lib.hid hT
      clear hT
      go_wp2_with fail
      with_reducible refine Calls.mono (other_at x 45 45 rfl) ?_
      rintro e w3 ⟨rfl, hex⟩
      rw [HT.out]
      have hn := (Sat.start w2).alloc x.box
      have d0 := hex.cell (hn.cell (i := 0) rfl)
      have d1 := hex.cell (hn.cell (i := 1) rfl)
      have d2 := hex.cell (hn.cell (i := 2) rfl)
      have HX3 := Lib.hid (HX2.out.ext hex)
      clear hn hex HX2
      cases T with
      | true =>
        clear d0 d1 d2
        go_wp2
        go_roundg (L'.length + 1)
        case measure => omega
        case rel => exact ⟨!m, L', by omega, rfl, rfl, by rw [← HM.out, signsM, if_pos HT.out], HX3.out⟩
      | false =>
        obtain ⟨B, hB⟩ : ∃ B, blankB x = B := ⟨_, rfl⟩
        have HB1 := Lib.hid hB
        clear hB
        go_wp2_with fail
        with_reducible refine Calls.mono (blank_any x) ?_
        rintro e w4 ⟨rfl, hex⟩
        rw [HB1.out]
        have HX4 := Lib.hid (HX3.out.ext hex)
        have e0 := hex.cell d0
        have e1 := hex.cell d1
        have e2 := hex.cell d2
        clear HX3 hex d0 d1 d2
        cases B with
        | true =>
          clear e0 e1 e2
          go_wp2
          go_roundg (L'.length + 1)
          case measure => omega
          case rel => exact ⟨m, L', by omega, rfl, rfl, by rw [← HM.out, signsM, if_neg (by rw [HT.out]; simp), if_pos (.inl HB1.out)], HX4.out⟩
        | false =>
          obtain ⟨P, hP⟩ : ∃ P, otherB x 43 = P := ⟨_, rfl⟩
          have HP := Lib.hid hP
          clear hP
          go_wp2_with fail
          with_reducible refine Calls.mono (other_at x 43 43 rfl) ?_
          rintro e w5 ⟨rfl, hex⟩
          rw [HP.out]
          have HX3 := Lib.hid (HX4.out.ext hex)
          have d0 := hex.cell e0
          have d1 := hex.cell e1
          have d2 := hex.cell e2
          clear HX4 hex e0 e1 e2
          cases P with
          | true =>
            clear d0 d1 d2
            go_wp2
            go_roundg (L'.length + 1)
            case measure => omega
            case rel => exact ⟨m, L', by omega, rfl, rfl, by rw [← HM.out, signsM, if_neg (by rw [HT.out]; simp), if_pos (.inr HP.out)], HX3.out⟩
          | false =>
            have hm := HM.out
            rw [signsM, if_neg (by rw [HT.out]; simp), if_neg (by rw [HP.out, HB1.out]; simp)] at hm
            subst hm
            clear HM HR
            go_upto_region 8 with fail
            have HB := Lib.hid (scback_any x (by omega) HX3.out.drew)
            obtain ⟨W9, hW9⟩ : ∃ W9, w5.drew = W9 := ⟨_, rfl⟩
            rw [hW9] at HB
            obtain ⟨e0, -, -⟩ := HX3.out.drew.cells
            rw [hW9] at e0
            have e1 := (show w5.drew.cell? _ = _ from d0)
            have e2 := (show w5.drew.cell? _ = _ from d1)
            have e3 := (show w5.drew.cell? _ = _ from d2)
            rw [hW9] at e1 e2 e3
            have hm2 := fun n => m_back n bs W9
            clear d0 d1 d2 HX3
            refine wp_region_tail (fun w' => w' = W9) 5 (by kernel_rfl) (by kernel_rfl) hW9 ?_
            clear hW9
            simp only [List.take_succ_cons, List.take_zero, List.drop_succ_cons, List.drop_zero]
            iterate 5
              with_reducible refine wpQuiet_step ?_
              intro K hK
              go_simp
              first
                | (with_reducible refine hK _ ?_
                   clear hK K)
                | (refine Exists.intro _ ⟨fun w9 hw9 => ?_, ?_⟩
                   rotate_left 1
                   with_reducible refine hK _ ?_
                   clear hK K
                   rotate_left 1
                   · subst hw9; go_simp; try with_reducible rfl)
            refine wpQuiet_nil ?_
            rintro w17 rfl
            go_wp2_with fail
            with_reducible refine Calls.mono HB.out ?_
            rintro e w4 ⟨rfl, h4⟩
            have HX4 := Lib.hid h4
            clear h4 HB e0 e1 e2 e3 hm2
            go_wp2
            go_ret
            exact ⟨rfl, HX4.out⟩

end Go.Proofs.Yticljfpippbkkaa

/-
  What a token means; a register as a number. Conditions: those that each theorem names.
-/
namespace Go.Proofs.Yticljfpippbkkaa
open Go.RowKit Go.Sp
variable {W w w' : World} {A : HProp} {bx bs bt N : Nat} {L : List Tok} {S : TabS}

theorem turned_any (n : Int) (m : Bool) (w : World) : Calls Try.prog 46 #[.int .i64 n, .bool m] w fun e w' => e = .returned (.int .i64 (turnM n m)) ∧ w = w' := by
  cases m with
  | true =>
    go_enter Try.func46, Try.ntmps46
    go_wp2
    go_ret
    exact ⟨rfl, rfl⟩
  | false =>
    go_enter Try.func46, Try.ntmps46
    go_wp2
    go_ret
    exact ⟨rfl, rfl⟩
theorem dim_any (n : Int) (w : World) : Calls Try.prog 54 #[.int .i64 n] w fun e w' => e = .returned (.tuple #[.int .i64 (dimM n).1, .int .i64 (dimM n).2]) ∧ w = w' := by
  by_cases h1 : n < -1073741823
  · have e : dimM n = (0, 20) := if_pos (.inl h1)
    rw [e]
    have HE := Lib.hid e
    clear e
    go_enter Try.func54, Try.ntmps54
    go_wp2
    exact bodyPost_ret (v := .tuple #[.int .i64 0, .int .i64 20]) (by unfold results; go_simp) rfl ⟨rfl, rfl⟩
  · by_cases h2 : 1073741823 < n
    · have e : dimM n = (0, 20) := if_pos (.inr h2)
      rw [e]
      have HE := Lib.hid e
      clear e
      go_enter Try.func54, Try.ntmps54
      go_wp2
      exact bodyPost_ret (v := .tuple #[.int .i64 0, .int .i64 20]) (by unfold results; go_simp) rfl ⟨rfl, rfl⟩
    · have e : dimM n = (n, 0) := if_neg (fun h => h.elim h1 h2)
      rw [e]
      have HE := Lib.hid e
      clear e
      go_enter Try.func54, Try.ntmps54
      go_wp2
      exact bodyPost_ret (v := .tuple #[.int .i64 n, .int .i64 0]) (by unfold results; go_simp) rfl ⟨rfl, rfl⟩
set_option maxRecDepth 100000 in
set_option maxHeartbeats 4000000 in
theorem worth_any (c i : Int) (h : ScAt W A bx bs bt L N S w) : Calls Try.prog 47 #[.pointer (some ⟨bx, 0, none⟩), .int .i64 c, .int .i64 i] w fun e w' => e = .returned (.int .i64 (worthM S c i)) ∧ ScAt W A bx bs bt L N S w' := by
  obtain ⟨-, c1, lb⟩ := h.cells
  have HG := Lib.hid (scget_any c i h)
  obtain ⟨g, hg⟩ : ∃ g, getV S c i = g := ⟨_, rfl⟩
  rw [hg] at HG
  have HW := Lib.hid (show worthM S c i = if c = 3 then g.g.nat else g.n by rw [← hg]; rfl)
  clear h hg
  obtain ⟨n, ⟨g1, g2, g3, g4, g5⟩, toks⟩ := g
  by_cases hc : c = 3
  · have e : worthM S c i = g1 := by rw [HW.out, if_pos hc]
    rw [e]
    subst hc
    clear e HW
    go_enter Try.func47, Try.ntmps47
    go_wp2_with fail
    with_reducible refine Calls.mono HG.out ?_
    rintro e w2 ⟨ua, un, uk, rfl, h2⟩
    have H2 := Lib.hid (h2.ext ((Ext.refl _).alloc (o := .cells #[.int .i64 n, .int .i64 g1, .int .i64 g2, .int .i64 g3, .int .i64 g4, .int .i64 g5, .slice ua un uk] 59)))
    clear h2 HG c1 lb
    unfold valA
    simp only
    go_wp2
    go_ret
    exact ⟨rfl, H2.out⟩
  · have e : worthM S c i = n := by rw [HW.out, if_neg hc]
    rw [e]
    have q1 : (c == 3) = false := by rw [beq_eq_false_iff_ne]; exact hc
    clear e HW
    go_enter Try.func47, Try.ntmps47
    go_wp2_with fail
    with_reducible refine Calls.mono HG.out ?_
    rintro e w2 ⟨ua, un, uk, rfl, h2⟩
    have H2 := Lib.hid (h2.ext ((Ext.refl _).alloc (o := .cells #[.int .i64 n, .int .i64 g1, .int .i64 g2, .int .i64 g3, .int .i64 g4, .int .i64 g5, .slice ua un uk] 59)))
    clear h2 HG c1 lb
    unfold valA
    simp only
    go_wp2
    go_ret
    exact ⟨rfl, H2.out⟩


end Go.Proofs.Yticljfpippbkkaa
