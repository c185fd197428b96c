import Derived.Test.YticljfpippbkkaaDoorMNS
import Derived.Test.YticljfpippbkkaaDoorMLA
import Derived.Laws.BytesArg
import Derived.Laws.IdiomStrings
/-
  What must come (the law's knows). Conditions: those that each theorem names.
-/
namespace Go.Proofs.YticljfpippbkkaaDoor
open Go.RowKit Go.Sp
variable {W w w' : World} {A : HProp} {bx bs bt N : Nat} {L : List Tok} {S : TabS}

theorem num_any (n : Int) (w : World) : Calls Tryd.prog 10 #[.int .i64 n] w fun e w' => e = .returned (.int .i64 n) ∧ w = w' := by
  go_enter Tryd.func10, Tryd.ntmps10
  go_wp2
  go_ret
  exact ⟨rfl, rfl⟩
theorem tnew_any (h : LsAt W A bs L w) : Calls Tryd.prog 9 #[] w fun e w' => ∃ bt, e = .returned (.pointer (some ⟨bt, 0, none⟩)) ∧ LtAt W A bs bt L 0 newS w' := by
  obtain ⟨Y, h1, back⟩ := h.focus
  refine (new_any h1).mono fun e w' ⟨bt, he, ht⟩ => ⟨bt, he, ?_⟩
  obtain ⟨Z, h2, back2⟩ := ht.focus
  exact ⟨Z, back _ _ (h2.of_eq (by ac_rfl)), back2⟩
theorem LtAt.lst (h : LtAt W A bs bt L N S w) : ∃ B, LsAt W (A * B) bs L w ∧ ∀ (A' : HProp) (L' : List Tok) (w' : World), LsAt W (A' * B) bs L' w' → LtAt W A' bs bt L' N S w' := by
  obtain ⟨Y, h1, h2⟩ := h
  exact ⟨Y, h1, fun A' L' w' h => ⟨Y, h, h2⟩⟩
theorem LtAt.less {B : HProp} (h : LtAt W (B * A) bs bt L N S w) : LtAt W A bs bt L N S w := by
  obtain ⟨Y, h1, back⟩ := h.focus
  exact back _ _ (h1.of_eq (by ac_rfl) : Sat W (B * (A * Y)) w).r
theorem ltrest_any (hl : L.length ≤ 2000000) (h : LtAt W A bs bt L N S w) : Calls Tryd.prog 12 #[.pointer (some ⟨bs, 0, none⟩)] w fun e w' => ∃ u, e = .returned u ∧ LtAt W (rowT u L * A) bs bt L N S w' := by
  obtain ⟨B, h1, back⟩ := h.lst
  exact (lsrest_any hl h1).mono fun e w' ⟨u, he, hw⟩ => ⟨u, he, back _ _ _ (hw.of_eq (by ac_rfl))⟩
def txtI : List Tok := [32, 45, 45, 49, 50, 32, 120].map tokOf
def txtD : List Tok := [49, 105, 110].map tokOf
theorem know_int : integerM newS txtI = (12, 0, [tokOf 120]) := by kernel_rfl
theorem know_dim : dimenM newS txtD = (4736286, 0, []) := by kernel_rfl
theorem know_unit : UnitP newS (factorM newS (signsM txtD false).1 (signsM txtD false).2).1 (factorM newS (signsM txtD false).1 (signsM txtD false).2).2.2.2 := .inr (.inr (by kernel_rfl))
set_option maxRecDepth 100000 in
set_option maxHeartbeats 8000000 in
theorem nknows_any (h : Sat W A w) : Calls Tryd.prog 15 #[] w fun e w' => e = .returned (.bool true) ∧ Sat W A w' := by
  have HT := Lib.hid (text_any [32, 45, 45, 49, 50, 32, 120] (by decide) h)
  clear h
  go_enter Tryd.func15, Tryd.ntmps15
  go_wp2_with fail
  with_reducible refine Calls.mono HT.out ?_
  rintro e w1 ⟨v, rfl, h1⟩
  have HL := Lib.hid (glist_any (v := v) (L := txtI) (A := rowT v txtI * A) (fun w' h => rowT_rd h) (by decide) h1)
  clear h1 HT
  go_wp2_with fail
  with_reducible refine Calls.mono HL.out ?_
  rintro e w2 ⟨b1, rfl, h2⟩
  have HN := Lib.hid (tnew_any h2.less)
  clear h2 HL
  go_wp2_with fail
  with_reducible refine Calls.mono HN.out ?_
  rintro e w3 ⟨bt, rfl, h3⟩
  have HI := Lib.hid (int_any (by decide) h3)
  rw [know_int] at HI
  clear h3 HN
  go_wp2_with fail
  with_reducible refine Calls.mono HI.out ?_
  rintro e w4 ⟨rfl, h4⟩
  obtain ⟨Y1, h5, back1⟩ := h4.focus
  have BACK1 := Lib.hid back1
  have HT := Lib.hid (text_any [49, 105, 110] (by decide) h5)
  clear h4 h5 back1 HI
  go_wp2_with fail
  with_reducible refine Calls.mono HT.out ?_
  rintro e w5 ⟨v2, rfl, h1⟩
  have HL := Lib.hid (glist_any (v := v2) (L := txtD) (A := rowT v2 txtD * (A * Y1)) (fun w' h => rowT_rd h) (by decide) h1)
  clear h1 HT
  go_wp2_with fail
  with_reducible refine Calls.mono HL.out ?_
  rintro e w6 ⟨b2, rfl, h2⟩
  have HN := Lib.hid (tnew_any h2.less)
  clear h2 HL
  go_wp2_with fail
  with_reducible refine Calls.mono HN.out ?_
  rintro e w7 ⟨bt2, rfl, h3⟩
  have HD := Lib.hid (ndimen_any (P := UnitP newS) (fun bx => unitC_some) know_unit (by decide) h3)
  rw [know_dim] at HD
  clear h3 HN
  go_wp2_with fail
  with_reducible refine Calls.mono HD.out ?_
  rintro e w8 ⟨rfl, h4⟩
  obtain ⟨Y2, h5, -⟩ := h4.focus
  have H1 := Lib.hid (BACK1.out (A * Y2) _ (h5.of_eq (by ac_rfl)))
  have HR := Lib.hid (ltrest_any (by decide) H1.out)
  clear h4 h5 HD BACK1
  go_wp2_with fail
  with_reducible refine Calls.mono (num_any _ _) ?_
  rintro e w9 ⟨rfl, rfl⟩
  go_wp2_with fail
  with_reducible refine Calls.mono (num_any _ _) ?_
  rintro e w10 ⟨rfl, rfl⟩
  go_wp2_with fail
  with_reducible refine Calls.mono HR.out ?_
  rintro e w11 ⟨u, rfl, h6⟩
  obtain ⟨ua, uc, hu⟩ := (rowT_rd (h6.sat.of_eq rfl)).val
  subst hu
  have H6 := Lib.hid h6.less.sat.l
  clear h6 HR H1
  simp only [List.length_singleton]
  go_wp2
  go_ret
  exact ⟨rfl, H6.out⟩

end Go.Proofs.YticljfpippbkkaaDoor

/-
  The document's numbers as texts. Conditions: those that each theorem names.
-/
namespace Go.Proofs.YticljfpippbkkaaDoor
open Go.RowKit Go.Sp
variable {W w w' : World} {A : HProp}

/-- a number to the base 10 -/
def decF : Nat → Nat → List UInt8
  | 0, _ => []
  | f + 1, n => if n < 10 then [UInt8.ofNat (48 + n)] else decF f (n / 10) ++ [UInt8.ofNat (48 + n % 10)]
def decB (n : Nat) : List UInt8 := decF (n + 1) n
theorem decF_more : ∀ (f g n : Nat), n < f → n < g → decF f n = decF g n
  | 0, _, _, h, _ => by omega
  | _ + 1, 0, _, _, h => by omega
  | f + 1, g + 1, n, h1, h2 => by
    unfold decF
    split
    · rfl
    · rw [decF_more f g (n / 10) (by omega) (by omega)]
theorem decB_lt {n : Nat} (h : n < 10) : decB n = [UInt8.ofNat (48 + n)] := by unfold decB decF; rw [if_pos h]
theorem decB_ge {n : Nat} (h : ¬ n < 10) : decB n = decB (n / 10) ++ [UInt8.ofNat (48 + n % 10)] := by
  unfold decB
  rw [decF, if_neg h, decF_more n (n / 10 + 1) (n / 10) (by omega) (by omega)]
theorem decF_len : ∀ (f n : Nat), (decF f n).length ≤ f
  | 0, _ => Nat.le_refl _
  | f + 1, n => by
    unfold decF
    split
    · simp
    · have := decF_len f (n / 10); simp only [List.length_append, List.length_singleton]; omega
theorem conv_one {b : Nat} {c : UInt8} {z : Int} (hz : z = c.toNat) {w : World} (h : w.cell? ⟨b, 0, none⟩ = some (.int .u8 z)) : (convert 41 9 (.slice (some ⟨b, 0, none⟩) 1 1)).run Tryd.prog w = .ok (.string ⟨#[c]⟩) w := by
  subst hz
  refine run_convert_bytes_back (P := Tryd.prog) w 41 9 5 ⟨b, 0, none⟩ 1 [c] Tryd.underlying41 Tryd.underlying5 Tryd.underlying9 fun j hj => ?_
  have h0 : j = 0 := by simpa using hj
  subst h0
  exact h
theorem new_one {o : Obj} {v : Value} {cs : Array Value} {t : TypeId} (ho : o = .cells cs t) (hv : cs[0]? = some v) (w : World) : (w.alloc o).cell? ⟨w.heap.size, 0, none⟩ = some v := by
  subst ho
  have := new_cells w cs t 0 v (by rw [← hv]; simp)
  simpa [Addr.add] using this

set_option maxRecDepth 100000 in
set_option maxHeartbeats 4000000 in
theorem refn_any (n : Nat) : n < 9223372036854775808 → ∀ w, Calls Tryd.prog 4 #[.int .i64 n] w fun e w' => e = .returned ((.string ⟨(decB n).toArray⟩)) ∧ Ext w w' := by
  induction n using Nat.strongRecOn with
  | _ n ih =>
  intro hn w
  by_cases h10 : n < 10
  · rw [decB_lt h10]
    have HZ := Lib.hid (show (48 + (n : Int)) = ((UInt8.ofNat (48 + n)).toNat : Int) by rw [UInt8.toNat_ofNat']; omega)
    have i1 : (n : Int) < 10 := by omega
    have hcv : ∀ w : World, (convert 41 9 (.slice (some ⟨w.heap.size, 0, none⟩) 1 1)).run Tryd.prog (w.alloc (.cells #[.int .u8 (48 + (n : Int))] 5)) = .ok (.string ⟨#[UInt8.ofNat (48 + n)]⟩) (w.alloc (.cells #[.int .u8 (48 + (n : Int))] 5)) := fun w => conv_one HZ.out (new_one rfl rfl w)
    generalize UInt8.ofNat (48 + n) = c at *
    clear ih hn h10 HZ
    go_enter Tryd.func4, Tryd.ntmps4
    go_wp2
    go_ret
    exact ⟨rfl, (Ext.refl _).alloc⟩
  · have IH := Lib.hid (ih (n / 10) (by omega) (by omega))
    have HB := Lib.hid (decB_ge h10)
    obtain ⟨q, hq⟩ : ∃ q, n / 10 = q := ⟨_, rfl⟩
    obtain ⟨m, hm⟩ : ∃ m, n % 10 = m := ⟨_, rfl⟩
    have hql := decF_len (n / 10 + 1) (n / 10)
    rw [show decF (n / 10 + 1) (n / 10) = decB (n / 10) from rfl] at hql
    rw [hq] at IH HB hql
    rw [hm] at HB
    have hm10 : m < 10 := by omega
    have HZ := Lib.hid (show (48 + (m : Int)) = ((UInt8.ofNat (48 + m)).toNat : Int) by rw [UInt8.toNat_ofNat']; omega)
    have hcat : ((.string ⟨(decB q).toArray⟩) : Value) = .string ⟨(decB q).toArray⟩ := rfl
    have hap : (⟨(decB q).toArray⟩ : ByteArray) ++ ⟨#[UInt8.ofNat (48 + m)]⟩ = ⟨(decB n).toArray⟩ := by rw [HB.out]; apply ByteArray.ext; simp
    generalize UInt8.ofNat (48 + m) = c at *
    generalize decB q = Q at *
    have hlq : ¬ 9223372036854775807 < Q.length + 1 := by omega
    generalize decB n = R at *
    have i1 : ¬ (n : Int) < 10 := by omega
    have e1 : (n : Int).tdiv 10 = q := by rw [Int.tdiv_eq_ediv_of_nonneg (by omega)]; omega
    have e2 : (n : Int).tmod 10 = m := by rw [Int.tmod_eq_emod_of_nonneg (by omega)]; omega
    have e3 : (n : Int) / 10 = q := by omega
    have e4 : (n : Int) % 10 = m := by omega
    have e5 : IntKind.i64.wrap (q : Int) = q := by rw [IntWalk.i64_left]; exact wrap64_id _ (by omega) (by omega)
    have e6 : IntKind.i64.wrap (m : Int) = m := by rw [IntWalk.i64_left]; exact wrap64_id _ (by omega) (by omega)
    have e7 : IntKind.i64.wrap (48 + (m : Int)) = 48 + m := by rw [IntWalk.i64_left]; exact wrap64_id _ (by omega) (by omega)
    have e8 : IntKind.u8.wrap (48 + (m : Int)) = 48 + m := by unfold IntKind.wrap; simp [IntKind.bits, IntKind.signed]; omega
    clear ih hn h10 hq hm hcat HB
    go_enter Tryd.func4, Tryd.ntmps4
    go_wp2_with fail
    refine wp_region_C (fun _ => True) (by kernel_rfl) ?_
    refine wpC_take (i := 0) (v := ?_) rfl (by kernel_rfl) (by kernel_rfl) (by kernel_rfl) (fun _ _ _ h => h) (by rfl) ?_ ?_
    rotate_left 1
    · intro w hw; go_simp; try with_reducible rfl
    refine wpC_take (i := 1) (v := ?_) rfl (by kernel_rfl) (by kernel_rfl) (by kernel_rfl) (fun _ _ _ h => h) (by rfl) ?_ ?_
    rotate_left 1
    · intro w hw; go_simp; try with_reducible rfl
    refine wpC_take (i := 3) (v := ?_) rfl (by kernel_rfl) (by kernel_rfl) (by kernel_rfl) (fun _ _ _ h => h) (by rfl) ?_ ?_
    rotate_left 1
    · intro w hw; go_simp; try with_reducible rfl
    refine wpC_take (i := 4) (v := ?_) rfl (by kernel_rfl) (by kernel_rfl) (by kernel_rfl) (fun _ _ _ h => h) (by rfl) ?_ ?_
    rotate_left 1
    · intro w hw; go_simp; try with_reducible rfl
    refine wpC_take (i := 5) (v := ?_) rfl (by kernel_rfl) (by kernel_rfl) (by kernel_rfl) (fun _ _ _ h => h) (by rfl) ?_ ?_
    rotate_left 1
    · intro w hw; go_simp; try with_reducible rfl
    refine wpC_take (i := 6) (v := ?_) rfl (by kernel_rfl) (by kernel_rfl) (by kernel_rfl) (fun _ _ _ h => h) (by rfl) ?_ ?_
    rotate_left 1
    · intro w hw; go_simp; try with_reducible rfl
    have X0 := Lib.hid (show Ext w w.drew from (Ext.refl w).drew)
    obtain ⟨w0, hw0⟩ : ∃ w0, w.drew = w0 := ⟨_, rfl⟩
    rw [hw0] at X0
    rw [hw0]
    clear hw0
    refine wpC_ready (rs := [2, 7]) (by kernel_rfl) (by simp) (trivial) ?_
    refine AllReadyC.cons rfl (fun K hK => ?_) ?_
    · go_simp
      with_reducible refine Calls.mono (IH.out _) ?_
      rintro e w1 ⟨rfl, x1⟩
      have X1 := Lib.hid (X0.out.trans x1)
      clear x1 X0
      with_reducible refine hK _ _ ?_
      clear hK K
      refine wpC_one (i := 7) rfl (by kernel_rfl) (trivial) (fun K hK => ?_)
      go_simp
      with_reducible refine hK _ _ ?_
      clear hK K
      have hcv := conv_one HZ.out (new_one (o := .cells #[.int .u8 (48 + (m : Int))] 5) rfl rfl w1)
      have X2 := Lib.hid (X1.out.alloc (o := .cells #[.int .u8 (48 + (m : Int))] 5))
      clear X1
      refine wpC_one (i := 8) rfl (by kernel_rfl) (trivial) (fun K hK => ?_)
      go_simp
      with_reducible refine hK _ _ ?_
      clear hK K
      refine wpC_one (i := 9) rfl (by kernel_rfl) (trivial) (fun K hK => ?_)
      go_simp
      with_reducible refine hK _ _ ?_
      clear hK K
      refine wpC_one (i := 10) rfl (by kernel_rfl) (trivial) (fun K hK => ?_)
      go_simp
      with_reducible refine hK _ _ ?_
      clear hK K
      refine wpC_done (by kernel_rfl) (trivial) ?_
      go_simp
      go_wp2
      go_ret
      exact ⟨rfl, X2.out⟩
    refine AllReadyC.cons rfl (fun K hK => ?_) ?_
    · go_simp
      with_reducible refine hK _ _ ?_
      clear hK K
      obtain ⟨w1, hw1⟩ : ∃ w1, w0.alloc (.cells #[.int .u8 (48 + (m : Int))] 5) = w1 := ⟨_, rfl⟩
      obtain ⟨b, hb⟩ : ∃ b, w0.heap.size = b := ⟨_, rfl⟩
      have q1 := new_one (o := .cells #[.int .u8 (48 + (m : Int))] 5) rfl rfl w0
      have X1 := X0.out.alloc (o := .cells #[.int .u8 (48 + (m : Int))] 5)
      rw [hw1, hb] at q1
      rw [hw1] at X1
      rw [hw1, hb]
      have X2 := Lib.hid X1
      clear hw1 hb X0 X1
      have HC := Lib.hid q1
      clear q1
      refine wpC_ready (rs := [2, 8]) (by kernel_rfl) (by simp) (trivial) ?_
      refine AllReadyC.cons rfl (fun K hK => ?_) ?_
      · go_simp
        with_reducible refine Calls.mono (IH.out _) ?_
        rintro e w2 ⟨rfl, x2⟩
        have X3 := Lib.hid (X2.out.trans x2)
        have hcv := conv_one HZ.out (x2.cell HC.out)
        clear x2 X2
        with_reducible refine hK _ _ ?_
        clear hK K
        refine wpC_one (i := 8) rfl (by kernel_rfl) (trivial) (fun K hK => ?_)
        go_simp
        with_reducible refine hK _ _ ?_
        clear hK K
        refine wpC_one (i := 9) rfl (by kernel_rfl) (trivial) (fun K hK => ?_)
        go_simp
        with_reducible refine hK _ _ ?_
        clear hK K
        refine wpC_one (i := 10) rfl (by kernel_rfl) (trivial) (fun K hK => ?_)
        go_simp
        with_reducible refine hK _ _ ?_
        clear hK K
        refine wpC_done (by kernel_rfl) (trivial) ?_
        go_simp
        go_wp2
        go_ret
        exact ⟨rfl, X3.out⟩
      refine AllReadyC.cons rfl (fun K hK => ?_) ?_
      · have hcv := conv_one HZ.out HC.out
        go_simp
        with_reducible refine hK _ _ ?_
        clear hK K hcv
        refine wpC_one (i := 2) rfl (by kernel_rfl) (trivial) (fun K hK => ?_)
        go_simp
        with_reducible refine Calls.mono (IH.out _) ?_
        rintro e w2 ⟨rfl, x2⟩
        have X3 := Lib.hid (X2.out.trans x2)
        clear x2 X2
        with_reducible refine hK _ _ ?_
        clear hK K
        refine wpC_one (i := 9) rfl (by kernel_rfl) (trivial) (fun K hK => ?_)
        go_simp
        with_reducible refine hK _ _ ?_
        clear hK K
        refine wpC_one (i := 10) rfl (by kernel_rfl) (trivial) (fun K hK => ?_)
        go_simp
        with_reducible refine hK _ _ ?_
        clear hK K
        refine wpC_done (by kernel_rfl) (trivial) ?_
        go_simp
        go_wp2
        go_ret
        exact ⟨rfl, X3.out⟩
      exact AllReadyC.nil
    exact AllReadyC.nil

end Go.Proofs.YticljfpippbkkaaDoor

/-
  NumbersSigns, the plain part: a text of signs and digits is the number. Conditions: none.
-/
namespace Go.Proofs.YticljfpippbkkaaDoor
open Go.RowKit Go.Sp

def sgC (c : UInt8) : UInt8 := if c.toNat % 3 = 0 then 45 else if c.toNat % 3 = 1 then 43 else 32
def sgB (l : List UInt8) : List UInt8 := l.map sgC
def parB (l : List UInt8) : Bool := l.foldl (fun m c => if c.toNat % 3 = 0 then !m else m) false
theorem sgB_snoc (l : List UInt8) (c : UInt8) : sgB (l ++ [c]) = sgB l ++ [sgC c] := by simp [sgB]
theorem parB_snoc (l : List UInt8) (c : UInt8) : parB (l ++ [c]) = if c.toNat % 3 = 0 then !(parB l) else parB l := by simp [parB]

theorem dig_tok : ∀ d : Nat, d < 10 → digitM (tokOf (UInt8.ofNat (48 + d))) 10 = some (d : Int) := by decide +kernel
theorem dig_cat : ∀ d : Nat, d < 10 → tokOf (UInt8.ofNat (48 + d)) = ⟨12, UInt8.ofNat (48 + d), ⟨#[]⟩⟩ := by decide +kernel
theorem dig_not : ∀ d : Nat, d < 10 → (otherB (tokOf (UInt8.ofNat (48 + d))) 45 = false ∧ otherB (tokOf (UInt8.ofNat (48 + d))) 43 = false ∧ blankB (tokOf (UInt8.ofNat (48 + d))) = false) ∧ otherB (tokOf (UInt8.ofNat (48 + d))) 96 = false ∧ otherB (tokOf (UInt8.ofNat (48 + d))) 39 = false ∧ otherB (tokOf (UInt8.ofNat (48 + d))) 34 = false := by decide +kernel

theorem digits_dec (n : Nat) : n ≤ 2147483647 → ∀ (k : Int) (rest : List Tok), digitsM 10 ((decB n).map tokOf ++ rest) 0 k = digitsM 10 rest n (k + (decB n).length) := by
  induction n using Nat.strongRecOn with
  | _ n ih =>
  intro hn k rest
  by_cases h10 : n < 10
  · rw [decB_lt h10]
    simp only [List.map_cons, List.map_nil, List.cons_append, List.nil_append, List.length_singleton]
    rw [digitsM, dig_tok n h10]
    simp only
    rw [show minM (0 * 10 + (n : Int)) 1099511627776 = n by unfold minM; rw [if_neg (by omega)]; omega]
    rfl
  · rw [decB_ge h10, List.map_append, List.append_assoc, ih (n / 10) (by omega) (by omega)]
    simp only [List.map_cons, List.map_nil, List.cons_append, List.nil_append, List.length_append, List.length_singleton]
    rw [digitsM, dig_tok (n % 10) (by omega)]
    simp only
    rw [show minM (((n / 10 : Nat) : Int) * 10 + ((n % 10 : Nat) : Int)) 1099511627776 = n by unfold minM; rw [if_neg (by omega)]; omega]
    rw [show k + ((decB (n / 10)).length : Int) + 1 = k + (((decB (n / 10)).length + 1 : Nat) : Int) by omega]
theorem decB_head (n : Nat) : ∃ d t, d < 10 ∧ decB n = UInt8.ofNat (48 + d) :: t := by
  induction n using Nat.strongRecOn with
  | _ n ih =>
  by_cases h10 : n < 10
  · exact ⟨n, [], h10, decB_lt h10⟩
  · obtain ⟨d, t, hd, ht⟩ := ih (n / 10) (by omega)
    exact ⟨d, t ++ [UInt8.ofNat (48 + n % 10)], hd, by rw [decB_ge h10, ht]; rfl⟩
theorem signs_text (l : List UInt8) : ∀ (m : Bool) (rest : List Tok), signsM ((sgB l).map tokOf ++ rest) m = signsM rest (l.foldl (fun m c => if c.toNat % 3 = 0 then !m else m) m) := by
  induction l with
  | nil => intro m rest; rfl
  | cons c l ih =>
    intro m rest
    rw [List.foldl_cons]
    simp only [sgB, List.map_cons, List.cons_append]
    rw [signsM]
    by_cases h0 : c.toNat % 3 = 0
    · rw [show sgC c = 45 by unfold sgC; rw [if_pos h0], if_pos (by decide), if_pos h0]
      exact ih _ _
    · by_cases h1 : c.toNat % 3 = 1
      · rw [show sgC c = 43 by unfold sgC; rw [if_neg h0, if_pos h1], if_neg (by decide), if_pos (by decide), if_neg h0]
        exact ih _ _
      · rw [show sgC c = 32 by unfold sgC; rw [if_neg h0, if_neg h1], if_neg (by decide), if_pos (by decide), if_neg h0]
        exact ih _ _
/-- signs and digits -/
theorem int_text (S : TabS) (l : List UInt8) (n : Nat) (hn : n ≤ 2147483647) : integerM S ((sgB l ++ decB n).map tokOf) = (turnM n (parB l), 0, []) := by
  obtain ⟨d, t, hd, ht⟩ := decB_head n
  have hno := dig_not d hd
  have hm : meansM S (tokOf (UInt8.ofNat (48 + d))) = mean0 := by
    rw [dig_cat d hd]
    simp [meansM]
  have hL : (decB n).map tokOf = tokOf (UInt8.ofNat (48 + d)) :: t.map tokOf := by rw [ht]; rfl
  generalize UInt8.ofNat (48 + d) = c at *
  have hs : signsM ((sgB l ++ decB n).map tokOf) false = (parB l, (decB n).map tokOf) := by
    rw [List.map_append, signs_text, hL, signsM]
    simp [hno, parB]
  have hr : registerM S ((decB n).map tokOf) = (0, 0, false, 0, (decB n).map tokOf) := by
    rw [hL, registerM_cons, hm, if_neg (by decide), if_pos (by decide)]
  have hp : plainM S ((decB n).map tokOf) = (0, false, 0, (decB n).map tokOf) := by
    rw [hL, plainM, hm]
    simp [hno, mean0]
  have hb : basedM 10 ((decB n).map tokOf) = ((n : Int), 0, []) := by
    have h := digits_dec n hn 0 []
    rw [List.append_nil] at h
    rw [digitsM] at h
    unfold basedM
    rw [h]
    have hl : (decB n).length ≠ 0 := by rw [ht]; simp
    have h1 : ¬ (0 + ((decB n).length : Int) = 0) := by omega
    have h2 : ¬ (2147483647 < (n : Int)) := by omega
    simp only [h1, h2, if_false]
    rfl
  unfold integerM
  rw [hs]
  simp only
  rw [hr]
  simp [intEnd, intPlain, hp, hb]

end Go.Proofs.YticljfpippbkkaaDoor
