import Derived.Test.YticljfpippbkkaaMNS
import Derived.Test.YticljfpippbkkaaMLA
import Derived.Laws.BytesArg
import Derived.Laws.IdiomStrings
import Derived.Deep.LoopGhost
/-
  What must come (the law's knows). Conditions: those that each theorem names.
-/
namespace Go.Proofs.Yticljfpippbkkaa
open Go.RowKit Go.Sp
variable {W w w' : World} {A : HProp} {bx bs bt N : Nat} {L : List Tok} {S : TabS}

theorem num_any (n : Int) (w : World) : Calls Try.prog 18 #[.int .i64 n] w fun e w' => e = .returned (.int .i64 n) ∧ w = w' := by
  go_enter Try.func18, Try.ntmps18
  go_wp2
  go_ret
  exact ⟨rfl, rfl⟩
theorem tnew_any (h : LsAt W A bs L w) : Calls Try.prog 17 #[] w fun e w' => ∃ bt, e = .returned (.pointer (some ⟨bt, 0, none⟩)) ∧ LtAt W A bs bt L 0 newS w' := by
  obtain ⟨Y, h1, back⟩ := h.focus
  refine (new_any h1).mono fun e w' ⟨bt, he, ht⟩ => ⟨bt, he, ?_⟩
  obtain ⟨Z, h2, back2⟩ := ht.focus
  exact ⟨Z, back _ _ (h2.of_eq (by ac_rfl)), back2⟩
theorem LtAt.lst (h : LtAt W A bs bt L N S w) : ∃ B, LsAt W (A * B) bs L w ∧ ∀ (A' : HProp) (L' : List Tok) (w' : World), LsAt W (A' * B) bs L' w' → LtAt W A' bs bt L' N S w' := by
  obtain ⟨Y, h1, h2⟩ := h
  exact ⟨Y, h1, fun A' L' w' h => ⟨Y, h, h2⟩⟩
theorem LtAt.less {B : HProp} (h : LtAt W (B * A) bs bt L N S w) : LtAt W A bs bt L N S w := by
  obtain ⟨Y, h1, back⟩ := h.focus
  exact back _ _ (h1.of_eq (by ac_rfl) : Sat W (B * (A * Y)) w).r
theorem ltrest_any (hl : L.length ≤ 2000000) (h : LtAt W A bs bt L N S w) : Calls Try.prog 10 #[.pointer (some ⟨bs, 0, none⟩)] w fun e w' => ∃ u, e = .returned u ∧ LtAt W (rowT u L * A) bs bt L N S w' := by
  obtain ⟨B, h1, back⟩ := h.lst
  exact (lsrest_any hl h1).mono fun e w' ⟨u, he, hw⟩ => ⟨u, he, back _ _ _ (hw.of_eq (by ac_rfl))⟩
def txtI : List Tok := [32, 45, 45, 49, 50, 32, 120].map tokOf
def txtD : List Tok := [49, 105, 110].map tokOf
theorem know_int : integerM newS txtI = (12, 0, [tokOf 120]) := by kernel_rfl
theorem know_dim : dimenM newS txtD = (4736286, 0, []) := by kernel_rfl
theorem know_unit : UnitP newS (factorM newS (signsM txtD false).1 (signsM txtD false).2).1 (factorM newS (signsM txtD false).1 (signsM txtD false).2).2.2.2 := .inr (.inr (by kernel_rfl))
set_option maxRecDepth 100000 in
set_option maxHeartbeats 8000000 in
theorem nknows_any (h : Sat W A w) : Calls Try.prog 11 #[] w fun e w' => e = .returned (.bool true) ∧ Sat W A w' := by
  have HT := Lib.hid (text_any [32, 45, 45, 49, 50, 32, 120] (by decide) h)
  clear h
  go_enter Try.func11, Try.ntmps11
  go_wp2_with fail
  with_reducible refine Calls.mono HT.out ?_
  rintro e w1 ⟨v, rfl, h1⟩
  have HL := Lib.hid (glist_any (v := v) (L := txtI) (A := rowT v txtI * A) (fun w' h => rowT_rd h) (by decide) h1)
  clear h1 HT
  go_wp2_with fail
  with_reducible refine Calls.mono HL.out ?_
  rintro e w2 ⟨b1, rfl, h2⟩
  have HN := Lib.hid (tnew_any h2.less)
  clear h2 HL
  go_wp2_with fail
  with_reducible refine Calls.mono HN.out ?_
  rintro e w3 ⟨bt, rfl, h3⟩
  have HI := Lib.hid (int_any (by decide) h3)
  rw [know_int] at HI
  clear h3 HN
  go_wp2_with fail
  with_reducible refine Calls.mono HI.out ?_
  rintro e w4 ⟨rfl, h4⟩
  obtain ⟨Y1, h5, back1⟩ := h4.focus
  have BACK1 := Lib.hid back1
  have HT := Lib.hid (text_any [49, 105, 110] (by decide) h5)
  clear h4 h5 back1 HI
  go_wp2_with fail
  with_reducible refine Calls.mono HT.out ?_
  rintro e w5 ⟨v2, rfl, h1⟩
  have HL := Lib.hid (glist_any (v := v2) (L := txtD) (A := rowT v2 txtD * (A * Y1)) (fun w' h => rowT_rd h) (by decide) h1)
  clear h1 HT
  go_wp2_with fail
  with_reducible refine Calls.mono HL.out ?_
  rintro e w6 ⟨b2, rfl, h2⟩
  have HN := Lib.hid (tnew_any h2.less)
  clear h2 HL
  go_wp2_with fail
  with_reducible refine Calls.mono HN.out ?_
  rintro e w7 ⟨bt2, rfl, h3⟩
  have HD := Lib.hid (ndimen_any (P := UnitP newS) (fun bx => unitC_some) know_unit (by decide) h3)
  rw [know_dim] at HD
  clear h3 HN
  go_wp2_with fail
  with_reducible refine Calls.mono HD.out ?_
  rintro e w8 ⟨rfl, h4⟩
  obtain ⟨Y2, h5, -⟩ := h4.focus
  have H1 := Lib.hid (BACK1.out (A * Y2) _ (h5.of_eq (by ac_rfl)))
  have HR := Lib.hid (ltrest_any (by decide) H1.out)
  clear h4 h5 HD BACK1
  go_wp2_with fail
  with_reducible refine Calls.mono (num_any _ _) ?_
  rintro e w9 ⟨rfl, rfl⟩
  go_wp2_with fail
  with_reducible refine Calls.mono (num_any _ _) ?_
  rintro e w10 ⟨rfl, rfl⟩
  go_wp2_with fail
  with_reducible refine Calls.mono HR.out ?_
  rintro e w11 ⟨u, rfl, h6⟩
  obtain ⟨ua, uc, hu⟩ := (rowT_rd (h6.sat.of_eq rfl)).val
  subst hu
  have H6 := Lib.hid h6.less.sat.l
  clear h6 HR H1
  simp only [List.length_singleton]
  go_wp2
  go_ret
  exact ⟨rfl, H6.out⟩

end Go.Proofs.Yticljfpippbkkaa

/-
  The document's numbers as texts. Conditions: those that each theorem names.
-/
namespace Go.Proofs.Yticljfpippbkkaa
open Go.RowKit Go.Sp
variable {W w w' : World} {A : HProp}

/-- a number to the base 10 -/
def decF : Nat → Nat → List UInt8
  | 0, _ => []
  | f + 1, n => if n < 10 then [UInt8.ofNat (48 + n)] else decF f (n / 10) ++ [UInt8.ofNat (48 + n % 10)]
def decB (n : Nat) : List UInt8 := decF (n + 1) n
theorem decF_more : ∀ (f g n : Nat), n < f → n < g → decF f n = decF g n
  | 0, _, _, h, _ => by omega
  | _ + 1, 0, _, _, h => by omega
  | f + 1, g + 1, n, h1, h2 => by
    unfold decF
    split
    · rfl
    · rw [decF_more f g (n / 10) (by omega) (by omega)]
theorem decB_lt {n : Nat} (h : n < 10) : decB n = [UInt8.ofNat (48 + n)] := by unfold decB decF; rw [if_pos h]
theorem decB_ge {n : Nat} (h : ¬ n < 10) : decB n = decB (n / 10) ++ [UInt8.ofNat (48 + n % 10)] := by
  unfold decB
  rw [decF, if_neg h, decF_more n (n / 10 + 1) (n / 10) (by omega) (by omega)]
theorem decF_len : ∀ (f n : Nat), (decF f n).length ≤ f
  | 0, _ => Nat.le_refl _
  | f + 1, n => by
    unfold decF
    split
    · simp
    · have := decF_len f (n / 10); simp only [List.length_append, List.length_singleton]; omega
theorem conv_one {b : Nat} {c : UInt8} {z : Int} (hz : z = c.toNat) {w : World} (h : w.cell? ⟨b, 0, none⟩ = some (.int .u8 z)) : (convert 36 9 (.slice (some ⟨b, 0, none⟩) 1 1)).run Try.prog w = .ok (.string ⟨#[c]⟩) w := by
  subst hz
  refine run_convert_bytes_back (P := Try.prog) w 36 9 5 ⟨b, 0, none⟩ 1 [c] Try.underlying36 Try.underlying5 Try.underlying9 fun j hj => ?_
  have h0 : j = 0 := by simpa using hj
  subst h0
  exact h
theorem new_one {o : Obj} {v : Value} {cs : Array Value} {t : TypeId} (ho : o = .cells cs t) (hv : cs[0]? = some v) (w : World) : (w.alloc o).cell? ⟨w.heap.size, 0, none⟩ = some v := by
  subst ho
  have := new_cells w cs t 0 v (by rw [← hv]; simp)
  simpa [Addr.add] using this

set_option maxRecDepth 100000 in
set_option maxHeartbeats 4000000 in
theorem refn_any (n : Nat) : n < 9223372036854775808 → ∀ w, Calls Try.prog 15 #[.int .i64 n] w fun e w' => e = .returned ((.string ⟨(decB n).toArray⟩)) ∧ Ext w w' := by
  induction n using Nat.strongRecOn with
  | _ n ih =>
  intro hn w
  by_cases h10 : n < 10
  · rw [decB_lt h10]
    have HZ := Lib.hid (show (48 + (n : Int)) = ((UInt8.ofNat (48 + n)).toNat : Int) by rw [UInt8.toNat_ofNat']; omega)
    have i1 : (n : Int) < 10 := by omega
    have hcv : ∀ w : World, (convert 36 9 (.slice (some ⟨w.heap.size, 0, none⟩) 1 1)).run Try.prog (w.alloc (.cells #[.int .u8 (48 + (n : Int))] 5)) = .ok (.string ⟨#[UInt8.ofNat (48 + n)]⟩) (w.alloc (.cells #[.int .u8 (48 + (n : Int))] 5)) := fun w => conv_one HZ.out (new_one rfl rfl w)
    generalize UInt8.ofNat (48 + n) = c at *
    clear ih hn h10 HZ
    go_enter Try.func15, Try.ntmps15
    go_wp2
    go_ret
    exact ⟨rfl, (Ext.refl _).alloc⟩
  · have IH := Lib.hid (ih (n / 10) (by omega) (by omega))
    have HB := Lib.hid (decB_ge h10)
    obtain ⟨q, hq⟩ : ∃ q, n / 10 = q := ⟨_, rfl⟩
    obtain ⟨m, hm⟩ : ∃ m, n % 10 = m := ⟨_, rfl⟩
    have hql := decF_len (n / 10 + 1) (n / 10)
    rw [show decF (n / 10 + 1) (n / 10) = decB (n / 10) from rfl] at hql
    rw [hq] at IH HB hql
    rw [hm] at HB
    have hm10 : m < 10 := by omega
    have HZ := Lib.hid (show (48 + (m : Int)) = ((UInt8.ofNat (48 + m)).toNat : Int) by rw [UInt8.toNat_ofNat']; omega)
    have hcat : ((.string ⟨(decB q).toArray⟩) : Value) = .string ⟨(decB q).toArray⟩ := rfl
    have hap : (⟨(decB q).toArray⟩ : ByteArray) ++ ⟨#[UInt8.ofNat (48 + m)]⟩ = ⟨(decB n).toArray⟩ := by rw [HB.out]; apply ByteArray.ext; simp
    generalize UInt8.ofNat (48 + m) = c at *
    generalize decB q = Q at *
    have hlq : ¬ 9223372036854775807 < Q.length + 1 := by omega
    generalize decB n = R at *
    have i1 : ¬ (n : Int) < 10 := by omega
    have e1 : (n : Int).tdiv 10 = q := by rw [Int.tdiv_eq_ediv_of_nonneg (by omega)]; omega
    have e2 : (n : Int).tmod 10 = m := by rw [Int.tmod_eq_emod_of_nonneg (by omega)]; omega
    have e3 : (n : Int) / 10 = q := by omega
    have e4 : (n : Int) % 10 = m := by omega
    have e5 : IntKind.i64.wrap (q : Int) = q := by rw [IntWalk.i64_left]; exact wrap64_id _ (by omega) (by omega)
    have e6 : IntKind.i64.wrap (m : Int) = m := by rw [IntWalk.i64_left]; exact wrap64_id _ (by omega) (by omega)
    have e7 : IntKind.i64.wrap (48 + (m : Int)) = 48 + m := by rw [IntWalk.i64_left]; exact wrap64_id _ (by omega) (by omega)
    have e8 : IntKind.u8.wrap (48 + (m : Int)) = 48 + m := by unfold IntKind.wrap; simp [IntKind.bits, IntKind.signed]; omega
    clear ih hn h10 hq hm hcat HB
    go_enter Try.func15, Try.ntmps15
    go_wp2_with fail
    refine wp_region_C (fun _ => True) (by kernel_rfl) ?_
    refine wpC_take (i := 0) (v := ?_) rfl (by kernel_rfl) (by kernel_rfl) (by kernel_rfl) (fun _ _ _ h => h) (by rfl) ?_ ?_
    rotate_left 1
    · intro w hw; go_simp; try with_reducible rfl
    refine wpC_take (i := 1) (v := ?_) rfl (by kernel_rfl) (by kernel_rfl) (by kernel_rfl) (fun _ _ _ h => h) (by rfl) ?_ ?_
    rotate_left 1
    · intro w hw; go_simp; try with_reducible rfl
    refine wpC_take (i := 3) (v := ?_) rfl (by kernel_rfl) (by kernel_rfl) (by kernel_rfl) (fun _ _ _ h => h) (by rfl) ?_ ?_
    rotate_left 1
    · intro w hw; go_simp; try with_reducible rfl
    refine wpC_take (i := 4) (v := ?_) rfl (by kernel_rfl) (by kernel_rfl) (by kernel_rfl) (fun _ _ _ h => h) (by rfl) ?_ ?_
    rotate_left 1
    · intro w hw; go_simp; try with_reducible rfl
    refine wpC_take (i := 5) (v := ?_) rfl (by kernel_rfl) (by kernel_rfl) (by kernel_rfl) (fun _ _ _ h => h) (by rfl) ?_ ?_
    rotate_left 1
    · intro w hw; go_simp; try with_reducible rfl
    refine wpC_take (i := 6) (v := ?_) rfl (by kernel_rfl) (by kernel_rfl) (by kernel_rfl) (fun _ _ _ h => h) (by rfl) ?_ ?_
    rotate_left 1
    · intro w hw; go_simp; try with_reducible rfl
    have X0 := Lib.hid (show Ext w w.drew from (Ext.refl w).drew)
    obtain ⟨w0, hw0⟩ : ∃ w0, w.drew = w0 := ⟨_, rfl⟩
    rw [hw0] at X0
    rw [hw0]
    clear hw0
    refine wpC_ready (rs := [2, 7]) (by kernel_rfl) (by simp) (trivial) ?_
    refine AllReadyC.cons rfl (fun K hK => ?_) ?_
    · go_simp
      with_reducible refine Calls.mono (IH.out _) ?_
      rintro e w1 ⟨rfl, x1⟩
      have X1 := Lib.hid (X0.out.trans x1)
      clear x1 X0
      with_reducible refine hK _ _ ?_
      clear hK K
      refine wpC_one (i := 7) rfl (by kernel_rfl) (trivial) (fun K hK => ?_)
      go_simp
      with_reducible refine hK _ _ ?_
      clear hK K
      have hcv := conv_one HZ.out (new_one (o := .cells #[.int .u8 (48 + (m : Int))] 5) rfl rfl w1)
      have X2 := Lib.hid (X1.out.alloc (o := .cells #[.int .u8 (48 + (m : Int))] 5))
      clear X1
      refine wpC_one (i := 8) rfl (by kernel_rfl) (trivial) (fun K hK => ?_)
      go_simp
      with_reducible refine hK _ _ ?_
      clear hK K
      refine wpC_one (i := 9) rfl (by kernel_rfl) (trivial) (fun K hK => ?_)
      go_simp
      with_reducible refine hK _ _ ?_
      clear hK K
      refine wpC_one (i := 10) rfl (by kernel_rfl) (trivial) (fun K hK => ?_)
      go_simp
      with_reducible refine hK _ _ ?_
      clear hK K
      refine wpC_done (by kernel_rfl) (trivial) ?_
      go_simp
      go_wp2
      go_ret
      exact ⟨rfl, X2.out⟩
    refine AllReadyC.cons rfl (fun K hK => ?_) ?_
    · go_simp
      with_reducible refine hK _ _ ?_
      clear hK K
      obtain ⟨w1, hw1⟩ : ∃ w1, w0.alloc (.cells #[.int .u8 (48 + (m : Int))] 5) = w1 := ⟨_, rfl⟩
      obtain ⟨b, hb⟩ : ∃ b, w0.heap.size = b := ⟨_, rfl⟩
      have q1 := new_one (o := .cells #[.int .u8 (48 + (m : Int))] 5) rfl rfl w0
      have X1 := X0.out.alloc (o := .cells #[.int .u8 (48 + (m : Int))] 5)
      rw [hw1, hb] at q1
      rw [hw1] at X1
      rw [hw1, hb]
      have X2 := Lib.hid X1
      clear hw1 hb X0 X1
      have HC := Lib.hid q1
      clear q1
      refine wpC_ready (rs := [2, 8]) (by kernel_rfl) (by simp) (trivial) ?_
      refine AllReadyC.cons rfl (fun K hK => ?_) ?_
      · go_simp
        with_reducible refine Calls.mono (IH.out _) ?_
        rintro e w2 ⟨rfl, x2⟩
        have X3 := Lib.hid (X2.out.trans x2)
        have hcv := conv_one HZ.out (x2.cell HC.out)
        clear x2 X2
        with_reducible refine hK _ _ ?_
        clear hK K
        refine wpC_one (i := 8) rfl (by kernel_rfl) (trivial) (fun K hK => ?_)
        go_simp
        with_reducible refine hK _ _ ?_
        clear hK K
        refine wpC_one (i := 9) rfl (by kernel_rfl) (trivial) (fun K hK => ?_)
        go_simp
        with_reducible refine hK _ _ ?_
        clear hK K
        refine wpC_one (i := 10) rfl (by kernel_rfl) (trivial) (fun K hK => ?_)
        go_simp
        with_reducible refine hK _ _ ?_
        clear hK K
        refine wpC_done (by kernel_rfl) (trivial) ?_
        go_simp
        go_wp2
        go_ret
        exact ⟨rfl, X3.out⟩
      refine AllReadyC.cons rfl (fun K hK => ?_) ?_
      · have hcv := conv_one HZ.out HC.out
        go_simp
        with_reducible refine hK _ _ ?_
        clear hK K hcv
        refine wpC_one (i := 2) rfl (by kernel_rfl) (trivial) (fun K hK => ?_)
        go_simp
        with_reducible refine Calls.mono (IH.out _) ?_
        rintro e w2 ⟨rfl, x2⟩
        have X3 := Lib.hid (X2.out.trans x2)
        clear x2 X2
        with_reducible refine hK _ _ ?_
        clear hK K
        refine wpC_one (i := 9) rfl (by kernel_rfl) (trivial) (fun K hK => ?_)
        go_simp
        with_reducible refine hK _ _ ?_
        clear hK K
        refine wpC_one (i := 10) rfl (by kernel_rfl) (trivial) (fun K hK => ?_)
        go_simp
        with_reducible refine hK _ _ ?_
        clear hK K
        refine wpC_done (by kernel_rfl) (trivial) ?_
        go_simp
        go_wp2
        go_ret
        exact ⟨rfl, X3.out⟩
      exact AllReadyC.nil
    exact AllReadyC.nil

end Go.Proofs.Yticljfpippbkkaa

/-
  NumbersSigns, the plain part: a text of signs and digits is the number. Conditions: none.
-/
namespace Go.Proofs.Yticljfpippbkkaa
open Go.RowKit Go.Sp

def sgC (c : UInt8) : UInt8 := if c.toNat % 3 = 0 then 45 else if c.toNat % 3 = 1 then 43 else 32
def sgB (l : List UInt8) : List UInt8 := l.map sgC
def parB (l : List UInt8) : Bool := l.foldl (fun m c => if c.toNat % 3 = 0 then !m else m) false
theorem sgB_snoc (l : List UInt8) (c : UInt8) : sgB (l ++ [c]) = sgB l ++ [sgC c] := by simp [sgB]
theorem parB_snoc (l : List UInt8) (c : UInt8) : parB (l ++ [c]) = if c.toNat % 3 = 0 then !(parB l) else parB l := by simp [parB]

theorem dig_tok : ∀ d : Nat, d < 10 → digitM (tokOf (UInt8.ofNat (48 + d))) 10 = some (d : Int) := by decide +kernel
theorem dig_cat : ∀ d : Nat, d < 10 → tokOf (UInt8.ofNat (48 + d)) = ⟨12, UInt8.ofNat (48 + d), ⟨#[]⟩⟩ := by decide +kernel
theorem dig_not : ∀ d : Nat, d < 10 → (otherB (tokOf (UInt8.ofNat (48 + d))) 45 = false ∧ otherB (tokOf (UInt8.ofNat (48 + d))) 43 = false ∧ blankB (tokOf (UInt8.ofNat (48 + d))) = false) ∧ otherB (tokOf (UInt8.ofNat (48 + d))) 96 = false ∧ otherB (tokOf (UInt8.ofNat (48 + d))) 39 = false ∧ otherB (tokOf (UInt8.ofNat (48 + d))) 34 = false := by decide +kernel

theorem digits_dec (n : Nat) : n ≤ 2147483647 → ∀ (k : Int) (rest : List Tok), digitsM 10 ((decB n).map tokOf ++ rest) 0 k = digitsM 10 rest n (k + (decB n).length) := by
  induction n using Nat.strongRecOn with
  | _ n ih =>
  intro hn k rest
  by_cases h10 : n < 10
  · rw [decB_lt h10]
    simp only [List.map_cons, List.map_nil, List.cons_append, List.nil_append, List.length_singleton]
    rw [digitsM, dig_tok n h10]
    simp only
    rw [show minM (0 * 10 + (n : Int)) 1099511627776 = n by unfold minM; rw [if_neg (by omega)]; omega]
    rfl
  · rw [decB_ge h10, List.map_append, List.append_assoc, ih (n / 10) (by omega) (by omega)]
    simp only [List.map_cons, List.map_nil, List.cons_append, List.nil_append, List.length_append, List.length_singleton]
    rw [digitsM, dig_tok (n % 10) (by omega)]
    simp only
    rw [show minM (((n / 10 : Nat) : Int) * 10 + ((n % 10 : Nat) : Int)) 1099511627776 = n by unfold minM; rw [if_neg (by omega)]; omega]
    rw [show k + ((decB (n / 10)).length : Int) + 1 = k + (((decB (n / 10)).length + 1 : Nat) : Int) by omega]
theorem decB_head (n : Nat) : ∃ d t, d < 10 ∧ decB n = UInt8.ofNat (48 + d) :: t := by
  induction n using Nat.strongRecOn with
  | _ n ih =>
  by_cases h10 : n < 10
  · exact ⟨n, [], h10, decB_lt h10⟩
  · obtain ⟨d, t, hd, ht⟩ := ih (n / 10) (by omega)
    exact ⟨d, t ++ [UInt8.ofNat (48 + n % 10)], hd, by rw [decB_ge h10, ht]; rfl⟩
theorem signs_text (l : List UInt8) : ∀ (m : Bool) (rest : List Tok), signsM ((sgB l).map tokOf ++ rest) m = signsM rest (l.foldl (fun m c => if c.toNat % 3 = 0 then !m else m) m) := by
  induction l with
  | nil => intro m rest; rfl
  | cons c l ih =>
    intro m rest
    rw [List.foldl_cons]
    simp only [sgB, List.map_cons, List.cons_append]
    rw [signsM]
    by_cases h0 : c.toNat % 3 = 0
    · rw [show sgC c = 45 by unfold sgC; rw [if_pos h0], if_pos (by decide), if_pos h0]
      exact ih _ _
    · by_cases h1 : c.toNat % 3 = 1
      · rw [show sgC c = 43 by unfold sgC; rw [if_neg h0, if_pos h1], if_neg (by decide), if_pos (by decide), if_neg h0]
        exact ih _ _
      · rw [show sgC c = 32 by unfold sgC; rw [if_neg h0, if_neg h1], if_neg (by decide), if_pos (by decide), if_neg h0]
        exact ih _ _
/-- signs and digits -/
theorem int_text (S : TabS) (l : List UInt8) (n : Nat) (hn : n ≤ 2147483647) : integerM S ((sgB l ++ decB n).map tokOf) = (turnM n (parB l), 0, []) := by
  obtain ⟨d, t, hd, ht⟩ := decB_head n
  have hno := dig_not d hd
  have hm : meansM S (tokOf (UInt8.ofNat (48 + d))) = mean0 := by
    rw [dig_cat d hd]
    simp [meansM]
  have hL : (decB n).map tokOf = tokOf (UInt8.ofNat (48 + d)) :: t.map tokOf := by rw [ht]; rfl
  generalize UInt8.ofNat (48 + d) = c at *
  have hs : signsM ((sgB l ++ decB n).map tokOf) false = (parB l, (decB n).map tokOf) := by
    rw [List.map_append, signs_text, hL, signsM]
    simp [hno, parB]
  have hr : registerM S ((decB n).map tokOf) = (0, 0, false, 0, (decB n).map tokOf) := by
    rw [hL, registerM_cons, hm, if_neg (by decide), if_pos (by decide)]
  have hp : plainM S ((decB n).map tokOf) = (0, false, 0, (decB n).map tokOf) := by
    rw [hL, plainM, hm]
    simp [hno, mean0]
  have hb : basedM 10 ((decB n).map tokOf) = ((n : Int), 0, []) := by
    have h := digits_dec n hn 0 []
    rw [List.append_nil] at h
    rw [digitsM] at h
    unfold basedM
    rw [h]
    have hl : (decB n).length ≠ 0 := by rw [ht]; simp
    have h1 : ¬ (0 + ((decB n).length : Int) = 0) := by omega
    have h2 : ¬ (2147483647 < (n : Int)) := by omega
    simp only [h1, h2, if_false]
    rfl
  unfold integerM
  rw [hs]
  simp only
  rw [hr]
  simp [intEnd, intPlain, hp, hb]

end Go.Proofs.Yticljfpippbkkaa

/-
  NumbersSigns, the walk. Conditions: those that each theorem names.
-/
namespace Go.Proofs.Yticljfpippbkkaa
open Go.RowKit Go.Sp
variable {W w w' : World} {A : HProp}

abbrev byteV (c : UInt8) : Value := .int .u8 c.toNat
theorem u8_mod3 (c : UInt8) : ((c.toNat : Int).tmod 3 = 0 ∧ c.toNat % 3 = 0) ∨ ((c.toNat : Int).tmod 3 = 1 ∧ c.toNat % 3 = 1) ∨ ((c.toNat : Int).tmod 3 = 2 ∧ c.toNat % 3 = 2) := by
  rw [Int.tmod_eq_emod_of_nonneg (by omega)]
  omega
theorem bytes_snoc (l : List UInt8) (c : UInt8) : (⟨l.toArray⟩ : ByteArray) ++ ⟨#[c]⟩ = ⟨(l ++ [c]).toArray⟩ := by apply ByteArray.ext; simp
theorem bytes_app (l m : List UInt8) : (⟨l.toArray⟩ : ByteArray) ++ ⟨m.toArray⟩ = ⟨(l ++ m).toArray⟩ := by apply ByteArray.ext; simp
theorem dec_small (n : Nat) (h : n ≤ 2147483647) : (decB n).length ≤ 1000 := by
  have H : ∀ k n, n < 10 ^ (k + 1) → (decB n).length ≤ k + 1 := by
    intro k
    induction k with
    | zero => intro n hn; rw [decB_lt (by simpa using hn)]; simp
    | succ k ih =>
      intro n hn
      by_cases h10 : n < 10
      · rw [decB_lt h10]; simp
      · rw [decB_ge h10, List.length_append, List.length_singleton]
        have := ih (n / 10) (by rw [Nat.pow_succ] at hn; omega)
        omega
  have := H 20 n (by omega)
  omega

set_option maxRecDepth 100000 in
set_option maxHeartbeats 8000000 in
theorem signs_ext (z : Int) {l : List UInt8} {a : Option Addr} {cap : Nat} (hl : l.length ≤ 1048576) (hv : Rd W (.slice a l.length cap) l.length 1 (l.map byteV)) :
    Calls Try.prog 4 #[.int .i64 z, .slice a l.length cap] W fun e w' => e = .returned (.bool true) ∧ Ext W w' := by
  have HV := Lib.hid hv
  have HL0 := Lib.hid hl
  obtain ⟨n, hn⟩ : ∃ n, l.length = n := ⟨_, rfl⟩
  rw [hn] at hv hl
  rw [hn]
  have HN := Lib.hid hn
  clear hv hn
  obtain ⟨r, hr⟩ : ∃ r, z.tmod 2147483648 = r := ⟨_, rfl⟩
  have hrb : -2147483648 < r ∧ r < 2147483648 := by
    rw [← hr]
    exact ⟨Int.lt_tmod_of_pos _ (by omega), Int.tmod_lt_of_pos _ (by omega)⟩
  have e1 : wrap64 r = r := wrap64_id _ (by omega) (by omega)
  have e2 : wrap64 (-r) = -r := wrap64_id _ (by omega) (by omega)
  obtain ⟨m, hm⟩ : ∃ m : Nat, (m : Int) = if r < -r then -r else r := ⟨(if r < -r then -r else r).toNat, by split <;> omega⟩
  have hm2 : m ≤ 2147483647 := by split at hm <;> omega
  have em := hm.symm
  clear hm hrb
  go_enter Try.func4, Try.ntmps4
  go_wp2_with fail
  clear em e1 e2 hr
  go_loopg [5, 6, 7] n (fun gg s5 s6 s7 wx => ∃ k : Nat, k ≤ n ∧ gg = n - k ∧ s5 = .string ⟨(sgB (l.take k)).toArray⟩ ∧ s6 = .bool (parB (l.take k)) ∧ s7 = .int .i64 k ∧ wx = W)
  case atStart => exact ⟨0, by omega, rfl, rfl, rfl, by go_num, rfl⟩
  case round =>
    obtain ⟨k, hk, hg, rfl, rfl, rfl, rfl⟩ := hrel
    by_cases hlt : k < n
    · have hkl : k < l.length := by rw [HN.out]; exact hlt
      obtain ⟨c, hc⟩ : ∃ c, l[k] = c := ⟨_, rfl⟩
      obtain ⟨_, _, a', c', ev, h4⟩ := HV.out
      obtain ⟨g, o, ha, hcell⟩ := h4 k (byteV c) (by rw [List.getElem?_map, List.getElem?_eq_getElem hkl, hc]; rfl)
      obtain rfl : a = a' := by cases ev; rfl
      subst ha
      have HTK := Lib.hid (show l.take (k + 1) = l.take k ++ [c] by rw [List.take_succ_eq_append_getElem hkl, hc])
      have hSl : (sgB (l.take k)).length ≤ 1048576 := by have := HL0.out; simp [sgB]; omega
      have HS := Lib.hid (show sgB (l.take (k + 1)) = sgB (l.take k) ++ [sgC c] by rw [HTK.out, sgB_snoc])
      have HP := Lib.hid (show parB (l.take (k + 1)) = if c.toNat % 3 = 0 then !(parB (l.take k)) else parB (l.take k) by rw [HTK.out, parB_snoc])
      have hap := fun x => bytes_snoc (sgB (l.take k)) x
      generalize sgB (l.take k) = T at *
      generalize parB (l.take k) = q at *
      have hTl : ¬ 9223372036854775807 < T.length + 1 := by omega
      have i1 : (k : Int) < (n : Int) := by omega
      have hmod := u8_mod3 c
      clear hc hkl ev h4 HTK hSl
      rcases hmod with ⟨m1, m2⟩ | ⟨m1, m2⟩ | ⟨m1, m2⟩
      · have HS2 := Lib.hid (HS.out.trans (show _ = T ++ [45] by rw [sgC, if_pos m2]))
        have HP2 := Lib.hid (HP.out.trans (show _ = !q by rw [if_pos m2]))
        clear m2 HS HP
        go_wp2
        go_roundg (n - (k + 1))
        case measure => omega
        case rel => exact ⟨k + 1, by omega, rfl, by rw [HS2.out], by rw [HP2.out], by go_num, rfl⟩
      · have HS2 := Lib.hid (HS.out.trans (show _ = T ++ [43] by rw [sgC, if_neg (by omega), if_pos m2]))
        have HP2 := Lib.hid (HP.out.trans (show _ = q by rw [if_neg (by omega)]))
        clear m2 HS HP
        go_wp2
        go_roundg (n - (k + 1))
        case measure => omega
        case rel => exact ⟨k + 1, by omega, rfl, by rw [HS2.out], by rw [HP2.out], by go_num, rfl⟩
      · have HS2 := Lib.hid (HS.out.trans (show _ = T ++ [32] by rw [sgC, if_neg (by omega), if_neg (by omega)]))
        have HP2 := Lib.hid (HP.out.trans (show _ = q by rw [if_neg (by omega)]))
        clear m2 HS HP
        go_wp2
        go_roundg (n - (k + 1))
        case measure => omega
        case rel => exact ⟨k + 1, by omega, rfl, by rw [HS2.out], by rw [HP2.out], by go_num, rfl⟩
    · have hkn : n = k := by omega
      subst hkn
      have htk : l.take n = l := List.take_of_length_le (by rw [HN.out]; exact Nat.le_refl _)
      rw [htk]
      have hsl : (sgB l).length ≤ 1048576 := by simp only [sgB, List.length_map]; exact HL0.out
      have hdl := dec_small m hm2
      have HI0 := Lib.hid (int_text newS l m hm2)
      have hcat := bytes_app (sgB l) (decB m)
      have HNU := Lib.hid (refn_any m (by omega) wr)
      obtain ⟨T, hT⟩ : ∃ T, sgB l ++ decB m = T := ⟨_, rfl⟩
      have hTl : T.length ≤ 2000000 := by have h1 := HL0.out; rw [← hT, List.length_append]; omega
      rw [hT] at HI0 hcat
      generalize sgB l = SL at *
      generalize decB m = DL at *
      generalize parB l = q at *
      have hTn : ¬ 9223372036854775807 < SL.length + DL.length := by omega
      clear htk hg hk hlt hT hdl hsl
      go_wp2_with fail
      with_reducible refine Calls.mono HNU.out ?_
      rintro e w1 ⟨rfl, x1⟩
      have HT := Lib.hid (text_any T hTl (Sat.ext (Sat.start wr) x1))
      clear x1 HNU
      go_wp2_with fail
      with_reducible refine Calls.mono HT.out ?_
      rintro e w2 ⟨v, rfl, h2⟩
      have HG := Lib.hid (glist_any (v := v) (L := T.map tokOf) (A := rowT v (T.map tokOf) * own wr) (fun w' h => rowT_rd h) (by rw [List.length_map]; exact hTl) h2)
      clear h2 HT
      go_wp2_with fail
      with_reducible refine Calls.mono HG.out ?_
      rintro e w3 ⟨bs, rfl, h3⟩
      have HNT := Lib.hid (tnew_any h3.less)
      clear h3 HG
      go_wp2_with fail
      with_reducible refine Calls.mono HNT.out ?_
      rintro e w4 ⟨bt, rfl, h4⟩
      have HI := Lib.hid (int_any (by rw [List.length_map]; exact hTl) h4)
      rw [HI0.out] at HI
      clear h4 HNT
      go_wp2_with fail
      with_reducible refine Calls.mono HI.out ?_
      rintro e w5 ⟨rfl, h5⟩
      have HR := Lib.hid (ltrest_any (by simp) h5)
      have z1 : wrap64 (-(m : Int)) = -(m : Int) := wrap64_id _ (by omega) (by omega)
      have z2 : wrap64 (m : Int) = m := wrap64_id _ (by omega) (by omega)
      clear h5 HI HI0 hTl HL0 HN
      cases q
      · rw [show turnM (m : Int) false = m from rfl]
        go_wp2_with fail
        with_reducible refine Calls.mono (num_any _ _) ?_
        rintro e w6 ⟨rfl, rfl⟩
        go_wp2_with fail
        with_reducible refine Calls.mono HR.out ?_
        rintro e w7 ⟨u, rfl, h6⟩
        obtain ⟨ua, uc, hu⟩ := (rowT_rd (h6.sat.of_eq rfl)).val
        subst hu
        have HK := Lib.hid (nknows_any h6.less.sat)
        clear h6 HR
        simp only [List.length_nil]
        go_wp2_with fail
        with_reducible refine Calls.mono HK.out ?_
        rintro e w8 ⟨rfl, h7⟩
        have H7 := Lib.hid h7.toExt
        clear h7 HK
        go_wp2
        go_ret
        exact ⟨rfl, H7.out⟩
      · rw [show turnM (m : Int) true = -(m : Int) from z1]
        go_wp2_with fail
        with_reducible refine Calls.mono (num_any _ _) ?_
        rintro e w6 ⟨rfl, rfl⟩
        go_wp2_with fail
        with_reducible refine Calls.mono HR.out ?_
        rintro e w7 ⟨u, rfl, h6⟩
        obtain ⟨ua, uc, hu⟩ := (rowT_rd (h6.sat.of_eq rfl)).val
        subst hu
        have HK := Lib.hid (nknows_any h6.less.sat)
        clear h6 HR
        simp only [List.length_nil]
        go_wp2_with fail
        with_reducible refine Calls.mono HK.out ?_
        rintro e w8 ⟨rfl, h7⟩
        have H7 := Lib.hid h7.toExt
        clear h7 HK
        go_wp2
        go_ret
        exact ⟨rfl, H7.out⟩
end Go.Proofs.Yticljfpippbkkaa
