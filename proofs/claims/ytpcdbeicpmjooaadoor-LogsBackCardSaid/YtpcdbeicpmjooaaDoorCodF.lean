
/-
  A name behind its escape. Conditions: those that each theorem names.
-/
import Derived.Test.YtpcdbeicpmjooaaDoorCodE
import Derived.Deep.DeepCutAuto
import Derived.Deep.CutBlock
namespace Go.Proofs.YtpcdbeicpmjooaaDoor
open Go.RowKit Go.Sp
variable {W w w' : World} {F F' : HProp}

section
variable {b r i : Nat} {R : Rs} {cs : Array Value} {ty : TypeId} {f : Nat × Nat} {v : Value}
theorem RdAt.of_eq (h : RdAt W F b R w) (e : F = F') : RdAt W F' b R w := e ▸ h
theorem RdAt.alloc (h : RdAt W F b R w) (o : Obj) : RdAt W (pts w.heap.size o * F) b R (w.alloc o) := by
  obtain ⟨v, xs, at_, h1, h2, h3, hs⟩ := h
  exact ⟨v, xs, at_, h1, h2, h3, (hs.alloc o).of_eq (by ac_rfl)⟩
theorem RdAt.allocD (h : RdAt W F b R w) {o : Obj} : RdAt W F b R (w.alloc o) := by
  obtain ⟨v, xs, at_, h1, h2, h3, hs⟩ := h
  exact ⟨v, xs, at_, h1, h2, h3, hs.allocD⟩
theorem RdAt.sat (h : RdAt W F b R w) : Sat W F w := by
  obtain ⟨v, xs, at_, h1, h2, h3, hs⟩ := h
  exact hs.r.r
theorem RdAt.setF (h : RdAt W (pts r (.cells cs ty f) * F) b R w) : RdAt W (pts r (.cells (cs.setIfInBounds i v) ty f) * F) b R (w.setCell ⟨r, i, none⟩ v) := by
  obtain ⟨u, xs, at_, h1, h2, h3, hs⟩ := h
  have h4 := hs.of_eq (show _ = pts r (.cells cs ty f) * (pts b (rdO R u at_) * (rowM u xs * F)) by ac_rfl)
  exact ⟨u, xs, at_, h1, h2, h3, (h4.set (i := i) (v := v)).of_eq (by ac_rfl)⟩
theorem RdAt.drop {A : HProp} (h : RdAt W (A * F) b R w) : RdAt W F b R w := by
  obtain ⟨u, xs, at_, h1, h2, h3, hs⟩ := h
  exact ⟨u, xs, at_, h1, h2, h3, (hs.of_eq (show _ = A * (pts b (rdO R u at_) * (rowM u xs * F)) by ac_rfl)).r⟩
theorem RdAt.left_len (h : RdAt W F b R w) : R.left.length ≤ 100000 := by
  obtain ⟨u, xs, at_, h1, h2, h3, hs⟩ := h
  rw [← h1, List.length_drop]; omega
theorem RdAt.ne {o : Obj} (h : RdAt W (pts r o * F) b R w) : b ≠ r := by
  obtain ⟨u, xs, at_, h1, h2, h3, hs⟩ := h
  exact (hs.of_eq (show _ = pts b (rdO R u at_) * (pts r o * (rowM u xs * F)) by ac_rfl)).ne
theorem RdAt.rot {A B : HProp} (h : RdAt W (A * (B * F)) b R w) : RdAt W (B * (A * F)) b R w := h.of_eq (by ac_rfl)
end

/-- one character is passed -/
theorem RdAt.next {b : Nat} {R : Rs} {c : UInt8} {l : List UInt8} (h : RdAt W F b R w) (hl : R.left = c :: l) :
    ∃ v at_, w.cell? ⟨b, 5, none⟩ = some (.int .i64 (at_ : Nat)) ∧ at_ ≤ 100000 ∧ w.frozen? ⟨b, 5, none⟩ = false ∧ b < w.heap.size ∧
      RdAt W F b { R with left := l } (w.setCell ⟨b, 5, none⟩ (.int .i64 ((at_ : Int) + 1))) ∧ v = at_ := by
  obtain ⟨u, xs, at_, h1, h2, h3, hs⟩ := h
  have hlt : at_ < xs.length := by
    rcases Nat.lt_or_ge at_ xs.length with h4 | h4
    · exact h4
    · rw [List.drop_of_length_le h4, hl] at h1; cases h1
  refine ⟨at_, at_, hs.cell (i := 5) rfl, by omega, hs.free, hs.lt, ⟨u, xs, at_ + 1, ?_, hlt, h3, hs.set (i := 5)⟩, rfl⟩
  rw [hl, List.drop_eq_getElem_cons hlt] at h1
  exact (List.cons.inj h1).2

/-- the state is set -/
theorem RdAt.state {b : Nat} {R : Rs} (h : RdAt W F b R w) (k : Nat) :
    (w.cell? ⟨b, 6, none⟩ = some (.int .i64 R.state)) ∧ w.frozen? ⟨b, 6, none⟩ = false ∧ b < w.heap.size ∧ RdAt W F b { R with state := k } (w.setCell ⟨b, 6, none⟩ (.int .i64 (k : Nat))) := by
  obtain ⟨u, xs, at_, h1, h2, h3, hs⟩ := h
  exact ⟨hs.cell (i := 6) rfl, hs.free, hs.lt, u, xs, at_, h1, h2, h3, hs.set (i := 6)⟩

theorem conv_byte (w : World) (g : Nat) (c : UInt8) (hc : w.cell? ⟨g, 0, none⟩ = some (.int .u8 c.toNat)) : (convert 38 9 (.slice (some ⟨g, 0, none⟩) 1 1)).run Tryd.prog w = .ok (.string ⟨#[c]⟩) w := by
  have := run_convert_bytes_back (P := Tryd.prog) w 38 9 5 ⟨g, 0, none⟩ 1 [c] Tryd.underlying38 Tryd.underlying5 Tryd.underlying9 (by
    intro j hj
    simp at hj
    subst hj
    simpa [Addr.add_lit] using hc)
  exact this

abbrev tokC (l : List UInt8) : Array Value := #[.int .i64 16, .int .u8 0, (.string ⟨l.toArray⟩)]
abbrev tokO (l : List UInt8) : Obj := .cells (tokC l) 26

theorem lettersF_enough (C : List Int) : ∀ (n m : Nat) (l : List UInt8), l.length < n → l.length < m → lettersF C n l = lettersF C m l := by
  intro n
  induction n with
  | zero => intro m l h _; omega
  | succ n ih =>
    intro m l hn hm
    cases m with
    | zero => omega
    | succ m =>
      rw [lettersF, lettersF]
      have hle := made_len C l
      cases hd : made C l with
      | nil => rfl
      | cons d r =>
        rw [hd, List.length_cons] at hle
        simp only
        split
        · rw [ih m r (by omega) (by omega)]
        · rfl

theorem letters_stop {C : List Int} {n : Nat} {l : List UInt8} (h : made C l = []) : lettersF C (n + 1) l = ([], []) := by rw [lettersF, h]
theorem letters_other {C : List Int} {n : Nat} {l r : List UInt8} {d : UInt8} (h : made C l = d :: r) (hd : codeAt C d ≠ 11) : lettersF C (n + 1) l = ([], d :: r) := by rw [lettersF, h]; simp only; rw [if_neg hd]
theorem letters_more {C : List Int} {l r : List UInt8} {d : UInt8} (h : made C l = d :: r) (hd : codeAt C d = 11) : lettersF C (l.length + 1) l = (d :: (lettersF C (r.length + 1) r).1, (lettersF C (r.length + 1) r).2) := by
  have hle := made_len C l
  rw [h, List.length_cons] at hle
  rw [lettersF, h]
  simp only
  rw [if_pos hd, lettersF_enough C l.length (r.length + 1) r (by omega) (by omega)]


set_option maxRecDepth 1000000 in
set_option maxHeartbeats 4000000 in
theorem name_any (C : List Int) (hC : C.length = 256) (e : TypeId) (R : Rs) (b bc : Nat) (h : RdAt W (pts bc (codesO C e) * F) b R w) :
    Calls Tryd.prog 28 #[.pointer (some ⟨b, 0, none⟩), .pointer (some ⟨bc, 0, none⟩)] w fun e' w' => e' = .returned (Tok.val (nameT (nameM C R).1)) ∧ RdAt W (pts bc (codesO C e) * F) b (nameM C R).2 w' := by
  have h0 := (h.alloc (.cells #[.int .i64 0, .int .u8 0, .string ByteArray.empty] 26)).of_eq (show _ = pts bc (codesO C e) * (pts w.heap.size (.cells #[.int .i64 0, .int .u8 0, .string ByteArray.empty] 26) * F) by ac_rfl)
  obtain ⟨m, hm⟩ : ∃ m, made C R.left = m := ⟨_, rfl⟩
  have hml0 := made_len C R.left
  have hll := h.left_len
  rw [hm] at hml0
  have HML := Lib.hid (show m.length ≤ 100000 by omega)
  clear hml0 hll
  have hCH := char_any C hC e R b bc h0
  rw [hm] at hCH
  have HCH := Lib.hid hCH
  have HC := Lib.hid hC
  have HM := Lib.hid hm
  clear h h0 hCH hC hm
  go_enter Tryd.func28, Tryd.ntmps28
  go_wp2_with fail
  refine Calls.mono HCH.out ?_
  intro e' w1 hp
  cases m with
  | nil =>
    obtain ⟨rfl, hr⟩ := hp
    have HR := Lib.hid hr
    have HN := Lib.hid (show nameM C R = ([], { R with left := [] }) by rw [nameM, HM.out])
    have hs := hr.sat.r
    have r0 := hs.cell (i := 0) rfl
    have r1 := hs.cell (i := 1) rfl
    have r2 := hs.cell (i := 2) rfl
    have f0 := hs.free (i := 0)
    have f1 := hs.free (i := 1)
    have f2 := hs.free (i := 2)
    have lr := hs.lt
    clear hs hr
    go_wp2
    refine bodyPost_ret (v := Tok.val (nameT [])) (by unfold results; go_simp; first | exact ⟨rfl, rfl, rfl⟩ | rfl) rfl ⟨by rw [HN.out], ?_⟩
    rw [HN.out]
    exact (((HR.out.rot.setF (i := 0) (v := .int .i64 16)).setF (i := 1) (v := .int .u8 0)).setF (i := 2) (v := .string ⟨#[]⟩)).drop
  | cons c l =>
    obtain ⟨rfl, hr⟩ := hp
    have hC9 := l.length
    obtain ⟨-, at_, c5, hat, f5, lb, hn, -⟩ := hr.next rfl
    have HN1 := Lib.hid hn
    clear hr hn
    have hcv := conv_byte ((w1.setCell ⟨b, 5, none⟩ (.int .i64 ((at_ : Int) + 1))).alloc (.cells #[.int .u8 c.toNat] 5)) w1.heap.size c (by go_simp)
    have hs1 := ((HN1.out.allocD (o := .cells #[.int .u8 c.toNat] 5)).alloc (tokO [c])).of_eq (show _ = pts bc (codesO C e) * (pts (w1.heap.size + 1) (tokO [c]) * (pts w.heap.size (.cells #[.int .i64 0, .int .u8 0, .string ByteArray.empty] 26) * F)) by simp; ac_rfl)
    go_upto_region 6 with fail
    generalize hW2 : ((w1.setCell ⟨b, 5, none⟩ (.int .i64 ((at_ : Int) + 1))).alloc (.cells #[.int .u8 c.toNat] 5)).alloc (.cells #[.int .i64 16, .int .u8 0, .string ⟨#[c]⟩] 26) = W2 at *
    have hs2 : RdAt W (pts bc (codesO C e) * (pts (w1.heap.size + 1) (tokO [c]) * (pts w.heap.size (.cells #[.int .i64 0, .int .u8 0, .string ByteArray.empty] 26) * F))) b { R with left := l } W2 := hW2 ▸ hs1
    generalize w1.heap.size + 1 = x1' at *
    clear hW2 hs1 hcv HN1 c5 f5 lb
    have hs1 := hs2
    clear hs2
    have k0 := codes_cell hs1.sat HC.out c
    have lk := hs1.sat.lt
    have i4 : (c.toNat : Int) < 256 := by have := c.toNat_lt; omega
    by_cases h11 : codeAt C c = 11
    · have q1 : (codeAt C c == 11) = true := by simp [h11]
      have HN0 := Lib.hid (show nameM C R = (c :: (lettersF C (l.length + 1) l).1, { R with left := (lettersF C (l.length + 1) l).2, state := 2 }) by rw [nameM, HM.out]; simp only; rw [if_pos h11])
      obtain ⟨T, hT⟩ : ∃ T, lettersF C (l.length + 1) l = T := ⟨_, rfl⟩
      rw [hT] at HN0
      have HS1 := Lib.hid hs1
      have HT := Lib.hid hT
      clear hs1 hT h11
      go_wp2_with fail
      go_loopg [8] l.length (fun g s8 wx => ∃ l' acc : List UInt8, g = l'.length ∧ acc ++ (lettersF C (l'.length + 1) l').1 = c :: T.1 ∧ (lettersF C (l'.length + 1) l').2 = T.2 ∧ acc.length + l'.length ≤ 200000 ∧
        RdAt W (pts bc (codesO C e) * (pts x1' (tokO acc) * (pts w.heap.size (.cells #[.int .i64 0, .int .u8 0, .string ByteArray.empty] 26) * F))) b { R with left := l' } wx)
      case atStart => exact ⟨l, [c], rfl, by rw [HT.out]; rfl, by rw [HT.out], by have := HML.out; simp at this ⊢; omega, HS1.out⟩
      case round =>
        obtain ⟨l', acc, rfl, ha, hb, hal, hx⟩ := hrel
        obtain ⟨m, hm⟩ : ∃ m, made C l' = m := ⟨_, rfl⟩
        have hCH := char_any C HC.out e { R with left := l' } b bc hx
        simp only [hm] at hCH
        have HCH := Lib.hid hCH
        have HA := Lib.hid ha
        have HB := Lib.hid hb
        have HMM := Lib.hid hm
        clear ha hb hx hCH hm k0 lk q1
        go_wp2_with fail
        refine Calls.mono HCH.out ?_
        intro e' w3 hp
        cases m with
        | nil =>
          obtain ⟨rfl, hs1⟩ := hp
          have HLE := Lib.hid (show acc = c :: T.1 ∧ [] = T.2 by
            have h1 := HA.out
            have h2 := HB.out
            rw [letters_stop HMM.out] at h1 h2
            exact ⟨by simpa using h1, h2⟩)
          obtain ⟨c6, f6, lb6, hst⟩ := hs1.state 2
          have HN := Lib.hid (show nameM C R = (acc, { R with left := [], state := 2 }) by rw [HN0.out, HLE.out.1, HLE.out.2])
          have HE := Lib.hid hst
          have hx := hs1.sat.r
          have x0 := hx.cell (i := 0) rfl
          have x1 := hx.cell (i := 1) rfl
          have x2 := hx.cell (i := 2) rfl
          have lx := hx.lt
          have hr := hs1.sat.r.r
          have r0 := hr.cell (i := 0) rfl
          have r1 := hr.cell (i := 1) rfl
          have r2 := hr.cell (i := 2) rfl
          have f0 := hr.free (i := 0)
          have f1 := hr.free (i := 1)
          have f2 := hr.free (i := 2)
          have lr := hr.lt
          have n1 := hs1.rot.ne
          have n1' := n1.symm
          have n2 := hs1.rot.drop.rot.ne
          have n2' := n2.symm
          clear hx hr hst
          try clear hs1
          try clear h11
          try clear h10
          go_wp2
          (try simp only [Exit.inBlock, Exit.then])
          refine bodyPost_ret (v := Tok.val (nameT acc)) (by unfold results; go_simp; first | exact ⟨rfl, rfl, rfl⟩ | rfl) rfl ⟨by rw [HN.out], ?_⟩
          rw [HN.out]
          exact ((((HE.out.rot.drop.rot.setF (i := 0) (v := .int .i64 16)).setF (i := 1) (v := .int .u8 0)).setF (i := 2))).drop
        | cons d r =>
          obtain ⟨rfl, hs1⟩ := hp
          have hml := made_len C l'
          rw [HMM.out, List.length_cons] at hml
          have k0 := codes_cell hs1.sat HC.out d
          have lk := hs1.sat.lt
          have i4 : (d.toNat : Int) < 256 := by have := d.toNat_lt; omega
          by_cases h11 : codeAt C d = 11
          · have q1 : (codeAt C d != 11) = false := by simp [h11]
            have HL2 := Lib.hid (letters_more HMM.out h11)
            have hx2 := hs1.sat.r.cell (i := 2) rfl
            have fx2 := hs1.sat.r.free (i := 2)
            have lx := hs1.sat.r.lt
            have n1 := hs1.rot.ne
            have n1' := n1.symm
            have hcv := conv_byte (w3.alloc (.cells #[.int .u8 d.toNat] 5)) w3.heap.size d (by go_simp)
            have hcat : (⟨acc.toArray⟩ : ByteArray) ++ ⟨#[d]⟩ = ⟨(acc ++ [d]).toArray⟩ := by
              apply ByteArray.ext
              simp
            obtain ⟨u, xs, at_, h1, h2, h3, hs⟩ := hs1
            have c5 := hs.cell (i := 5) rfl
            have f5 := hs.free (i := 5)
            have lb := hs.lt
            have hlt : at_ < xs.length := by
              rcases Nat.lt_or_ge at_ xs.length with h4 | h4
              · exact h4
              · rw [List.drop_of_length_le h4] at h1; cases h1
            have h1' : xs.drop (at_ + 1) = r := by
              rw [List.drop_eq_getElem_cons hlt] at h1
              exact (List.cons.inj h1).2
            have HFIN := Lib.hid (show RdAt W (pts bc (codesO C e) * (pts x1' (tokO (acc ++ [d])) * (pts w.heap.size (.cells #[.int .i64 0, .int .u8 0, .string ByteArray.empty] 26) * F))) b { R with left := r } (((w3.setCell ⟨x1', 2, none⟩ (.string ⟨(acc ++ [d]).toArray⟩)).setCell ⟨b, 5, none⟩ (.int .i64 ((at_ : Int) + 1))).alloc (.cells #[.int .u8 d.toNat] 5)) from by
              refine RdAt.allocD ⟨u, xs, at_ + 1, h1', hlt, h3, ?_⟩
              have a1 := hs.of_eq (show _ = pts x1' (tokO acc) * (pts b (rdO { R with left := d :: r } u at_) * (rowM u xs * (pts bc (codesO C e) * (pts w.heap.size (.cells #[.int .i64 0, .int .u8 0, .string ByteArray.empty] 26) * F)))) by ac_rfl)
              have a2 := (a1.set (i := 2) (v := .string ⟨(acc ++ [d]).toArray⟩)).rot
              exact ((a2.set (i := 5) (v := .int .i64 ((at_ : Int) + 1))).of_eq (show _ = pts b (rdO { R with left := r } u (at_ + 1)) * (rowM u xs * (pts bc (codesO C e) * (pts x1' (tokO (acc ++ [d])) * (pts w.heap.size (.cells #[.int .i64 0, .int .u8 0, .string ByteArray.empty] 26) * F)))) by
                generalize pts w.heap.size (.cells #[.int .i64 0, .int .u8 0, .string ByteArray.empty] 26) = G
                show pts b (rdO { R with left := r } u (at_ + 1)) * (pts x1' (tokO (acc ++ [d])) * (rowM u xs * (pts bc (codesO C e) * (G * F)))) = _
                ac_rfl)))
            clear hs h1 h1' h11
            go_wp2_with fail
            go_roundg r.length
            case measure => omega
            case rel => exact ⟨r, acc ++ [d], rfl, by rw [← HA.out, HL2.out]; simp, by rw [← HB.out, HL2.out], by simp; omega, HFIN.out⟩
          · have q1 : (codeAt C d != 11) = true := by simpa using h11
            have HLE := Lib.hid (show acc = c :: T.1 ∧ d :: r = T.2 by
              have h1 := HA.out
              have h2 := HB.out
              rw [letters_other HMM.out h11] at h1 h2
              exact ⟨by simpa using h1, h2⟩)
            obtain ⟨c6, f6, lb6, hst⟩ := hs1.state 2
            have HN := Lib.hid (show nameM C R = (acc, { R with left := d :: r, state := 2 }) by rw [HN0.out, HLE.out.1, HLE.out.2])
            have HE := Lib.hid hst
            have hx := hs1.sat.r
            have x0 := hx.cell (i := 0) rfl
            have x1 := hx.cell (i := 1) rfl
            have x2 := hx.cell (i := 2) rfl
            have lx := hx.lt
            have hr := hs1.sat.r.r
            have r0 := hr.cell (i := 0) rfl
            have r1 := hr.cell (i := 1) rfl
            have r2 := hr.cell (i := 2) rfl
            have f0 := hr.free (i := 0)
            have f1 := hr.free (i := 1)
            have f2 := hr.free (i := 2)
            have lr := hr.lt
            have n1 := hs1.rot.ne
            have n1' := n1.symm
            have n2 := hs1.rot.drop.rot.ne
            have n2' := n2.symm
            clear hx hr hst
            try clear hs1
            try clear h11
            try clear h10
            go_wp2
            (try simp only [Exit.inBlock, Exit.then])
            refine bodyPost_ret (v := Tok.val (nameT acc)) (by unfold results; go_simp; first | exact ⟨rfl, rfl, rfl⟩ | rfl) rfl ⟨by rw [HN.out], ?_⟩
            rw [HN.out]
            exact ((((HE.out.rot.drop.rot.setF (i := 0) (v := .int .i64 16)).setF (i := 1) (v := .int .u8 0)).setF (i := 2))).drop
    · have q1 : (codeAt C c == 11) = false := by simpa using h11
      by_cases h10 : codeAt C c = 10
      · have q2 : (codeAt C c == 10) = true := by simp [h10]
        obtain ⟨c6, f6, lb6, hst⟩ := hs1.state 2
        have HN := Lib.hid (show nameM C R = ([c], { R with left := l, state := 2 }) by rw [nameM, HM.out]; simp only; rw [if_neg h11, if_pos h10])
        have HE := Lib.hid hst
        have hx := hs1.sat.r
        have x0 := hx.cell (i := 0) rfl
        have x1 := hx.cell (i := 1) rfl
        have x2 := hx.cell (i := 2) rfl
        have lx := hx.lt
        have hr := hs1.sat.r.r
        have r0 := hr.cell (i := 0) rfl
        have r1 := hr.cell (i := 1) rfl
        have r2 := hr.cell (i := 2) rfl
        have f0 := hr.free (i := 0)
        have f1 := hr.free (i := 1)
        have f2 := hr.free (i := 2)
        have lr := hr.lt
        have n1 := hs1.rot.ne
        have n1' := n1.symm
        have n2 := hs1.rot.drop.rot.ne
        have n2' := n2.symm
        clear hx hr hst
        try clear hs1
        try clear h11
        try clear h10
        go_wp2
        (try simp only [Exit.inBlock, Exit.then])
        refine bodyPost_ret (v := Tok.val (nameT [c])) (by unfold results; go_simp; first | exact ⟨rfl, rfl, rfl⟩ | rfl) rfl ⟨by rw [HN.out], ?_⟩
        rw [HN.out]
        exact ((((HE.out.rot.drop.rot.setF (i := 0) (v := .int .i64 16)).setF (i := 1) (v := .int .u8 0)).setF (i := 2))).drop
      · have q2 : (codeAt C c == 10) = false := by simpa using h10
        obtain ⟨c6, f6, lb6, hst⟩ := hs1.state 1
        have HN := Lib.hid (show nameM C R = ([c], { R with left := l, state := 1 }) by rw [nameM, HM.out]; simp only; rw [if_neg h11, if_neg h10])
        have HE := Lib.hid hst
        have hx := hs1.sat.r
        have x0 := hx.cell (i := 0) rfl
        have x1 := hx.cell (i := 1) rfl
        have x2 := hx.cell (i := 2) rfl
        have lx := hx.lt
        have hr := hs1.sat.r.r
        have r0 := hr.cell (i := 0) rfl
        have r1 := hr.cell (i := 1) rfl
        have r2 := hr.cell (i := 2) rfl
        have f0 := hr.free (i := 0)
        have f1 := hr.free (i := 1)
        have f2 := hr.free (i := 2)
        have lr := hr.lt
        have n1 := hs1.rot.ne
        have n1' := n1.symm
        have n2 := hs1.rot.drop.rot.ne
        have n2' := n2.symm
        clear hx hr hst
        try clear hs1
        try clear h11
        try clear h10
        go_wp2
        (try simp only [Exit.inBlock, Exit.then])
        refine bodyPost_ret (v := Tok.val (nameT [c])) (by unfold results; go_simp; first | exact ⟨rfl, rfl, rfl⟩ | rfl) rfl ⟨by rw [HN.out], ?_⟩
        rw [HN.out]
        exact ((((HE.out.rot.drop.rot.setF (i := 0) (v := .int .i64 16)).setF (i := 1) (v := .int .u8 0)).setF (i := 2))).drop

end Go.Proofs.YtpcdbeicpmjooaaDoor
