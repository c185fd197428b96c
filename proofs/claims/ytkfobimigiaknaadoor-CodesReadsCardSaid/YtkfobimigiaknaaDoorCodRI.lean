/-
  The reference's New. Conditions: those that each theorem names.
-/
import Derived.Test.YtkfobimigiaknaaDoorCodRG
namespace Go.Sp
open Go Go.RowKit
section
variable {W w w' : World} {A : HProp} {v : Value} {n : Nat} {e : TypeId} {size : Nat} {xs : List Value}
theorem step_append_rd {P : Program} {ops : Array Oper} {o : Oper} {ac : Act} {K : Act → World → Prop} {Q : Exit → Act → World → Prop} {E : Prop} (hgd : o.guard = none) (s x : Operand) (t : TypeId)
    (ho : o.op = .call { callee := .builtin .append, args := #[s, x], argTypes := #[t, t] })
    (i : TypeInfo) (z : Value) (bytes : Nat) (ht : P.underlying t = some (.slice e)) (hi : P.info? e = some i) (hz : i.zero = some z)
    (hsize : i.size = size) (hby : i.bytes = bytes) (hzs : z.cells.size = size)
    (hs : ac.eval s = v) (h : Sat W (row v n e size xs * A) w)
    (a : Addr) (c : Nat) (m : Nat) (news : List Value) (hx : ac.eval x = .slice (some a) m c) (hl : news.length = m * size) (hcell : ∀ j u, news[j]? = some u → w.cell? (a.add j) = some u) (h1 : ∀ u ∈ news, u.oneCell' = true)
    (h63 : n + m ≤ maxLen) (hbytes : (n + m) * bytes ≤ 140737488355328)
    (hK : ∀ v' w', Sat W (row v' (n + m) e size (xs ++ news) * A) w' → K (ac.put o.dst v') w') :
    if Region.wanted o (yielded ops ac.tmps) = true then Oper.wp P o ac w K Q else E := by
  rw [if_pos (by simp [Region.wanted, hgd])]
  obtain ⟨v', w', hrun, r1, r2⟩ := Sat.run_append (P := P) t o.type i z bytes ht hi hz hsize hby hzs h a m c news hl hcell h1 h63 hbytes
  unfold Oper.wp
  simp [execOp, ho, resolve, invoke, builtin, hs, hx, hrun, Result.andThen]
  exact hK _ _ r1
end
end Go.Sp

namespace Go.Proofs.YtkfobimigiaknaaDoor
open Go.RowKit Go.Sp
variable {W w w' : World} {F F' : HProp}

theorem info_str : (Tryd.prog.info? 9).map (fun i => (i.zero, i.size, i.bytes)) = some (some (.string ByteArray.empty), 1, 16) := by kernel_rfl

abbrev newO (v : Value) : Obj := .cells #[v, .int .i64 0, .slice none 0 0, .int .i64 0, .bool false] 55

theorem RefAt.made {text : List UInt8} {b : Nat} {v : Value} {acc : List (List UInt8)} (he : acc = linesL text) (h : Sat W (row v acc.length 9 1 (strsV acc) * (pts b (newO v) * F)) w) : RefAt W F b (newR text) w := by
  refine ⟨(fun h => by cases h), v, .slice none 0 0, v, acc, 0, ?_, he, ?_⟩
  · refine ⟨Nat.zero_le _, ?_⟩
    obtain ⟨_, ⟨rfl, h0, _⟩ | ⟨g, cap, cur, rfl, hc, _⟩⟩ := h.row_cases
    · exact .inl ⟨rfl, rfl, h0⟩
    · exact .inr ⟨g, 0, cap, cap, rfl, rfl, hc, fun _ => rfl⟩
  · have h2 := h.rot.rowM_nil
    exact h2.of_eq (by show _ = pts b (newO v) * _; ac_rfl)

theorem strsV_snoc {v : Value} {acc : List (List UInt8)} {l : List UInt8} {n : Nat} {xs : List Value} {A : HProp} (h : Sat W (row v n 9 1 xs * A) w) (hn : n = acc.length + 1) (hx : xs = strsV acc ++ [(.string ⟨l.toArray⟩)]) : Sat W (row v (acc ++ [l]).length 9 1 (strsV (acc ++ [l])) * A) w := by
  subst hn hx
  simpa [strsV] using h


set_option maxRecDepth 100000 in
set_option maxHeartbeats 4000000 in
theorem newR_any (text : List UInt8) (h : Sat W F w) (ht : text.length ≤ 65536) : Calls Tryd.prog 23 #[(.string ⟨text.toArray⟩)] w fun e w' => ∃ b, e = .returned (.tuple #[.pointer (some ⟨b, 0, none⟩), .int .i64 0]) ∧ RefAt W F b (newR text) w' := by
  obtain ⟨i0, hi, hz0, hz1, hz2⟩ := info_parts3B info_str
  have HI := Lib.hid hi
  have HZ0 := Lib.hid hz0
  have HZ1 := Lib.hid hz1
  have HZ2 := Lib.hid hz2
  clear hi hz0 hz1 hz2
  have hsz : (⟨text.toArray⟩ : ByteArray).size = text.length := str_size text
  have i1 : ¬ (65536 : Int) < (text.length : Int) := by omega
  obtain ⟨n, hn⟩ : ∃ n, text.length = n := ⟨_, rfl⟩
  have HN := Lib.hid hn
  rw [hn] at hsz i1 ht
  have H0 := Lib.hid ((h.alloc (newO (.slice none 0 0))).row_nil (e := 9) (size := 1))
  clear h hn
  go_enter Tryd.func23, Tryd.ntmps23
  go_wp2
  go_loopw [5, 6] (fun s5 s6 wr => ∃ (k i : Nat) (acc : List (List UInt8)) (v : Value), k ≤ i ∧ i ≤ n ∧ s5 = .int .i64 k ∧ s6 = .int .i64 i ∧ acc ++ linesL (text.drop k) = linesL text ∧ (∀ j, k ≤ j → j < i → text[j]? ≠ some 10) ∧ acc.length ≤ i ∧
    Sat W (row v acc.length 9 1 (strsV acc) * (pts w.heap.size (newO v) * F)) wr) (fun _ s6 _ => n - (intOf s6).toNat)
  case atStart => exact ⟨0, 0, [], .slice none 0 0, Nat.le_refl _, Nat.zero_le _, rfl, rfl, rfl, fun j _ h => absurd h (by omega), Nat.zero_le _, H0.out⟩
  case round =>
    obtain ⟨k, i, acc, v, hki, hin, rfl, rfl, hl, hno, hal, hs⟩ := hrel
    have HS := Lib.hid hs
    have HL := Lib.hid hl
    have HNO := Lib.hid hno
    have c0 := hs.r.cell (i := 0) rfl
    have f0 := hs.r.free (i := 0)
    have l0 := hs.r.lt
    clear hs hl hno
    by_cases hlt : i < n
    · have h1 : i < (⟨text.toArray⟩ : ByteArray).size := by rw [hsz]; exact hlt
      have hil : i < text.length := by rw [HN.out]; exact hlt
      have hb0 : (⟨text.toArray⟩ : ByteArray)[i]'h1 = text[i] := by
        have := Lib.getElem_mk text i h1
        rw [List.getElem?_eq_getElem hil] at this
        exact (Option.some.inj this).symm
      have HB2 := Lib.hid (show text[i]? = some text[i] from List.getElem?_eq_getElem hil)
      generalize text[i] = d at *
      clear hil
      by_cases heq : d = 10
      · have hq : ((d.toNat : Int) == 10) = true := by simp [heq]
        obtain ⟨l, hl⟩ : ∃ l, (text.drop k).take (i - k) = l := ⟨_, rfl⟩
        have hx1 : (⟨text.toArray⟩ : ByteArray).extract k i = ⟨l.toArray⟩ := by rw [Lib.extract_mk, hl]
        have HLN := Lib.hid (show linesL (text.drop k) = l :: linesL (text.drop (i + 1)) by
          rw [linesL_cut (text.drop k) (i - k) (by rw [List.getElem?_drop, show k + (i - k) = i by omega, HB2.out, heq]) (fun j hj => by rw [List.getElem?_drop]; exact HNO.out _ (by omega) (by omega)), hl, List.drop_drop, show k + (i - k + 1) = i + 1 by omega])
        clear hl heq
        go_wp2
        have HA := Lib.hid (HS.out.drew.allocD (o := .cells #[(.string ⟨l.toArray⟩)] 9))
        go_region_law
          (refine step_append_rd rfl _ _ 52 rfl i0 _ 16 Tryd.underlying52 HI.out HZ0.out HZ1.out HZ2.out rfl rfl HA.out ⟨wr.heap.size, 0, none⟩ 1 1 [(.string ⟨l.toArray⟩)] rfl rfl ?_ ?_ ?_ ?_ ?_
           · exact new_cells wr.drew #[(.string ⟨l.toArray⟩)] 9
           · intro u hu
             simp only [List.mem_singleton] at hu
             subst hu
             rfl
           · simp [maxLen]; omega
           · omega
           intro v1 w1 h7
           obtain ⟨ya, yc, rfl, -⟩ := h7.row_val
           have H7 := Lib.hid (strsV_snoc (l := l) h7 rfl rfl)
           have c41 := h7.r.cell (i := 0) rfl
           have f41 := h7.r.free (i := 0)
           have l41 := h7.r.lt
           clear h7)
        all_goals
          go_wp2
          go_roundw
          case rel =>
            refine ⟨i + 1, i + 1, acc ++ [l], .slice ya (acc.length + 1) yc, Nat.le_refl _, by omega, by go_num, by go_num, by rw [← HL.out, HLN.out]; simp, fun j _ h => absurd h (by omega), by simp; omega, ?_⟩
            exact (H7.out.rot.set (i := 0) (v := .slice ya (acc.length + 1) yc)).rot
          case measure => simp [intOf]; omega
      · have hq : ((d.toNat : Int) == 10) = false := by
          rw [beq_eq_false_iff_ne]
          intro h
          exact heq (UInt8.toNat_inj.1 (by have : d.toNat = 10 := by exact_mod_cast h
                                           simpa using this))
        have HNO2 := Lib.hid (show ∀ j, k ≤ j → j < i + 1 → text[j]? ≠ some 10 from fun j h1 h2 => by
          by_cases e : j = i
          · subst e; rw [HB2.out]; simpa using heq
          · exact HNO.out j h1 (by omega))
        clear heq
        go_wp2
        go_roundw
        case rel => exact ⟨k, i + 1, acc, v, by omega, by omega, rfl, by go_num, HL.out, HNO2.out, by omega, HS.out⟩
        case measure => simp [intOf]; omega
    · have hin' : i = n := by omega
      subst hin'
      by_cases hk : k < i
      · obtain ⟨l, hl⟩ : ∃ l, text.drop k = l := ⟨_, rfl⟩
        have hx1 : (⟨text.toArray⟩ : ByteArray).extract k i = ⟨l.toArray⟩ := by rw [Lib.extract_mk, hl, List.take_of_length_le (by rw [← hl, List.length_drop, HN.out]; exact Nat.le_refl _)]
        have HLN := Lib.hid (show acc ++ [l] = linesL text by
          rw [← HL.out, hl, linesL_one l]
          · rintro rfl
            have := congrArg List.length hl
            rw [List.length_drop, HN.out] at this
            simp at this; omega
          · intro hm
            obtain ⟨j, hj, he⟩ := List.getElem_of_mem hm
            have h1 : l[j]? = some 10 := by rw [List.getElem?_eq_getElem hj, he]
            rw [← hl, List.getElem?_drop] at h1
            have h2 : k + j < text.length := (List.getElem?_eq_some_iff.1 h1).1
            exact HNO.out (k + j) (by omega) (by rw [← HN.out]; exact h2) h1)
        clear hl
        go_wp2
        have HA := Lib.hid (HS.out.drew.allocD (o := .cells #[(.string ⟨l.toArray⟩)] 9))
        go_region_law
          (refine step_append_rd rfl _ _ 52 rfl i0 _ 16 Tryd.underlying52 HI.out HZ0.out HZ1.out HZ2.out rfl rfl HA.out ⟨wr.heap.size, 0, none⟩ 1 1 [(.string ⟨l.toArray⟩)] rfl rfl ?_ ?_ ?_ ?_ ?_
           · exact new_cells wr.drew #[(.string ⟨l.toArray⟩)] 9
           · intro u hu
             simp only [List.mem_singleton] at hu
             subst hu
             rfl
           · simp [maxLen]; omega
           · omega
           intro v1 w1 h7
           obtain ⟨ya, yc, rfl, -⟩ := h7.row_val
           have H7 := Lib.hid (strsV_snoc (l := l) h7 rfl rfl)
           have c41 := h7.r.cell (i := 0) rfl
           have f41 := h7.r.free (i := 0)
           have l41 := h7.r.lt
           clear h7)
        all_goals
          go_wp2
          go_ret2
          exact ⟨_, rfl, RefAt.made HLN.out (H7.out.rot.set (i := 0) (v := .slice ya (acc.length + 1) yc)).rot⟩
      · have HLN := Lib.hid (show acc = linesL text by
          rw [← HL.out, List.drop_of_length_le (by rw [HN.out]; omega), linesL_nil, List.append_nil])
        go_wp2
        go_ret2
        exact ⟨_, rfl, RefAt.made HLN.out HS.out⟩

theorem newR_no (text : List UInt8) (w : World) (ht : 65536 < text.length) : Calls Tryd.prog 23 #[(.string ⟨text.toArray⟩)] w fun e w' => e = .returned (.tuple #[.pointer none, .int .i64 6]) ∧ w = w' := by
  have hsz : (⟨text.toArray⟩ : ByteArray).size = text.length := str_size text
  have i1 : (65536 : Int) < (text.length : Int) := by omega
  generalize text.length = n at *
  go_enter Tryd.func23, Tryd.ntmps23
  go_wp2
  go_ret2
  exact ⟨rfl, rfl⟩
end Go.Proofs.YtkfobimigiaknaaDoor
