
/-
  append of a slice that is read. Conditions: those that each theorem names.
-/
import Derived.Test.YtembknlhocijkaaAnyC
import Derived.Deep.RegionLaw
namespace Go.Sp
open Go Go.RowKit
section
variable {W w w' : World} {A : HProp} {v : Value} {n : Nat} {e : TypeId} {size : Nat} {xs : List Value}

theorem run_append_empty {P : Program} (t ty : TypeId) (i : TypeInfo) (ht : P.underlying t = some (.slice e)) (hi : P.info? e = some i) (w : World) (base : Option Addr) (n cap c : Nat) (hn : n ≤ cap) :
    (Builtin.append_ #[t, t] ty #[.slice base n cap, .slice none 0 c]).run P w = .ok (.slice base n cap) w := by
  cases base <;> simp [Builtin.append_, run_underlying ht, sizeOf, typeInfo, hi, Builtin.lenOf, hn, Builtin.firstCells, loadCells, storeCells]

/-- append of what can be read -/
theorem wpList_append_rd {P : Program} {ops : Array Oper} {rest : List Oper} {o : Oper} {ac : Act} {Q : Exit → Act → World → Prop} (hgd : o.guard = none) (s x : Operand) (t : TypeId)
    (ho : o.op = .call { callee := .builtin .append, args := #[s, x], argTypes := #[t, t] })
    (i : TypeInfo) (z : Value) (bytes : Nat) (ht : P.underlying t = some (.slice e)) (hi : P.info? e = some i) (hz : i.zero = some z)
    (hsize : i.size = size) (hby : i.bytes = bytes) (hzs : z.cells.size = size) (hsz : 0 < size)
    (hs : ac.eval s = v) (h : Sat W (row v n e size xs * A) w)
    (u : Value) (m : Nat) (news : List Value) (hx : ac.eval x = u) (hr : Rd w u m size news) (h1 : ∀ u ∈ news, u.oneCell' = true)
    (h63 : n + m ≤ maxLen) (hbytes : (n + m) * bytes ≤ 140737488355328)
    (hK : ∀ v' w', Sat W (row v' (n + m) e size (xs ++ news) * A) w' → wpList P ops Q rest (ac.put o.dst v') w') : wpList P ops Q (o :: rest) ac w := by
  have hr' := hr
  obtain ⟨hl, hm, a, c, rfl, hcell⟩ := hr'
  cases a with
  | some a =>
    refine wpList_append_sep hgd s x t ho i z bytes ht hi hz hsize hby hzs hs h a m c news hx hl (fun j u hu => ?_) h1 h63 hbytes hK
    obtain ⟨b, off, e1, e2⟩ := hcell j u hu
    cases e1
    rw [Addr.add_lit]; exact e2
  | none =>
    have hm0 : m = 0 := by
      rcases Nat.eq_zero_or_pos m with h0 | h0
      · exact h0
      · obtain ⟨b, off, cap, e1, _⟩ := hr.head h0 hsz
        cases e1
    subst hm0
    have hn : news = [] := List.eq_nil_of_length_eq_zero (by simpa using hl)
    subst hn
    refine wpList_plain hgd fun K hK' => ?_
    unfold Oper.wp
    have key : ∃ b cap, v = .slice b n cap ∧ n ≤ cap := by
      obtain ⟨_, hc⟩ := h.row_cases
      rcases hc with ⟨rfl, rfl, _⟩ | ⟨g, cap, cur, rfl, hc, _⟩
      · exact ⟨none, 0, rfl, Nat.le_refl _⟩
      · exact ⟨_, cap, rfl, hc⟩
    obtain ⟨b, cap, rfl, hc⟩ := key
    simp [execOp, ho, resolve, invoke, builtin, hs, hx, run_append_empty (P := P) t o.type i ht hi w b n cap c hc, Result.andThen]
    have := hK (.slice b n cap) w (by simpa using h)
    exact hK' _ _ this

theorem step_append_rd {P : Program} {ops : Array Oper} {o : Oper} {ac : Act} {K : Act → World → Prop} {Q : Exit → Act → World → Prop} {E : Prop} (hgd : o.guard = none) (s x : Operand) (t : TypeId)
    (ho : o.op = .call { callee := .builtin .append, args := #[s, x], argTypes := #[t, t] })
    (i : TypeInfo) (z : Value) (bytes : Nat) (ht : P.underlying t = some (.slice e)) (hi : P.info? e = some i) (hz : i.zero = some z)
    (hsize : i.size = size) (hby : i.bytes = bytes) (hzs : z.cells.size = size) (hsz : 0 < size)
    (hs : ac.eval s = v) (h : Sat W (row v n e size xs * A) w)
    (u : Value) (m : Nat) (news : List Value) (hx : ac.eval x = u) (hr : Rd w u m size news) (h1 : ∀ u ∈ news, u.oneCell' = true)
    (h63 : n + m ≤ maxLen) (hbytes : (n + m) * bytes ≤ 140737488355328)
    (hK : ∀ v' w', Sat W (row v' (n + m) e size (xs ++ news) * A) w' → (v' = .slice none 0 0 ↔ v = .slice none 0 0 ∧ m = 0) → K (ac.put o.dst v') w') :
    if Region.wanted o (yielded ops ac.tmps) = true then Oper.wp P o ac w K Q else E := by
  rw [if_pos (by simp [Region.wanted, hgd])]
  have hr' := hr
  obtain ⟨hl, hm, a, c, rfl, hcell⟩ := hr'
  cases a with
  | some a =>
    obtain ⟨v', w', hrun, r1, r2⟩ := Sat.run_append (P := P) t o.type i z bytes ht hi hz hsize hby hzs h a m c news hl (fun j u hu => by
      obtain ⟨b, off, e1, e2⟩ := hcell j u hu
      cases e1
      rw [Addr.add_lit]; exact e2) h1 h63 hbytes
    unfold Oper.wp
    simp [execOp, ho, resolve, invoke, builtin, hs, hx, hrun, Result.andThen]
    exact hK _ _ r1 r2
  | none =>
    have hm0 : m = 0 := by
      rcases Nat.eq_zero_or_pos m with h0 | h0
      · exact h0
      · obtain ⟨b, off, cap, e1, _⟩ := hr.head h0 hsz
        cases e1
    subst hm0
    have hn : news = [] := List.eq_nil_of_length_eq_zero (by simpa using hl)
    subst hn
    unfold Oper.wp
    have key : ∃ b cap, v = .slice b n cap ∧ n ≤ cap := by
      obtain ⟨_, hc⟩ := h.row_cases
      rcases hc with ⟨rfl, rfl, _⟩ | ⟨g, cap, cur, rfl, hc, _⟩
      · exact ⟨none, 0, rfl, Nat.le_refl _⟩
      · exact ⟨_, cap, rfl, hc⟩
    obtain ⟨b, cap, rfl, hc⟩ := key
    simp [execOp, ho, resolve, invoke, builtin, hs, hx, run_append_empty (P := P) t o.type i ht hi w b n cap c hc, Result.andThen]
    have := hK (.slice b n cap) w (by simpa using h) (by simp)
    exact this

theorem Rd.frame {B : HProp} {v : Value} {n : Nat} {size : Nat} {xs : List Value} (h : Rd w v n size xs) (k : Sat w (B * own w) w') : Rd w' v n size xs := h.ext k.extR
end
end Go.Sp
