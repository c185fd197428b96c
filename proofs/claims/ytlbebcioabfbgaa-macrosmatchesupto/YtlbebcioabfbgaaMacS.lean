/-
  Lists of lists that a call makes; append within a region that draws its order. Conditions: those that each theorem names.
-/
import Derived.Test.YtlbebcioabfbgaaMacH
import Derived.Deep.RegionHeld3
namespace Go.Sp
open Go Go.RowKit
section
variable {W w w' : World} {A : HProp} {v : Value} {n : Nat} {e : TypeId} {size : Nat} {xs : List Value}

theorem step_append_rd {P : Program} {ops : Array Oper} {o : Oper} {ac : Act} {K : Act → World → Prop} {Q : Exit → Act → World → Prop} {E : Prop} (hgd : o.guard = none) (s x : Operand) (t : TypeId)
    (ho : o.op = .call { callee := .builtin .append, args := #[s, x], argTypes := #[t, t] })
    (i : TypeInfo) (z : Value) (bytes : Nat) (ht : P.underlying t = some (.slice e)) (hi : P.info? e = some i) (hz : i.zero = some z)
    (hsize : i.size = size) (hby : i.bytes = bytes) (hzs : z.cells.size = size) (hsz : 0 < size)
    (hs : ac.eval s = v) (h : Sat W (row v n e size xs * A) w)
    (u : Value) (m : Nat) (news : List Value) (hx : ac.eval x = u) (hr : Rd w u m size news) (h1 : ∀ u ∈ news, u.oneCell' = true)
    (h63 : n + m ≤ maxLen) (hbytes : (n + m) * bytes ≤ 140737488355328)
    (hK : ∀ v' w', Sat W (row v' (n + m) e size (xs ++ news) * A) w' → (v' = .slice none 0 0 ↔ v = .slice none 0 0 ∧ m = 0) → K (ac.put o.dst v') w') :
    if Region.wanted o (yielded ops ac.tmps) = true then Oper.wp P o ac w K Q else E := by
  rw [if_pos (by simp [Region.wanted, hgd])]
  have hr' := hr
  obtain ⟨hl, hm, a, c, rfl, hcell⟩ := hr'
  cases a with
  | some a =>
    obtain ⟨v', w', hrun, r1, r2⟩ := Sat.run_append (P := P) t o.type i z bytes ht hi hz hsize hby hzs h a m c news hl (fun j u hu => by
      obtain ⟨b, off, e1, e2⟩ := hcell j u hu
      cases e1
      rw [Addr.add_lit]; exact e2) h1 h63 hbytes
    unfold Oper.wp
    simp [execOp, ho, resolve, invoke, builtin, hs, hx, hrun, Result.andThen]
    exact hK _ _ r1 r2
  | none =>
    have hm0 : m = 0 := by
      rcases Nat.eq_zero_or_pos m with h0 | h0
      · exact h0
      · obtain ⟨b, off, cap, e1, _⟩ := hr.head h0 hsz
        cases e1
    subst hm0
    have hn : news = [] := List.eq_nil_of_length_eq_zero (by simpa using hl)
    subst hn
    unfold Oper.wp
    have key : ∃ b cap, v = .slice b n cap ∧ n ≤ cap := by
      obtain ⟨_, hc⟩ := h.row_cases
      rcases hc with ⟨rfl, rfl, _⟩ | ⟨g, cap, cur, rfl, hc, _⟩
      · exact ⟨none, 0, rfl, Nat.le_refl _⟩
      · exact ⟨_, cap, rfl, hc⟩
    obtain ⟨b, cap, rfl, hc⟩ := key
    simp [execOp, ho, resolve, invoke, builtin, hs, hx, run_append_empty (P := P) t o.type i ht hi w b n cap c hc, Result.andThen]
    have := hK (.slice b n cap) w (by simpa using h) (by simp)
    exact this
end
end Go.Sp

namespace Go.Proofs.Ytlbebcioabfbgaa
open Go.RowKit Go.Sp
variable {W w w' : World} {F : HProp}

def rows : List Value → List (List Tok) → HProp
  | u :: us, L :: LL => rowT u L * rows us LL
  | _, _ => emp

theorem rows_snoc : ∀ (us : List Value) (LL : List (List Tok)) (u : Value) (L : List Tok), us.length = LL.length → rows (us ++ [u]) (LL ++ [L]) = rows us LL * rowT u L := by
  intro us
  induction us with
  | nil => intro LL u L h; cases LL with
    | nil => simp only [List.nil_append, rows, emp_star]; rw [star_comm, emp_star]
    | cons => simp at h
  | cons a us ih => intro LL u L h; cases LL with
    | nil => simp at h
    | cons b LL => simp only [List.cons_append, rows]; rw [ih LL u L (by simpa using h), star_assoc]

/-- the i-th out of the row, and another put in its place -/
theorem rows_hole : ∀ (us : List Value) (LL : List (List Tok)) (i : Nat), us.length = LL.length → i < LL.length → ∃ R : HProp, ∀ u L, rows (us.set i u) (LL.set i L) = rowT u L * R := by
  intro us
  induction us with
  | nil => intro LL i h hi; simp at h; omega
  | cons a us ih =>
    intro LL i h hi
    cases LL with
    | nil => simp at h
    | cons b LL =>
      cases i with
      | zero => exact ⟨rows us LL, fun u L => rfl⟩
      | succ i =>
        obtain ⟨R, hR⟩ := ih LL i (by simpa using h) (by simpa using hi)
        exact ⟨rowT a b * R, fun u L => by simp only [List.set_cons_succ, rows]; rw [hR, star_left_comm]⟩

theorem set_same {α : Type} (l : List α) (i : Nat) (h : i < l.length) : l.set i l[i] = l := by
  apply List.ext_getElem?
  intro j
  rw [List.getElem?_set]
  by_cases hj : i = j
  · subst hj; simp [h]
  · simp [hj]

theorem rows_at {us : List Value} {LL : List (List Tok)} {i : Nat} (h : us.length = LL.length) (hi : i < LL.length) : ∃ R : HProp, rows us LL = rowT (us[i]'(by omega)) LL[i] * R ∧ ∀ u L, rows (us.set i u) (LL.set i L) = rowT u L * R := by
  obtain ⟨R, hR⟩ := rows_hole us LL i h hi
  refine ⟨R, ?_, hR⟩
  have := hR (us[i]'(by omega)) LL[i]
  rwa [set_same, set_same] at this

/-- a list of lists that is owned; us: its slices -/
def rowUU (v : Value) (us : List Value) (LL : List (List Tok)) : HProp := row v LL.length 22 1 us * rows us LL

theorem rowUU_rd {v : Value} {us : List Value} {LL : List (List Tok)} (hl : us.length = LL.length) (h : Sat W (rowUU v us LL * F) w) : RdTT w v LL := by
  have h1 := h.asc
  refine ⟨us, hl, h1.rd, ?_, ?_⟩
  · obtain ⟨_, hc⟩ := h1.row_cases
    rcases hc with ⟨rfl, h0, _⟩ | ⟨g, cap, cur, rfl, hc, _⟩
    · exact ⟨none, 0, by rw [h0], by omega⟩
    · exact ⟨_, cap, rfl, hc⟩
  · intro i u L hu hL
    have hi : i < LL.length := (List.getElem?_eq_some_iff.1 hL).1
    obtain ⟨R, hR, -⟩ := rows_at (us := us) (LL := LL) (i := i) hl hi
    have h2 := h1.r.l
    rw [hR] at h2
    have e1 : us[i]'(by omega) = u := by simpa [List.getElem?_eq_getElem (show i < us.length by omega)] using hu
    have e2 : LL[i] = L := by simpa [List.getElem?_eq_getElem hi] using hL
    rw [e1, e2] at h2
    exact rowT_rd h2

theorem info_sl : (Try.prog.info? 22).map (fun i => (i.zero, i.size, i.bytes)) = some (some (.slice none 0 0), 1, 24) := by kernel_rfl

end Go.Proofs.Ytlbebcioabfbgaa
