
/-
  A table: groups begin, or not; tokens that may be kept. Conditions: those that each theorem names.
-/
import Derived.Test.YtebggkgciocciaaGreatTabE
namespace Go.Proofs.YtebggkgciocciaaGreat
open Go.RowKit Go.Sp
variable {W w w' : World} {F A : HProp}

/-- what Begin answers, and what the table is then -/
def beginE (S : TabS) (k : Int) : Int := if k < 0 ∨ 20 < k then 11 else if S.groups.length = 200 then 6 else 0
noncomputable def beginS (S : TabS) (k : Int) : TabS := if beginE S k = 0 then S.begun k else S

theorem TabAt.le {b N : Nat} {S : TabS} (h : TabAt W F b N S w) : S.groups.length ≤ 200 := by
  obtain ⟨m, nm, gs, lt, R, V, ⟨_, _, _, _, h⟩, _⟩ := h
  exact h

set_option maxRecDepth 100000 in
set_option maxHeartbeats 4000000 in
theorem begin_any {b N : Nat} {S : TabS} (k : Int) (h : TabAt W F b N S w) :
    Calls Tryz.prog 9 #[.pointer (some ⟨b, 0, none⟩), .int .i64 k] w fun e w' => e = .returned (.int .i64 (beginE S k)) ∧ TabAt W F b N (beginS S k) w' := by
  have hle := h.le
  by_cases h1 : k < 0 ∨ 20 < k
  · have e1 : beginE S k = 11 := by rw [beginE, if_pos h1]
    have e2 : beginS S k = S := by rw [beginS, e1, if_neg (by decide)]
    rw [e1, e2]
    have HG := Lib.hid (good_any h)
    have H := Lib.hid h
    clear h e1 e2
    rcases h1 with h1 | h1
    · go_enter Tryz.func9, Tryz.ntmps9
      go_wp2_with fail
      refine Calls.mono HG.out ?_
      rintro e w' ⟨rfl, rfl⟩
      go_wp2
      go_ret
      exact ⟨rfl, H.out⟩
    · have h2 : ¬ k < 0 := by omega
      go_enter Tryz.func9, Tryz.ntmps9
      go_wp2_with fail
      refine Calls.mono HG.out ?_
      rintro e w' ⟨rfl, rfl⟩
      go_wp2
      go_ret
      exact ⟨rfl, H.out⟩
  · by_cases h2 : S.groups.length = 200
    · have e1 : beginE S k = 6 := by rw [beginE, if_neg h1, if_pos h2]
      have e2 : beginS S k = S := by rw [beginS, e1, if_neg (by decide)]
      rw [e1, e2]
      have HG := Lib.hid (good_any h)
      have H := Lib.hid h
      obtain ⟨m, nm, gs, lt, R, V, ⟨_, _, _, h3, _⟩, hs⟩ := h
      obtain ⟨a, cap, rfl⟩ := Sat.row_value hs.r.r.r
      have c0 := hs.cell (i := 10753) (tab_groups nm R _ lt)
      rw [h3, h2] at c0
      have j1 : ¬ k < 0 := by omega
      have j2 : ¬ 20 < k := by omega
      clear hs h1 h2 h3 e1 e2 hle
      go_enter Tryz.func9, Tryz.ntmps9
      go_wp2_with fail
      refine Calls.mono HG.out ?_
      rintro e w' ⟨rfl, rfl⟩
      go_wp2
      go_ret
      exact ⟨rfl, H.out⟩
    · have e1 : beginE S k = 0 := by rw [beginE, if_neg h1, if_neg h2]
      have e2 : beginS S k = S.begun k := by rw [beginS, e1, if_pos rfl]
      rw [e1, e2]
      exact begin_yes k (by omega) (by omega) h

/-- may a token be kept? -/
def tokOK (t : Tok) : Bool :=
  if t.cat = 16 then ((t.chr.toNat : Int) == 0)
  else if t.cat = 1 ∨ t.cat = 2 ∨ t.cat = 3 ∨ t.cat = 4 ∨ t.cat = 6 ∨ t.cat = 7 ∨ t.cat = 8 ∨ t.cat = 10 ∨ t.cat = 11 ∨ t.cat = 12 ∨ t.cat = 13 then t.name.toList.isEmpty
  else false


set_option maxRecDepth 100000 in
set_option maxHeartbeats 4000000 in
theorem token_any (t : Tok) (w : World) : Calls Tryz.prog 66 #[Tok.val t] w fun e w' => e = .returned (.bool (tokOK t)) ∧ Ext w w' := by
  obtain ⟨k, c, n⟩ := t
  have HX := Lib.hid (Ext.alloc (Ext.refl w) (o := .cells #[.int .i64 k, .int .u8 c.toNat, .string n] 40))
  by_cases h16 : k = 16
  · subst h16
    have e1 : tokOK ⟨16, c, n⟩ = ((c.toNat : Int) == 0) := by rw [tokOK, if_pos rfl]
    rw [e1]
    clear e1
    go_enter Tryz.func66, Tryz.ntmps66
    go_wp2
    go_ret
    exact ⟨rfl, HX.out⟩
  · by_cases hk : k = 1 ∨ k = 2 ∨ k = 3 ∨ k = 4 ∨ k = 6 ∨ k = 7 ∨ k = 8 ∨ k = 10 ∨ k = 11 ∨ k = 12 ∨ k = 13
    · have e1 : tokOK ⟨k, c, n⟩ = n.toList.isEmpty := by rw [tokOK, if_neg h16, if_pos hk]
      rw [e1]
      clear e1 h16
      rcases hk with rfl | rfl | rfl | rfl | rfl | rfl | rfl | rfl | rfl | rfl | rfl
      all_goals
        go_enter Tryz.func66, Tryz.ntmps66
        go_wp2
        go_ret
        exact ⟨rfl, HX.out⟩
    · have e1 : tokOK ⟨k, c, n⟩ = false := by rw [tokOK, if_neg h16, if_neg hk]
      rw [e1]
      have q1 : (k == 1) = false := by simp; omega
      have q2 : (k == 2) = false := by simp; omega
      have q3 : (k == 3) = false := by simp; omega
      have q4 : (k == 4) = false := by simp; omega
      have q6 : (k == 6) = false := by simp; omega
      have q7 : (k == 7) = false := by simp; omega
      have q8 : (k == 8) = false := by simp; omega
      have q10 : (k == 10) = false := by simp; omega
      have q11 : (k == 11) = false := by simp; omega
      have q12 : (k == 12) = false := by simp; omega
      have q13 : (k == 13) = false := by simp; omega
      have q16 : (k == 16) = false := by simp; omega
      clear e1 h16 hk
      go_enter Tryz.func66, Tryz.ntmps66
      go_wp2
      go_ret
      exact ⟨rfl, HX.out⟩

end Go.Proofs.YtebggkgciocciaaGreat
