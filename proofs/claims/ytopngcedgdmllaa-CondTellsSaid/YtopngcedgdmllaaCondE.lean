/-
  Compare, SameChar, SameCat, Even of both packages, and CondTells' walk. Conditions: those that each theorem names.
-/
import Derived.Test.YtopngcedgdmllaaCondD
import Derived.Test.YtopngcedgdmllaaTail
namespace Go.Proofs.Ytopngcedgdmllaa
open Go.RowKit Go.Sp
variable {W w : World} {F : HProp}

def cmpB (a s b : Int) : Bool := if s = 60 then decide (a < b) else if s = 61 then a == b else if s = 62 then decide (b < a) else false
def cmpE (s : Int) : Int := if s = 60 ∨ s = 61 ∨ s = 62 then 0 else 1

theorem compare_any (a s b : Int) (w : World) : Calls Try.prog 11 #[.int .i64 a, .int .u8 s, .int .i64 b] w fun e w' => e = .returned (.tuple #[.bool (cmpB a s b), .int .i64 (cmpE s)]) ∧ w = w' := by
  go_enter Try.func11, Try.ntmps11
  go_wp2
  all_goals
    go_ret2
    exact ⟨by simp_all [cmpB, cmpE], rfl⟩

theorem compareR_any (a s b : Int) (w : World) : Calls Try.prog 12 #[.int .i64 a, .int .u8 s, .int .i64 b] w fun e w' => e = .returned (.tuple #[.bool (cmpB a s b), .int .i64 (cmpE s)]) ∧ w = w' := by
  go_enter Try.func12, Try.ntmps12
  go_wp2
  all_goals
    go_ret2
    exact ⟨by simp_all [cmpB, cmpE], rfl⟩

def chrB (c h c' h' : Int) : Bool := if c = 16 ∨ c' = 16 then c == c' else h == h'

theorem samechar_any (c h c' h' : Int) (n n' : ByteArray) (hS : Sat W F w) : Calls Try.prog 13 #[.agg #[.int .i64 c, .int .u8 h, .string n], .agg #[.int .i64 c', .int .u8 h', .string n']] w
    fun e w' => e = .returned (.bool (chrB c h c' h')) ∧ Sat W F w' := by
  go_enter Try.func13, Try.ntmps13
  go_wp2
  all_goals
    go_ret
    exact ⟨by simp_all [chrB], hS.allocD.allocD⟩

theorem samecharR_any (c h c' h' : Int) (n n' : ByteArray) (hS : Sat W F w) : Calls Try.prog 14 #[.agg #[.int .i64 c, .int .u8 h, .string n], .agg #[.int .i64 c', .int .u8 h', .string n']] w
    fun e w' => e = .returned (.bool (chrB c h c' h')) ∧ Sat W F w' := by
  go_enter Try.func14, Try.ntmps14
  go_wp2
  all_goals
    go_ret
    exact ⟨by simp_all [chrB], hS.allocD.allocD⟩

theorem samecat_any (c h c' h' : Int) (n n' : ByteArray) (hS : Sat W F w) : Calls Try.prog 15 #[.agg #[.int .i64 c, .int .u8 h, .string n], .agg #[.int .i64 c', .int .u8 h', .string n']] w
    fun e w' => e = .returned (.bool (c == c')) ∧ Sat W F w' := by
  go_enter Try.func15, Try.ntmps15
  go_wp2
  go_ret
  exact ⟨rfl, hS.allocD.allocD⟩

theorem samecatR_any (c h c' h' : Int) (n n' : ByteArray) (hS : Sat W F w) : Calls Try.prog 16 #[.agg #[.int .i64 c, .int .u8 h, .string n], .agg #[.int .i64 c', .int .u8 h', .string n']] w
    fun e w' => e = .returned (.bool (c == c')) ∧ Sat W F w' := by
  go_enter Try.func16, Try.ntmps16
  go_wp2
  go_ret
  exact ⟨rfl, hS.allocD.allocD⟩

theorem even_any (n : Int) (hS : Sat W F w) : Calls Try.prog 17 #[.int .i64 n] w fun e w' => e = .returned (.bool (n.tmod 2 == 0)) ∧ Sat W F w' := by
  go_enter Try.func17, Try.ntmps17
  go_wp2
  go_ret
  exact ⟨rfl, hS⟩

theorem tells_any (a s b c h c' h' : Int) (n n' : ByteArray) (hS : Sat W F w) : Calls Try.prog 4 #[.int .i64 a, .int .u8 s, .int .i64 b, .agg #[.int .i64 c, .int .u8 h, .string n], .agg #[.int .i64 c', .int .u8 h', .string n']] w
    fun e w' => e = .returned (.bool true) ∧ Sat W F w' := by
  go_enter Try.func4, Try.ntmps4
  go_wp2_with (first | (go_at_call 11; refine (compare_any _ _ _ _).mono ?_; rintro e w' ⟨rfl, rfl⟩) | (go_at_call 12; refine (compareR_any _ _ _ _).mono ?_; rintro e w' ⟨rfl, rfl⟩))
  have hC := (hS.alloc (.cells #[.int .i64 c, .int .u8 h, .string n] 32)).alloc (.cells #[.int .i64 c', .int .u8 h', .string n'] 32)
  have e1 : ∀ x : World, (w.alloc (.cells #[.int .i64 c, .int .u8 h, .string n] 32)).heap.size = w.heap.size + 1 := fun _ => by simp
  rw [e1 w] at hC
  clear e1
  refine wp_region_tail _ 36 (by kernel_rfl) (by kernel_rfl) hC.drew ?_
  simp only [List.take_succ_cons, List.take_zero, List.drop_succ_cons, List.drop_zero]
  repeat (refine wpQuiet_step (fun K hK => ?_); go_simp; first | (refine hK _ ?_; clear hK K) | (apply Exists.intro; refine ⟨fun w' hw' => ?_, hK _ ?_⟩; (first
    | rfl
    | (go_at_call 9; exact (num_any _ _).mono fun _ _ ⟨h1, h2⟩ => ⟨h1, h2 ▸ hw'⟩)
    | (go_at_call 13; exact samechar_any _ _ _ _ _ _ hw')
    | (go_at_call 14; exact samecharR_any _ _ _ _ _ _ hw')
    | (go_at_call 15; exact samecat_any _ _ _ _ _ _ hw')
    | (go_at_call 16; exact samecatR_any _ _ _ _ _ _ hw')
    | (go_at_call 17; exact even_any _ hw')
    | (have d1 := hw'.cell (i := 0) rfl; have d2 := hw'.r.cell (i := 0) rfl; have d3 := hw'.cell (i := 1) rfl; have d4 := hw'.r.cell (i := 1) rfl; have d5 := hw'.cell (i := 2) rfl; have d6 := hw'.r.cell (i := 2) rfl; go_simp; first | done | rfl)); clear hK K))
  refine wpQuiet_nil ?_
  intro w1 hw1
  go_wp2_with (go_at_call 10; refine (live_any hw1).mono ?_; rintro e w' ⟨rfl, h2⟩)
  go_ret
  exact ⟨rfl, h2.r.r⟩

end Go.Proofs.Ytopngcedgdmllaa
