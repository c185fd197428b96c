/-
  The laws' small liveness check. Conditions: none.
-/
import Derived.Test.YtlbebcioabfbgaaMacV
namespace Go.Proofs.Ytlbebcioabfbgaa
open Go.RowKit Go.Sp
variable {W w w' : World} {F : HProp}

def tHash : Tok := ⟨6, 35, ByteArray.empty⟩
def tOne : Tok := ⟨12, 49, ByteArray.empty⟩
def tTwo : Tok := ⟨12, 50, ByteArray.empty⟩
def tDot : Tok := ⟨12, 46, ByteArray.empty⟩
def tA : Tok := ⟨11, 97, ByteArray.empty⟩
def tB : Tok := ⟨11, 98, ByteArray.empty⟩
def tZ : Tok := ⟨11, 122, ByteArray.empty⟩

theorem live_define : define [tHash, tOne, tDot, tHash, tTwo] [tHash, tTwo, tHash, tOne] false = ⟨[placeT 1, tDot, placeT 2], [placeT 2, placeT 1], false, 0⟩ := by kernel_rfl
theorem live_expand : expandM [placeT 1, tDot, placeT 2] [placeT 2, placeT 1] false [tA, tDot, tB, tZ] = .ok [tB, tA, tZ] := by kernel_rfl
theorem live_count : count [placeT 1, tDot, placeT 2] = 2 := by kernel_rfl

theorem rdT_new (w : World) (L : List Tok) (cs : Array Value) (b n : Nat) (hb : w.heap.size = b) (hl : L.length = n) (hc : cs = (flat L).toArray) (hn : L.length ≤ 1000) : RdT (w.alloc (.cells cs 46)) (.slice (some ⟨b, 0, none⟩) n n) L := by
  subst hc hb hl
  refine ⟨⟨flat_length L, by simp [maxLen]; omega, _, _, rfl, fun j u hu => ⟨_, _, rfl, ?_⟩⟩, _, _, rfl, Nat.le_refl _⟩
  have := new_cells w (flat L).toArray 46 j u (by simpa using hu)
  rw [Addr.add_lit] at this
  exact this

theorem letter_a (w : World) : Calls Try.prog 23 #[.int .u8 97] w fun r w' => r = .returned (.agg #[.int .i64 11, .int .u8 97, .string ByteArray.empty]) ∧ Ext w w' := letter_any 97 w
theorem letter_b (w : World) : Calls Try.prog 23 #[.int .u8 98] w fun r w' => r = .returned (.agg #[.int .i64 11, .int .u8 98, .string ByteArray.empty]) ∧ Ext w w' := letter_any 98 w
theorem letter_z (w : World) : Calls Try.prog 23 #[.int .u8 122] w fun r w' => r = .returned (.agg #[.int .i64 11, .int .u8 122, .string ByteArray.empty]) ∧ Ext w w' := letter_any 122 w

set_option maxRecDepth 100000 in
set_option maxHeartbeats 8000000 in
theorem live_any (w : World) : Calls Try.prog 18 #[] w fun e w' => e = .returned (.bool true) ∧ Ext w w' := by
  have hfl := fld0
  go_enter Try.func18, Try.ntmps18
  go_wp2_with fail
  refine Calls.mono (define_any [tHash, tOne, tDot, tHash, tTwo] [tHash, tTwo, tHash, tOne] _ _ false _ ((rdT_new _ _ _ _ _ (by simp) rfl rfl (by decide)).ext (Ext.refl _).alloc) (rdT_new _ _ _ _ _ (by simp) rfl rfl (by decide)) (by decide) (by decide)) ?_
  rintro e w1 ⟨u, v, rfl, hs⟩
  rw [live_define]
  simp only [live_define] at hs
  obtain ⟨ua, uc, rfl, -⟩ := (rowT_rd hs).capd
  obtain ⟨va, vc, rfl, -⟩ := (rowT_rd hs.r).capd
  have HX1 := Lib.hid (((((((Ext.refl w).alloc).alloc).alloc).alloc).alloc.alloc).trans (hs.r.r.toExt))
  have HU := Lib.hid (rowT_rd hs)
  have HV := Lib.hid (rowT_rd hs.r)
  have d0 := (hs.r.r.toExt).cell (a := ⟨w.heap.size + 1 + 1 + 1, 0, none⟩) (v := .int .i64 12) (by go_simp)
  have d1 := (hs.r.r.toExt).cell (a := ⟨w.heap.size + 1 + 1 + 1, 1, none⟩) (v := .int .u8 46) (by go_simp)
  have d2 := (hs.r.r.toExt).cell (a := ⟨w.heap.size + 1 + 1 + 1, 2, none⟩) (v := .string ⟨#[]⟩) (by go_simp)
  clear hs
  simp only [List.length_cons, List.length_nil] at HU HV ⊢
  go_wp2_with fail
  have g0 : (w1.alloc (.cells #[.slice ua 3 uc, .slice va 2 vc, .bool false] 25)).cell? ⟨w1.heap.size, 0, none⟩ = some (.slice ua 3 uc) := by go_simp
  have g1 : (w1.alloc (.cells #[.slice ua 3 uc, .slice va 2 vc, .bool false] 25)).cell? ⟨w1.heap.size, 1, none⟩ = some (.slice va 2 vc) := by go_simp
  have g2 : (w1.alloc (.cells #[.slice ua 3 uc, .slice va 2 vc, .bool false] 25)).cell? ⟨w1.heap.size, 2, none⟩ = some (.bool false) := by go_simp
  have h0 := ((Ext.refl w1).alloc (o := .cells #[.slice ua 3 uc, .slice va 2 vc, .bool false] 25)).cell d0
  have h1 := ((Ext.refl w1).alloc (o := .cells #[.slice ua 3 uc, .slice va 2 vc, .bool false] 25)).cell d1
  have h2 := ((Ext.refl w1).alloc (o := .cells #[.slice ua 3 uc, .slice va 2 vc, .bool false] 25)).cell d2
  have HX2 := Lib.hid ((Ext.refl w1).alloc (o := .cells #[.slice ua 3 uc, .slice va 2 vc, .bool false] 25))
  clear d0 d1 d2
  generalize hW2 : w1.alloc (.cells #[.slice ua 3 uc, .slice va 2 vc, .bool false] 25) = W2 at *
  generalize hm5 : w1.heap.size = m5 at *
  generalize hb4 : w.heap.size + 1 + 1 + 1 = b4 at *
  clear hW2 hm5 hb4
  go_region_held3 (fun w' => (w'.cell? ⟨m5, 0, none⟩ = some (.slice ua 3 uc) ∧ w'.cell? ⟨m5, 1, none⟩ = some (.slice va 2 vc) ∧ w'.cell? ⟨m5, 2, none⟩ = some (.bool false)) ∧ w'.cell? ⟨b4, 0, none⟩ = some (.int .i64 12) ∧ w'.cell? ⟨b4, 1, none⟩ = some (.int .u8 46) ∧ w'.cell? ⟨b4, 2, none⟩ = some (.string ⟨#[]⟩))
    (first
      | go_keep
      | exact ⟨⟨HXa.out.cell g0, HXa.out.cell g1, HXa.out.cell g2⟩, HXa.out.cell h0, HXa.out.cell h1, HXa.out.cell h2⟩
      | exact ⟨⟨HXb.out.cell g0, HXb.out.cell g1, HXb.out.cell g2⟩, HXb.out.cell h0, HXb.out.cell h1, HXb.out.cell h2⟩
      | exact ⟨⟨HXz.out.cell g0, HXz.out.cell g1, HXz.out.cell g2⟩, HXz.out.cell h0, HXz.out.cell h1, HXz.out.cell h2⟩
      | exact ⟨⟨HXe.out.cell g0, HXe.out.cell g1, HXe.out.cell g2⟩, HXe.out.cell h0, HXe.out.cell h1, HXe.out.cell h2⟩)
    (first
      | (go_at_call 23; with_reducible refine Calls.mono (letter_a _) ?_; rintro e w' ⟨rfl, hx⟩; have HXa := Lib.hid (((Ext.refl W2).drew).trans hx); clear hx)
      | (go_at_call 23; with_reducible refine Calls.mono (letter_b _) ?_; rintro e w' ⟨rfl, hx⟩; have HXb := Lib.hid (HXa.out.trans hx); clear hx)
      | (go_at_call 23; with_reducible refine Calls.mono (letter_z _) ?_; rintro e w' ⟨rfl, hx⟩; have HXz := Lib.hid (HXb.out.trans hx); clear hx)
      | (go_at_call 26; refine Calls.mono (expand_any [placeT 1, tDot, placeT 2] [placeT 2, placeT 1] [tA, tDot, tB, tZ] _ _ _ false _ ((HU.out.ext (HX2.out.trans HXz.out)).ext (Ext.refl _).alloc) ((HV.out.ext (HX2.out.trans HXz.out)).ext (Ext.refl _).alloc) (rdT_new _ _ _ _ _ rfl rfl rfl (by decide)) (by decide) (by decide) (by decide)) ?_; rw [live_expand]; rintro e w' ⟨vl, rfl, hx⟩; have HXe := Lib.hid ((HXz.out.trans ((Ext.refl _).alloc)).trans hx.extR); have HL := Lib.hid (rowT_rd hx); clear hx))
  have k0 := HXe.out.cell g0
  have k1 := HXe.out.cell g1
  have k2 := HXe.out.cell g2
  have HCT := Lib.hid (count_at [placeT 1, tDot, placeT 2] 2 (.slice ua 3 uc) (.slice va 2 vc) false _ live_count (HU.out.ext (HX2.out.trans HXe.out)) (by decide))
  clear g0 g1 g2 h0 h1 h2
  go_wp2_with (first
    | (go_at_call 14; with_reducible refine Calls.mono (num_any _ _) ?_; rintro e w' ⟨rfl, rfl⟩)
    | (go_at_call 34; with_reducible refine Calls.mono HCT.out ?_; rintro e w' ⟨rfl, hx⟩; have HYc := Lib.hid hx; clear hx)
    | (go_at_call 23; with_reducible refine Calls.mono (letter_b _) ?_; rintro e w' ⟨rfl, hx⟩; have HYb := Lib.hid (HYc.out.trans hx); clear hx)
    | (go_at_call 23; with_reducible refine Calls.mono (letter_a _) ?_; rintro e w' ⟨rfl, hx⟩; have HYa := Lib.hid (HYb.out.trans hx); clear hx)
    | (go_at_call 23; with_reducible refine Calls.mono (letter_z _) ?_; rintro e w' ⟨rfl, hx⟩; have HYz := Lib.hid (HYa.out.trans hx); clear hx)
    | (go_at_call 16; refine Calls.mono (sameT_is (b := true) [tB, tA, tZ] [tB, tA, tZ] _ _ _ (by simp) (HL.out.ext (HYz.out.trans (Ext.refl _).alloc)) (rdT_new _ _ _ _ _ rfl rfl rfl (by decide))) ?_; rintro e w' ⟨rfl, q, rfl⟩))
  go_ret
  exact ⟨rfl, ((((HX1.out.trans HX2.out).trans HXe.out).trans HYz.out).alloc).drewN⟩

end Go.Proofs.Ytlbebcioabfbgaa
