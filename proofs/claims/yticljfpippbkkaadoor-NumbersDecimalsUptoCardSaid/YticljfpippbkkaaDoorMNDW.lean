import Derived.Test.YticljfpippbkkaaDoorRows
import Derived.Test.YticljfpippbkkaaDoorMLA
import Derived.Lib.AppendStr
import Derived.Test.YticljfpippbkkaaDoorMTM
import Derived.Lib.UnsafeStr
import Derived.Lib.TrimByte
import Derived.Laws.Runes
import Derived.Lib.Builder
import Derived.Test.YticljfpippbkkaaDoorMNDP
import Derived.Test.YticljfpippbkkaaDoorMNU
/-
  Bytes that a call makes by append: of bytes, of strings. Conditions: those that each theorem names.
-/
namespace Go.Sp
open Go Go.RowKit Go.Lib
section
variable {W w w' : World} {A : HProp} {v : Value} {n : Nat} {e : TypeId} {xs : List Value}

/-- append(buf, s...) -/
theorem Sat.run_appendS {P : Program} (t u ty : TypeId) (i : TypeInfo) (ht : P.underlying t = some (.slice e)) (hu : P.underlying u = some .string) (hi : P.info? e = some i) (hz : i.zero = some (.int .u8 0))
    (hsize : i.size = 1) (hby : i.bytes = 1) (h : Sat W (row v n e 1 xs * A) w) (s : ByteArray) (h63 : n + s.size ≤ maxLen) (hbytes : n + s.size ≤ 140737488355328) :
    ∃ v' w', (Builtin.append_ #[t, u] ty #[v, .string s]).run P w = .ok v' w' ∧ Sat W (row v' (n + s.size) e 1 (xs ++ strCells s) * A) w' ∧ (v' = .slice none 0 0 ↔ v = .slice none 0 0 ∧ s.size = 0) := by
  have hsmall : n + s.size ≤ 9223372036854775807 := by simp only [maxLen] at h63; omega
  obtain ⟨hxl, hc⟩ := h.row_cases
  rw [Nat.mul_one] at hxl
  have hsl : (strCells s).length = s.size := strCells_length s
  have hlen : (xs ++ strCells s).length = (n + s.size) * 1 := by rw [List.length_append, hxl, hsl, Nat.mul_one]
  have hzs : (Value.int .u8 0).cells.size = 1 := rfl
  have grown : Sat W A w → ∀ (old : Nat), Sat W (row (.slice (some ⟨w.heap.size, 0, none⟩) (n + s.size) (grownCap w (n + s.size) old e)) (n + s.size) e 1 (xs ++ strCells s) * A)
      (w.drew.alloc (.cells (xs.toArray ++ (strCells s).toArray ++ Builtin.zeroCells (Value.int .u8 0).cells (grownCap w (n + s.size) old e - (n + s.size))) e)) := by
    intro hA old
    have hge := grownCap_ge w (n + s.size) old e
    have hcm : grownCap w (n + s.size) old e ≤ maxLen := grownCap_le_maxLen w (n + s.size) old e h63
    refine Sat.row_mk (hA.drew.alloc _) hge hcm ?_ ?_ hlen
    · simp only [Array.size_append, List.size_toArray, size_zeroCells, hzs, hxl, hsl]
      omega
    · simp only [Array.toList_append, List.append_assoc]
      rw [← List.append_assoc, ← hlen]
      exact List.take_left
  rcases hc with ⟨rfl, rfl, rfl, hA⟩ | ⟨g, cap, cur, rfl, hnc, hcm, hcs, htake, hA⟩
  · by_cases hm : s.size = 0
    · have hs : strCells s = [] := List.eq_nil_of_length_eq_zero (by rw [hsl, hm])
      refine ⟨.slice none 0 0, w, ?_, ?_, by simp [hm]⟩
      · simp [Builtin.append_, run_underlying ht, run_underlying hu, sizeOf, typeInfo, hi, Builtin.lenOf, Builtin.firstCells, hm]
      · rw [hs, hm]; exact hA.row_nil
    · have hr := run_append_nil_string (P := P) (w := w) t u ty e i (.int .u8 0) ht hu hi hz s (by omega) (by omega) (by rw [hby]; omega)
      have hgr := grown hA 0
      simp only [Nat.zero_add, List.nil_append, Array.empty_append] at hgr ⊢
      refine ⟨_, _, hr, ?_, by simp [hm]⟩
      have e1 : (strCells s).toArray = s.data.map (fun b => Value.int .u8 b.toNat) := by
        apply Array.ext'
        simp [strCells]
      rw [e1] at hgr
      exact hgr
  · rw [Nat.mul_one] at hcs htake
    by_cases hroom : n + s.size ≤ cap
    · have hr := run_append_room_string (P := P) (w := w) t u ty e i ht hu hi hsize g n cap cur hA.blk s hroom (by omega)
      refine ⟨_, _, hr, Sat.row_mk (hA.upd_row _) hroom hcm ?_ ?_ hlen, by simp⟩
      · simp only [List.size_toArray, List.length_append, List.length_take, List.length_drop, Array.length_toList, hsl]
        omega
      · rw [htake, ← hlen]
        exact List.take_left
    · have holds : ∀ j u, xs[j]? = some u → w.cell? ((⟨g, 0, none⟩ : Addr).add j) = some u := by
        intro j u hu
        have hj : j < n := by have := (List.getElem?_eq_some_iff.1 hu).1; omega
        rw [← htake, List.getElem?_take, if_pos hj] at hu
        rw [Addr.add_lit, Nat.zero_add]
        exact hA.cell (by simpa using hu)
      have hr := run_append_grow_string (P := P) (w := w) t u ty e i (.int .u8 0) ht hu hi hz ⟨g, 0, none⟩ n cap xs (by rw [hxl, hsize, Nat.mul_one]) holds s (by omega) (by omega) (growslice_fits (by omega) (by rw [hby]; omega))
      exact ⟨_, _, hr, grown hA.r cap, by simp⟩

theorem wpList_append_S {P : Program} {ops : Array Oper} {rest : List Oper} {o : Oper} {ac : Act} {Q : Exit → Act → World → Prop} (hgd : o.guard = none) (s x : Operand) (t u : TypeId)
    (ho : o.op = .call { callee := .builtin .append, args := #[s, x], argTypes := #[t, u] })
    (i : TypeInfo) (ht : P.underlying t = some (.slice e)) (hu : P.underlying u = some .string) (hi : P.info? e = some i) (hz : i.zero = some (.int .u8 0)) (hsize : i.size = 1) (hby : i.bytes = 1)
    (hs : ac.eval s = v) (h : Sat W (row v n e 1 xs * A) w) (b : ByteArray) (hx : ac.eval x = .string b) (h63 : n + b.size ≤ maxLen) (hbytes : n + b.size ≤ 140737488355328)
    (hK : ∀ v' w', Sat W (row v' (n + b.size) e 1 (xs ++ strCells b) * A) w' → (v' = .slice none 0 0 ↔ v = .slice none 0 0 ∧ b.size = 0) → wpList P ops Q rest (ac.put o.dst v') w') : wpList P ops Q (o :: rest) ac w := by
  refine wpList_plain hgd fun K hK' => ?_
  obtain ⟨v', w', hrun, r1, r2⟩ := Sat.run_appendS (P := P) t u o.type i ht hu hi hz hsize hby h b h63 hbytes
  unfold Oper.wp
  simp [execOp, ho, resolve, invoke, builtin, hs, hx, hrun, Result.andThen]
  exact hK' _ _ (hK v' w' r1 r2)
end
end Go.Sp

namespace Go.Proofs.YticljfpippbkkaaDoor
open Go.RowKit Go.Sp
variable {W w w' : World} {F : HProp}

/-- bytes as cells -/
def bytesB (xs : List UInt8) : List Value := xs.map fun c => .int .u8 c.toNat
theorem bytesB_len (xs : List UInt8) : (bytesB xs).length = xs.length := by simp [bytesB]
theorem bytesB_app (xs ys : List UInt8) : bytesB (xs ++ ys) = bytesB xs ++ bytesB ys := by simp [bytesB]
theorem strCells_mk (l : List UInt8) : Lib.strCells ⟨l.toArray⟩ = bytesB l := by simp [Lib.strCells, bytesB]
theorem bytesB_one (xs : List UInt8) : ∀ u ∈ bytesB xs, u.oneCell' = true := by
  intro u hu
  simp only [bytesB, List.mem_map] at hu
  obtain ⟨c, _, rfl⟩ := hu
  rfl

/-- bytes that are owned -/
def rowB (v : Value) (l : List UInt8) : HProp := row v l.length 5 1 (bytesB l)

theorem rowB_snoc {v : Value} {acc : List UInt8} {c : UInt8} {n : Nat} {xs : List Value} (h : Sat W (row v n 5 1 xs * F) w) (hn : n = acc.length + 1) (hx : xs = bytesB acc ++ [.int .u8 c.toNat]) : Sat W (rowB v (acc ++ [c]) * F) w := by
  subst hn hx
  unfold rowB
  rw [bytesB_app, List.length_append]
  exact h
theorem rowB_app {v : Value} {acc l : List UInt8} {n : Nat} {xs : List Value} (h : Sat W (row v n 5 1 xs * F) w) (hn : n = acc.length + l.length) (hx : xs = bytesB acc ++ bytesB l) : Sat W (rowB v (acc ++ l) * F) w := by
  subst hn hx
  unfold rowB
  rw [bytesB_app, List.length_append]
  exact h

theorem info_u8B : (Tryd.prog.info? 5).map (fun i => (i.zero, i.size, i.bytes)) = some (some (.int .u8 0), 1, 1) := by kernel_rfl
theorem info_parts3B {P : Program} {e : TypeId} {z : Value} {s b : Nat} (h : (P.info? e).map (fun i => (i.zero, i.size, i.bytes)) = some (some z, s, b)) : ∃ i, P.info? e = some i ∧ i.zero = some z ∧ i.size = s ∧ i.bytes = b := by
  cases hi : P.info? e with
  | none => rw [hi] at h; cases h
  | some i =>
    rw [hi] at h
    simp only [Option.map_some, Option.some.injEq, Prod.mk.injEq] at h
    exact ⟨i, rfl, h.1, h.2.1, h.2.2⟩

/-- its value and its cells -/
theorem rowB_val {v : Value} {l : List UInt8} (h : Sat W (rowB v l * F) w) : ∃ a cap, v = .slice a l.length cap ∧ l.length ≤ cap ∧ ∀ j, (hj : j < l.length) → ∃ g, a = some ⟨g, 0, none⟩ ∧ w.cell? ⟨g, j, none⟩ = some (.int .u8 l[j].toNat) := by
  have hv := h.row_val
  obtain ⟨_, hc⟩ := h.row_cases
  obtain ⟨a, cap, e1, e2⟩ := hv
  refine ⟨a, cap, e1, ?_, fun j hj => e2 j _ (by simp [bytesB, hj])⟩
  rcases hc with ⟨e3, h0, _⟩ | ⟨g, cap', cur, e3, hn, _⟩
  · rw [h0]; exact Nat.zero_le _
  · rw [e3] at e1
    simp only [Value.slice.injEq] at e1
    obtain ⟨_, _, rfl⟩ := e1
    exact hn
end Go.Proofs.YticljfpippbkkaaDoor

/-
  Package logs: a byte as text; strings.Builder. Conditions: those that each theorem names.
-/
namespace Go.Proofs.YticljfpippbkkaaDoor
open Go.RowKit Go.Sp
variable {W w w' : World} {F F' : HProp}

def hexC (n : Nat) : UInt8 := if n < 10 then UInt8.ofNat (48 + n) else UInt8.ofNat (87 + n)
/-- a byte as text -/
def shownB (c : UInt8) : List UInt8 :=
  if 128 ≤ c.toNat then [94, 94, hexC (c.toNat / 16), hexC (c.toNat % 16)]
  else if c = 127 ∨ c.toNat < 32 then [94, 94, c ^^^ 64] else [c]

theorem shownB_pos (c : UInt8) : 0 < (shownB c).length := by
  unfold shownB
  split
  · simp
  · split <;> simp
theorem shownB_le (c : UInt8) : (shownB c).length ≤ 4 := by
  unfold shownB
  split
  · simp
  · split <;> simp

theorem encode_ascii : ∀ n : Nat, n < 128 → Utf8.encode (n : Int) = ⟨#[UInt8.ofNat n]⟩ := by decide +kernel
theorem encode_u8 (c : UInt8) (h : c.toNat < 128) : Utf8.encode (c.toNat : Int) = ⟨#[c]⟩ := by
  rw [encode_ascii c.toNat h]
  simp

theorem cat3 (a b d : UInt8) : (⟨#[a, b]⟩ : ByteArray) ++ ⟨#[d]⟩ = ⟨#[a, b, d]⟩ := by
  apply ByteArray.ext
  simp
theorem cat4 (a b d e : UInt8) : (⟨#[a, b, d]⟩ : ByteArray) ++ ⟨#[e]⟩ = ⟨#[a, b, d, e]⟩ := by
  apply ByteArray.ext
  simp
theorem hex_at (k : Nat) (h : k < 16) : ∃ g : k < (⟨#[48, 49, 50, 51, 52, 53, 54, 55, 56, 57, 97, 98, 99, 100, 101, 102]⟩ : ByteArray).size, (⟨#[48, 49, 50, 51, 52, 53, 54, 55, 56, 57, 97, 98, 99, 100, 101, 102]⟩ : ByteArray)[k] = hexC k := by
  have : k = 0 ∨ k = 1 ∨ k = 2 ∨ k = 3 ∨ k = 4 ∨ k = 5 ∨ k = 6 ∨ k = 7 ∨ k = 8 ∨ k = 9 ∨ k = 10 ∨ k = 11 ∨ k = 12 ∨ k = 13 ∨ k = 14 ∨ k = 15 := by omega
  rcases this with rfl | rfl | rfl | rfl | rfl | rfl | rfl | rfl | rfl | rfl | rfl | rfl | rfl | rfl | rfl | rfl <;> exact ⟨by decide, rfl⟩
theorem hexC_lt (k : Nat) (h : k < 16) : (hexC k).toNat < 128 := by
  have : ∀ k : Nat, k < 16 → (hexC k).toNat < 128 := by decide
  exact this k h
theorem and_all : ∀ n : Nat, n < 256 → bits .and .u8 (n : Int) 15 = ((n % 16 : Nat) : Int) := by decide +kernel
theorem and_u8 (c : UInt8) : bits .and .u8 (c.toNat : Int) 15 = ((c.toNat % 16 : Nat) : Int) := and_all c.toNat c.toNat_lt

end Go.Proofs.YticljfpippbkkaaDoor

/-
  strings.Builder. Conditions: those that each theorem names.
-/
namespace Go.Proofs.YticljfpippbkkaaDoor
open Go.RowKit Go.Sp
variable {W w w' : World} {F F' : HProp}

abbrev bdO (p : Option Addr) (v : Value) : Obj := .cells #[.pointer p, v] 66
/-- the builder b holds l -/
def BdAt (W : World) (F : HProp) (b : Nat) (l : List UInt8) (w : World) : Prop :=
  ∃ (p : Option Addr) (v : Value), (p = none ∨ p = some ⟨b, 0, none⟩) ∧ (v = .slice none 0 0 ↔ l = []) ∧ Sat W (pts b (bdO p v) * (rowB v l * F)) w

theorem sizeBuilder : (Tryd.prog.info? 66).map (·.size) = some 2 := by kernel_rfl
theorem liesBuilder : liesAt Tryd.prog Tryd.prog.depth 66 (2 / Tryd.prog.cellsOf 66) 0 66 1 = true := by kernel_rfl

theorem BdAt.new (h : Sat W F w) : BdAt W F w.heap.size [] (w.alloc (bdO none (.slice none 0 0))) :=
  ⟨none, .slice none 0 0, .inl rfl, by simp, ((Sat.row_nil (e := 5) (size := 1) h).alloc _)⟩

theorem BdAt.sat {b : Nat} {l : List UInt8} (h : BdAt W F b l w) : Sat W F w := by
  obtain ⟨p, v, h1, h2, h3⟩ := h
  exact h3.r.r
theorem BdAt.of_eq {b : Nat} {l : List UInt8} (h : BdAt W F b l w) (e : F = F') : BdAt W F' b l w := e ▸ h

theorem check_new {b : Nat} {v : Value} {A : HProp} (h : Sat W (pts b (bdO none v) * A) w) : Calls Tryd.prog 35 #[.pointer (some ⟨b, 0, none⟩)] w fun e w' => e = .returned (.tuple #[]) ∧ Sat W (pts b (bdO (some ⟨b, 0, none⟩) v) * A) w' := by
  obtain ⟨j, hj, hjs⟩ := Option.map_eq_some_iff.1 sizeBuilder
  have c0 := h.cell (i := 0) rfl
  have f0 := h.free (i := 0)
  have lb := h.lt
  have hsh : w.shape? b = some (66, 2) := by simp [World.shape?, h.blk]
  have HS := Lib.hid (h.set (i := 0) (v := .pointer (some ⟨b, 0, none⟩)))
  have HTO := Lib.hid (Lib.run_to_unsafe (P := Tryd.prog) (w := w) (src := 64) (dst := 107) (a := ⟨b, 0, none⟩) Tryd.underlying64 Tryd.underlying107 hj (by rw [hjs]; decide) hsh (Nat.zero_lt_succ 1))
  have HFR := Lib.hid (Lib.run_from_unsafe (P := Tryd.prog) (w := w) (src := 107) (dst := 64) (a := ⟨b, 0, none⟩) Tryd.underlying107 Tryd.underlying64 hj hsh liesBuilder)
  have HTO' := HTO.out
  have HFR' := HFR.out
  have HNE : ∀ w : World, (callFunc 48 #[.pointer (some ⟨b, 0, none⟩)]).run Tryd.prog w = .ok (.value (.pointer (some ⟨b, 0, none⟩))) w := by
    intro w
    rw [run_callFunc_extern Tryd.func48 (by kernel_rfl) (by kernel_rfl) (by kernel_rfl) (e := Extern.AbiNoEscape.same) (by kernel_rfl), Lib.run_noEscape]
    rfl
  clear h hj hjs hsh HTO HFR
  go_enter Tryd.func35, Tryd.ntmps35
  go_wp2
  refine ⟨rfl, .tuple #[], by unfold results; go_simp, rfl, HS.out⟩

theorem check_used {b : Nat} {v : Value} {A : HProp} (h : Sat W (pts b (bdO (some ⟨b, 0, none⟩) v) * A) w) : Calls Tryd.prog 35 #[.pointer (some ⟨b, 0, none⟩)] w fun e w' => e = .returned (.tuple #[]) ∧ Sat W (pts b (bdO (some ⟨b, 0, none⟩) v) * A) w' := by
  obtain ⟨j, hj, hjs⟩ := Option.map_eq_some_iff.1 sizeBuilder
  have c0 := h.cell (i := 0) rfl
  have HS := Lib.hid h
  have hnp := Lib.run_neq_ptr_same (P := Tryd.prog) w ⟨b, 0, none⟩ (tp := 64) Tryd.underlying64 hj
  clear h hj hjs
  go_enter Tryd.func35, Tryd.ntmps35
  go_wp2
  refine ⟨rfl, .tuple #[], by unfold results; go_simp, rfl, HS.out⟩

theorem bdcheck_any {b : Nat} {p : Option Addr} {v : Value} {A : HProp} (hp : p = none ∨ p = some ⟨b, 0, none⟩) (h : Sat W (pts b (bdO p v) * A) w) :
    Calls Tryd.prog 35 #[.pointer (some ⟨b, 0, none⟩)] w fun e w' => e = .returned (.tuple #[]) ∧ Sat W (pts b (bdO (some ⟨b, 0, none⟩) v) * A) w' := by
  rcases hp with rfl | rfl
  · exact check_new h
  · exact check_used h

set_option maxRecDepth 100000 in
set_option maxHeartbeats 4000000 in
theorem write_any {b : Nat} {l : List UInt8} (m : List UInt8) (h : BdAt W F b l w) (hb : l.length + m.length ≤ 4000000000) :
    Calls Tryd.prog 23 #[.pointer (some ⟨b, 0, none⟩), (.string ⟨m.toArray⟩)] w fun e w' => (∃ r, e = .returned r) ∧ BdAt W F b (l ++ m) w' := by
  obtain ⟨i0, hi, hz0, hz1, hz2⟩ := info_parts3B info_u8B
  have HI := Lib.hid hi
  have HZ0 := Lib.hid hz0
  have HZ1 := Lib.hid hz1
  have HZ2 := Lib.hid hz2
  clear hi hz0 hz1 hz2
  obtain ⟨p, v, h1, h2, h3⟩ := h
  have HCK := Lib.hid (bdcheck_any h1 h3)
  have HV := Lib.hid h2
  have hms : (⟨m.toArray⟩ : ByteArray).size = m.length := by simp [ByteArray.size]
  have hsc := strCells_mk m
  obtain ⟨q, hq⟩ : ∃ q, m.length = q := ⟨_, rfl⟩
  have HQ := Lib.hid hq
  rw [hq] at hms hb
  have HSC := Lib.hid hsc
  have HMS := Lib.hid hms
  generalize (⟨m.toArray⟩ : ByteArray) = s at *
  clear h1 h2 h3 hsc hq
  go_enter Tryd.func23, Tryd.ntmps23
  go_wp2_with fail
  refine Calls.mono HCK.out ?_
  rintro e w1 ⟨rfl, h4⟩
  have H4 := Lib.hid h4
  have c1 := h4.cell (i := 1) rfl
  have H5 := Lib.hid h4.rot
  clear h4
  go_wp2_with (at_builtin; refine wpList_append_S rfl _ _ 41 9 rfl i0 Tryd.underlying41 Tryd.underlying9 HI.out HZ0.out HZ1.out HZ2.out rfl H5.out s rfl ?_ ?_ ?_)
  · rw [HMS.out]; simp [maxLen]; omega
  · rw [HMS.out]; omega
  intro v' w2 h6 hiff
  have h7 := (rowB_app (acc := l) (l := m) h6 (by have h1 := HMS.out; have h2 := HQ.out; omega) (by rw [HSC.out])).rot
  obtain ⟨va, vc, rfl, -, -⟩ := rowB_val h7.r
  rw [List.length_append] at h7 hiff
  have g1 := h7.cell (i := 1) rfl
  have f1 := h7.free (i := 1)
  have lb := h7.lt
  have H7 := Lib.hid (h7.set (i := 1) (v := .slice va (l.length + m.length) vc))
  have HIFF := Lib.hid hiff
  clear h6 h7 hiff c1
  go_wp2
  refine ⟨rfl, .tuple #[.int .i64 q, .nilIface], by unfold results; go_simp, ⟨_, rfl⟩, _, .slice va (l.length + m.length) vc, .inr rfl, ?_, H7.out⟩
  have hq : m.length = q := HQ.out
  rw [HIFF.out, HV.out, List.append_eq_nil_iff, ← List.length_eq_zero_iff (l := m), hq]

theorem freeze_sat {g : Nat} {cs : Array Value} {e : TypeId} {fz : Nat × Nat} {A : HProp} (h : Sat W (pts g (.cells cs e fz) * A) w) (n : Nat) : Sat W A (w.freeze ⟨g, 0, none⟩ n) := by
  by_cases hn : n = 0
  · subst hn
    have : w.freeze ⟨g, 0, none⟩ 0 = w := by simp [World.freeze]
    rw [this]; exact h.r
  · obtain ⟨lo, hi⟩ := fz
    refine (h.upd (o' := .cells cs e (if lo == hi then (0, 0 + n) else (min lo 0, max hi (0 + n)))) (w' := w.freeze ⟨g, 0, none⟩ n) ?_ ?_ ?_).r
    · simp [World.freeze, hn]
    · simp only [World.freeze, hn, if_false, Array.getElem?_modify]
      simp [h.blk]
    · intro k x hk hx
      simp only [World.freeze, hn, if_false, Array.getElem?_modify]
      rw [if_neg (fun e => hk e.symm)]
      exact hx

set_option maxRecDepth 100000 in
set_option maxHeartbeats 4000000 in
theorem string_any {b : Nat} {l : List UInt8} (h : BdAt W F b l w) (hb : l.length ≤ 4000000000) : Calls Tryd.prog 25 #[.pointer (some ⟨b, 0, none⟩)] w fun e w' => e = .returned ((.string ⟨l.toArray⟩)) ∧ Sat W F w' := by
  obtain ⟨p, v, h1, h2, h3⟩ := h
  by_cases hl : l = []
  · subst hl
    obtain rfl : v = .slice none 0 0 := h2.2 rfl
    have c1 : w.drew.cell? ⟨b, 1, none⟩ = some (.slice none 0 0) := h3.drew.cell (i := 1) rfl
    have HF := Lib.hid h3.r.r
    have HSD : ∀ w : World, (Builtin.unsafeSliceData_ #[41] 87 #[.slice none 0 0]).run Tryd.prog w = .ok (.pointer none) w := fun w => Lib.run_unsafeSliceData_nil w _ _ _ _
    have HUS : ∀ w : World, (Builtin.unsafeString_ #[87, 3] 9 #[.pointer none, .int .i64 0]).run Tryd.prog w = .ok (.string .empty) w := fun w => Lib.run_unsafeString_none w _ _ _ _
    clear h1 h2 h3
    go_enter Tryd.func25, Tryd.ntmps25
    go_wp2
    go_region
    all_goals (go_wp2; go_ret; exact ⟨rfl, HF.out.drew⟩)
  · have hrow := h3.rot
    obtain ⟨hxl, hc⟩ := hrow.row_cases
    rcases hc with ⟨rfl, _⟩ | ⟨g, cap, cur, rfl, hn, hm, hcs, htake, hs⟩
    · exact absurd (h2.1 rfl) hl
    · rw [Nat.mul_one] at hcs htake
      have hl0 : 0 < l.length := List.length_pos_iff.2 hl
      have c1 : w.drew.cell? ⟨b, 1, none⟩ = some (.slice (some ⟨g, 0, none⟩) l.length cap) := h3.drew.cell (i := 1) rfl
      have HSD : (Builtin.unsafeSliceData_ #[41] 87 #[.slice (some ⟨g, 0, none⟩) l.length cap]).run Tryd.prog w.drew = .ok (.pointer (some ⟨g, 0, none⟩)) w.drew := Lib.run_unsafeSliceData_row _ _ _ _ _ _ (by omega)
      have HUS : (Builtin.unsafeString_ #[87, 3] 9 #[.pointer (some ⟨g, 0, none⟩), .int .i64 l.length]).run Tryd.prog w.drew = .ok ((.string ⟨l.toArray⟩)) (w.drew.freeze ⟨g, 0, none⟩ l.length) := by
        refine Lib.run_unsafeString_row w.drew 87 3 9 5 Tryd.underlying87 (by kernel_rfl) g cur.size (by have hg' : w.drew.heap[g]? = some (.cells cur 5 (0, 0)) := hs.drew.blk; simp [World.shape?, hg']) l hl (by omega) (by omega) ?_
        intro j x hx
        rw [Addr.add_lit, Nat.zero_add]
        have hj : j < l.length := (List.getElem?_eq_some_iff.1 hx).1
        have : (bytesB l)[j]? = some (.int .u8 x.toNat) := by simp [bytesB, hx]
        rw [← htake, List.getElem?_take, if_pos hj] at this
        exact hs.drew.cell (by simpa using this)
      have HF := Lib.hid (freeze_sat hs.drew l.length).r
      obtain ⟨n, hn'⟩ : ∃ n, l.length = n := ⟨_, rfl⟩
      rw [hn'] at c1 HSD HUS HF
      generalize (⟨l.toArray⟩ : ByteArray) = s at *
      generalize w.drew.freeze ⟨g, 0, none⟩ n = w2 at *
      clear h1 h2 h3 hrow hs htake hcs hxl hl hn'
      go_enter Tryd.func25, Tryd.ntmps25
      go_wp2
      go_region
      all_goals (go_wp2; go_ret; exact ⟨rfl, HF.out⟩)

end Go.Proofs.YticljfpippbkkaaDoor

/-
  strings.Builder: WriteByte. Conditions: those that each theorem names.
-/
namespace Go.Proofs.YticljfpippbkkaaDoor
open Go.RowKit Go.Sp
variable {W w w' : World} {F F' : HProp}

set_option maxRecDepth 100000 in
set_option maxHeartbeats 4000000 in
theorem writeb_any {b : Nat} {l : List UInt8} (c : UInt8) (h : BdAt W F b l w) (hb : l.length + 1 ≤ 4000000000) :
    Calls Tryd.prog 22 #[.pointer (some ⟨b, 0, none⟩), .int .u8 c.toNat] w fun e w' => e = .returned .nilIface ∧ BdAt W F b (l ++ [c]) w' := by
  obtain ⟨i0, hi, hz0, hz1, hz2⟩ := info_parts3B info_u8B
  have HI := Lib.hid hi
  have HZ0 := Lib.hid hz0
  have HZ1 := Lib.hid hz1
  have HZ2 := Lib.hid hz2
  clear hi hz0 hz1 hz2
  obtain ⟨p, v, h1, h2, h3⟩ := h
  have HCK := Lib.hid (bdcheck_any h1 h3)
  clear h1 h2 h3
  go_enter Tryd.func22, Tryd.ntmps22
  go_wp2_with fail
  with_reducible refine Calls.mono HCK.out ?_
  rintro e w1 ⟨rfl, h4⟩
  have c1 := h4.cell (i := 1) rfl
  have lb := h4.lt
  have H5 := Lib.hid h4.rot
  clear h4 HCK
  go_wp2_with (at_builtin; refine wpList_append_sep rfl _ _ 41 rfl i0 _ 1 Tryd.underlying41 HI.out HZ0.out HZ1.out HZ2.out rfl rfl H5.out.allocD ⟨w1.heap.size, 0, none⟩ 1 1 [.int .u8 c.toNat] rfl rfl ?_ ?_ ?_ ?_ ?_)
  · first
      | exact new_cells _ _ _
      | exact fun _ _ h => h
  · intro u hu
    simp only [List.mem_singleton] at hu
    subst hu
    rfl
  · simp [maxLen]; omega
  · omega
  intro v' w2 h6
  have h7 := (rowB_snoc (acc := l) (c := c) h6 rfl rfl).rot
  obtain ⟨va, vc, rfl, -, -⟩ := rowB_val h7.r
  rw [List.length_append, List.length_singleton] at h7
  have g1 := h7.cell (i := 1) rfl
  have f1 := h7.free (i := 1)
  have lb := h7.lt
  have H7 := Lib.hid (h7.set (i := 1) (v := .slice va (l.length + 1) vc))
  clear h6 h7 c1
  go_wp2
  go_ret
  exact ⟨rfl, _, .slice va (l.length + 1) vc, .inr rfl, ⟨fun h => (by simp at h), fun h => (by simp at h)⟩, H7.out⟩
end Go.Proofs.YticljfpippbkkaaDoor

/-
  scaled.Print, where strconv.Itoa is known. Conditions: those that each theorem names.
-/
namespace Go.Proofs.YticljfpippbkkaaDoor
open Go.RowKit Go.Sp
variable {W w w' : World} {F F' : HProp}

/-- what strconv.Itoa answers -/
def ItoaC (W : World) (F : HProp) (q : Nat) : Prop := ∀ (G : HProp) (w : World), Sat W (G * F) w → Calls Tryd.prog 24 #[.int .i64 q] w fun e w' => e = .returned ((.string ⟨(decB q).toArray⟩)) ∧ Sat W (G * F) w'
theorem ItoaC.bd {q b : Nat} {l : List UInt8} (hi : ItoaC W F q) (h : BdAt W F b l w) : Calls Tryd.prog 24 #[.int .i64 q] w fun e w' => e = .returned ((.string ⟨(decB q).toArray⟩)) ∧ BdAt W F b l w' := by
  obtain ⟨p, v, h1, h2, h3⟩ := h
  exact (hi _ w h3.asc').mono fun e w' ⟨he, hs⟩ => ⟨he, p, v, h1, h2, hs.asc⟩
theorem fracN_stop {f x d y : Nat} (hy : (if 65536 < d then x + 32768 - 50000 else x) = y) (h : 10 * (y % 65536) ≤ d * 10) : fracN (f + 1) x d = [y / 65536] := by rw [fracN, hy, if_pos h]
theorem fracN_go {f x d y : Nat} (hy : (if 65536 < d then x + 32768 - 50000 else x) = y) (h : ¬ 10 * (y % 65536) ≤ d * 10) : fracN (f + 1) x d = y / 65536 :: fracN f (10 * (y % 65536)) (d * 10) := by rw [fracN, hy, if_neg h]

theorem chD_toNat {d : Nat} (h : d ≤ 10) : (chD d).toNat = 48 + d := by unfold chD; rw [UInt8.toNat_ofNat']; omega
theorem dec_smallD (n : Nat) (h : n ≤ 2147483647) : (decB n).length ≤ 1000 := by
  have H : ∀ k n, n < 10 ^ (k + 1) → (decB n).length ≤ k + 1 := by
    intro k
    induction k with
    | zero => intro n hn; rw [decB_lt (by simpa using hn)]; simp
    | succ k ih =>
      intro n hn
      by_cases h10 : n < 10
      · rw [decB_lt h10]; simp
      · rw [decB_ge h10, List.length_append, List.length_singleton]
        have := ih (n / 10) (by rw [Nat.pow_succ] at hn; omega)
        omega
  have := H 20 n (by omega)
  omega
set_option maxRecDepth 100000 in
set_option maxHeartbeats 8000000 in
theorem print_any (m : Bool) (q f : Nat) (hf : f < 65536) (hs : 65536 * q + f ≤ 1073741823) (hm : m = true → 0 < 65536 * q + f) (hi : ItoaC W F q) (h : Sat W F w) :
    Calls Tryd.prog 13 #[.int .i64 (if m = true then -((65536 * q + f : Nat) : Int) else ((65536 * q + f : Nat) : Int))] w fun e w' => e = .returned ((.string ⟨(prtB m q f).toArray⟩)) ∧ Sat W F w' := by
  have H0 := Lib.hid (BdAt.new h)
  have HI := Lib.hid hi
  have HDL := Lib.hid (dec_smallD q (by omega))
  obtain ⟨n, hn⟩ : ∃ n, 65536 * q + f = n := ⟨_, rfl⟩
  have e1 : (n : Int).tdiv 65536 = q := by rw [Int.tdiv_eq_ediv_of_nonneg (by omega)]; omega
  have e2 : (n : Int).tmod 65536 = f := by rw [Int.tmod_eq_emod_of_nonneg (by omega)]; omega
  have e3 : (n : Int) / 65536 = q := by omega
  have e4 : (n : Int) % 65536 = f := by omega
  rw [hn]
  rw [hn] at hs hm
  obtain ⟨b, hb⟩ : ∃ b, w.heap.size = b := ⟨_, rfl⟩
  obtain ⟨w1, hw1⟩ : ∃ w1, w.alloc (bdO none (.slice none 0 0)) = w1 := ⟨_, rfl⟩
  rw [hb, hw1] at H0
  have c1 : ¬ (n : Int) < 0 := by omega
  have w2 : wrap64 (n : Int) = n := wrap64_id _ (by omega) (by omega)
  have w3 : wrap64 (-(n : Int)) = -(n : Int) := wrap64_id _ (by omega) (by omega)
  clear h hi hn
  have hfb : farB (n : Int) = false ∧ farB (-(n : Int)) = false := by
    unfold farB
    constructor <;> simp <;> omega
  cases m
  · have HFA := Lib.hid (far_any (n : Int) w)
    rw [hfb.1] at HFA
    have HB := Lib.hid (show BdAt W F b (minB false) w1 from H0.out)
    clear hfb H0 hm w3
    simp only [Bool.false_eq_true, if_false]
    go_enter Tryd.func13, Tryd.ntmps13
    go_wp2_with fail
    with_reducible refine Calls.mono HFA.out ?_
    rintro e w' ⟨rfl, rfl⟩
    have HIT := Lib.hid (HI.out.bd HB.out)
    go_wp2_with fail
    with_reducible refine Calls.mono HIT.out ?_
    rintro e w4 ⟨rfl, h4⟩
    have HWS := Lib.hid (write_any (decB q) h4 (by have := HDL.out; simp [minB]; omega))
    clear h4 HIT HB
    go_wp2_with fail
    with_reducible refine Calls.mono HWS.out ?_
    rintro e w5 ⟨⟨r5, rfl⟩, h5⟩
    have HWP := Lib.hid (show Calls Tryd.prog 22 #[.pointer (some ⟨b, 0, none⟩), .int .u8 46] w5 fun e w' => e = .returned .nilIface ∧ BdAt W F b ((minB false ++ decB q) ++ [46]) w' from writeb_any 46 h5 (by have := HDL.out; simp [minB]; omega))
    clear h5 HWS
    go_wp2_with fail
    with_reducible refine Calls.mono HWP.out ?_
    rintro e w6 ⟨rfl, h6⟩
    have H6 := Lib.hid h6
    clear h6 HWP
    go_wp2_with fail
    go_loopg [4, 5] 6 (fun gg s4 s5 wx => ∃ (x d : Nat) (pre : List Nat), s4 = .int .i64 x ∧ s5 = .int .i64 d ∧ ((gg = 6 ∧ d = 10) ∨ (gg = 5 ∧ d = 100) ∨ (gg = 4 ∧ d = 1000) ∨ (gg = 3 ∧ d = 10000) ∨ (gg = 2 ∧ d = 100000)) ∧ x ≤ 655355 ∧ (d = 10 ∨ d < x) ∧ pre.length + gg = 6 ∧ digsF f = pre ++ fracN gg x d ∧ BdAt W F b (((minB false ++ decB q) ++ [46]) ++ pre.map chD) wx)
    case atStart => exact ⟨10 * f + 5, 10, [], by go_num, rfl, .inl ⟨rfl, rfl⟩, by omega, .inl rfl, rfl, rfl, by simpa using H6.out⟩
    case round =>
      obtain ⟨x, d, pre, rfl, rfl, hpair, hx, hdx, hpl, hdig, hbd⟩ := hrel
      clear H6
      obtain ⟨g, rfl⟩ : ∃ g, gk = g + 1 := ⟨gk - 1, by omega⟩
      obtain ⟨y, hy⟩ : ∃ y, (if 65536 < d then x + 32768 - 50000 else x) = y := ⟨_, rfl⟩
      have hyx : y ≤ 655355 := by rw [← hy]; split <;> omega
      have HSTOP := Lib.hid (fracN_stop (f := g) hy)
      have HGO := Lib.hid (fracN_go (f := g) hy)
      obtain ⟨yq, hyq⟩ : ∃ yq, y / 65536 = yq := ⟨_, rfl⟩
      obtain ⟨yr, hyr⟩ : ∃ yr, y % 65536 = yr := ⟨_, rfl⟩
      rw [hyq, hyr] at HSTOP HGO
      have b1 : yq ≤ 10 := by omega
      have b2 : yr < 65536 := by omega
      have k1 : (y : Int) / 65536 = yq := by omega
      have k2 : (y : Int) % 65536 = yr := by omega
      have k3 : (y : Int).tdiv 65536 = yq := by rw [Int.tdiv_eq_ediv_of_nonneg (by omega)]; omega
      have k4 : (y : Int).tmod 65536 = yr := by rw [Int.tmod_eq_emod_of_nonneg (by omega)]; omega
      have HWR := Lib.hid (show Calls Tryd.prog 22 #[.pointer (some ⟨b, 0, none⟩), .int .u8 (48 + (yq : Int))] wr fun e w' => e = .returned .nilIface ∧ BdAt W F b ((((minB false ++ decB q) ++ [46]) ++ pre.map chD) ++ [chD yq]) w' from by
        have hc := chD_toNat b1
        have := writeb_any (chD yq) hbd (by have := HDL.out; simp [minB]; omega)
        rw [hc] at this
        exact_mod_cast this)
      have HDG := Lib.hid hdig
      clear hbd hdig hyq hyr
      rcases hpair with ⟨hg, rfl⟩ | ⟨hg, rfl⟩ | ⟨hg, rfl⟩ | ⟨hg, rfl⟩ | ⟨hg, rfl⟩
      case inr.inr.inr.inr =>
        have hxy : (x : Int) + -17232 = y := by rw [if_pos (by decide)] at hy; omega
        have hle : 10 * yr ≤ 100000 * 10 := by omega
        have HR := Lib.hid (HSTOP.out hle)
        clear HSTOP HGO hy
        go_wp2_with fail
        with_reducible refine Calls.mono HWR.out ?_
        rintro e w7 ⟨rfl, h7⟩
        have HSG := Lib.hid (string_any h7 (by have := HDL.out; simp [minB]; omega))
        clear h7 HWR
        go_wp2_with fail
        with_reducible refine Calls.mono HSG.out ?_
        rintro e w8 ⟨rfl, h8⟩
        have H8 := Lib.hid h8
        clear h8 HSG
        go_wp2
        go_ret
        refine ⟨?_, H8.out⟩
        rw [show prtB false q f = minB false ++ (decB q ++ 46 :: (pre.map chD ++ [chD yq])) by rw [prtB, fracB, HDG.out, HR.out]; simp]
        rfl
      case inl =>
        rw [if_neg (by decide)] at hy
        subst hy
        by_cases hle : 10 * yr ≤ 10 * 10
        · have HR := Lib.hid (HSTOP.out hle)
          clear HSTOP HGO
          go_wp2_with fail
          with_reducible refine Calls.mono HWR.out ?_
          rintro e w7 ⟨rfl, h7⟩
          have HSG := Lib.hid (string_any h7 (by have := HDL.out; simp [minB]; omega))
          clear h7 HWR
          go_wp2_with fail
          with_reducible refine Calls.mono HSG.out ?_
          rintro e w8 ⟨rfl, h8⟩
          have H8 := Lib.hid h8
          clear h8 HSG
          go_wp2
          go_ret
          refine ⟨?_, H8.out⟩
          rw [show prtB false q f = minB false ++ (decB q ++ 46 :: (pre.map chD ++ [chD yq])) by rw [prtB, fracB, HDG.out, HR.out]; simp]
          rfl
        · have HR := Lib.hid (HGO.out hle)
          clear HSTOP HGO
          go_wp2_with fail
          with_reducible refine Calls.mono HWR.out ?_
          rintro e w7 ⟨rfl, h7⟩
          have H7 := Lib.hid h7
          clear h7 HWR
          go_wp2
          go_roundg g
          case measure => omega
          case rel => exact ⟨10 * yr, 10 * 10, pre ++ [yq], by go_num, by go_num, by omega, by omega, by omega, by simp only [List.length_append, List.length_singleton]; omega, by rw [HDG.out, HR.out]; simp, by simpa using H7.out⟩
      case inr.inl =>
        rw [if_neg (by decide)] at hy
        subst hy
        by_cases hle : 10 * yr ≤ 100 * 10
        · have HR := Lib.hid (HSTOP.out hle)
          clear HSTOP HGO
          go_wp2_with fail
          with_reducible refine Calls.mono HWR.out ?_
          rintro e w7 ⟨rfl, h7⟩
          have HSG := Lib.hid (string_any h7 (by have := HDL.out; simp [minB]; omega))
          clear h7 HWR
          go_wp2_with fail
          with_reducible refine Calls.mono HSG.out ?_
          rintro e w8 ⟨rfl, h8⟩
          have H8 := Lib.hid h8
          clear h8 HSG
          go_wp2
          go_ret
          refine ⟨?_, H8.out⟩
          rw [show prtB false q f = minB false ++ (decB q ++ 46 :: (pre.map chD ++ [chD yq])) by rw [prtB, fracB, HDG.out, HR.out]; simp]
          rfl
        · have HR := Lib.hid (HGO.out hle)
          clear HSTOP HGO
          go_wp2_with fail
          with_reducible refine Calls.mono HWR.out ?_
          rintro e w7 ⟨rfl, h7⟩
          have H7 := Lib.hid h7
          clear h7 HWR
          go_wp2
          go_roundg g
          case measure => omega
          case rel => exact ⟨10 * yr, 100 * 10, pre ++ [yq], by go_num, by go_num, by omega, by omega, by omega, by simp only [List.length_append, List.length_singleton]; omega, by rw [HDG.out, HR.out]; simp, by simpa using H7.out⟩
      case inr.inr.inl =>
        rw [if_neg (by decide)] at hy
        subst hy
        by_cases hle : 10 * yr ≤ 1000 * 10
        · have HR := Lib.hid (HSTOP.out hle)
          clear HSTOP HGO
          go_wp2_with fail
          with_reducible refine Calls.mono HWR.out ?_
          rintro e w7 ⟨rfl, h7⟩
          have HSG := Lib.hid (string_any h7 (by have := HDL.out; simp [minB]; omega))
          clear h7 HWR
          go_wp2_with fail
          with_reducible refine Calls.mono HSG.out ?_
          rintro e w8 ⟨rfl, h8⟩
          have H8 := Lib.hid h8
          clear h8 HSG
          go_wp2
          go_ret
          refine ⟨?_, H8.out⟩
          rw [show prtB false q f = minB false ++ (decB q ++ 46 :: (pre.map chD ++ [chD yq])) by rw [prtB, fracB, HDG.out, HR.out]; simp]
          rfl
        · have HR := Lib.hid (HGO.out hle)
          clear HSTOP HGO
          go_wp2_with fail
          with_reducible refine Calls.mono HWR.out ?_
          rintro e w7 ⟨rfl, h7⟩
          have H7 := Lib.hid h7
          clear h7 HWR
          go_wp2
          go_roundg g
          case measure => omega
          case rel => exact ⟨10 * yr, 1000 * 10, pre ++ [yq], by go_num, by go_num, by omega, by omega, by omega, by simp only [List.length_append, List.length_singleton]; omega, by rw [HDG.out, HR.out]; simp, by simpa using H7.out⟩
      case inr.inr.inr.inl =>
        rw [if_neg (by decide)] at hy
        subst hy
        by_cases hle : 10 * yr ≤ 10000 * 10
        · have HR := Lib.hid (HSTOP.out hle)
          clear HSTOP HGO
          go_wp2_with fail
          with_reducible refine Calls.mono HWR.out ?_
          rintro e w7 ⟨rfl, h7⟩
          have HSG := Lib.hid (string_any h7 (by have := HDL.out; simp [minB]; omega))
          clear h7 HWR
          go_wp2_with fail
          with_reducible refine Calls.mono HSG.out ?_
          rintro e w8 ⟨rfl, h8⟩
          have H8 := Lib.hid h8
          clear h8 HSG
          go_wp2
          go_ret
          refine ⟨?_, H8.out⟩
          rw [show prtB false q f = minB false ++ (decB q ++ 46 :: (pre.map chD ++ [chD yq])) by rw [prtB, fracB, HDG.out, HR.out]; simp]
          rfl
        · have HR := Lib.hid (HGO.out hle)
          clear HSTOP HGO
          go_wp2_with fail
          with_reducible refine Calls.mono HWR.out ?_
          rintro e w7 ⟨rfl, h7⟩
          have H7 := Lib.hid h7
          clear h7 HWR
          go_wp2
          go_roundg g
          case measure => omega
          case rel => exact ⟨10 * yr, 10000 * 10, pre ++ [yq], by go_num, by go_num, by omega, by omega, by omega, by simp only [List.length_append, List.length_singleton]; omega, by rw [HDG.out, HR.out]; simp, by simpa using H7.out⟩
  · have HFA := Lib.hid (far_any (-(n : Int)) w)
    rw [hfb.2] at HFA
    have HWB := Lib.hid (show Calls Tryd.prog 22 #[.pointer (some ⟨b, 0, none⟩), .int .u8 45] w1 fun e w' => e = .returned .nilIface ∧ BdAt W F b (minB true) w' from writeb_any 45 H0.out (by simp))
    have c2 : -(n : Int) < 0 := by have := hm rfl; omega
    clear hfb H0 hm c1
    simp only [if_true]
    go_enter Tryd.func13, Tryd.ntmps13
    go_wp2_with fail
    with_reducible refine Calls.mono HFA.out ?_
    rintro e w' ⟨rfl, rfl⟩
    go_wp2_with fail
    with_reducible refine Calls.mono HWB.out ?_
    rintro e w3 ⟨rfl, h3⟩
    have HB := Lib.hid h3
    clear h3 HWB
    have HIT := Lib.hid (HI.out.bd HB.out)
    go_wp2_with fail
    with_reducible refine Calls.mono HIT.out ?_
    rintro e w4 ⟨rfl, h4⟩
    have HWS := Lib.hid (write_any (decB q) h4 (by have := HDL.out; simp [minB]; omega))
    clear h4 HIT HB
    go_wp2_with fail
    with_reducible refine Calls.mono HWS.out ?_
    rintro e w5 ⟨⟨r5, rfl⟩, h5⟩
    have HWP := Lib.hid (show Calls Tryd.prog 22 #[.pointer (some ⟨b, 0, none⟩), .int .u8 46] w5 fun e w' => e = .returned .nilIface ∧ BdAt W F b ((minB true ++ decB q) ++ [46]) w' from writeb_any 46 h5 (by have := HDL.out; simp [minB]; omega))
    clear h5 HWS
    go_wp2_with fail
    with_reducible refine Calls.mono HWP.out ?_
    rintro e w6 ⟨rfl, h6⟩
    have H6 := Lib.hid h6
    clear h6 HWP
    go_wp2_with fail
    go_loopg [4, 5] 6 (fun gg s4 s5 wx => ∃ (x d : Nat) (pre : List Nat), s4 = .int .i64 x ∧ s5 = .int .i64 d ∧ ((gg = 6 ∧ d = 10) ∨ (gg = 5 ∧ d = 100) ∨ (gg = 4 ∧ d = 1000) ∨ (gg = 3 ∧ d = 10000) ∨ (gg = 2 ∧ d = 100000)) ∧ x ≤ 655355 ∧ (d = 10 ∨ d < x) ∧ pre.length + gg = 6 ∧ digsF f = pre ++ fracN gg x d ∧ BdAt W F b (((minB true ++ decB q) ++ [46]) ++ pre.map chD) wx)
    case atStart => exact ⟨10 * f + 5, 10, [], by go_num, rfl, .inl ⟨rfl, rfl⟩, by omega, .inl rfl, rfl, rfl, by simpa using H6.out⟩
    case round =>
      obtain ⟨x, d, pre, rfl, rfl, hpair, hx, hdx, hpl, hdig, hbd⟩ := hrel
      clear H6
      obtain ⟨g, rfl⟩ : ∃ g, gk = g + 1 := ⟨gk - 1, by omega⟩
      obtain ⟨y, hy⟩ : ∃ y, (if 65536 < d then x + 32768 - 50000 else x) = y := ⟨_, rfl⟩
      have hyx : y ≤ 655355 := by rw [← hy]; split <;> omega
      have HSTOP := Lib.hid (fracN_stop (f := g) hy)
      have HGO := Lib.hid (fracN_go (f := g) hy)
      obtain ⟨yq, hyq⟩ : ∃ yq, y / 65536 = yq := ⟨_, rfl⟩
      obtain ⟨yr, hyr⟩ : ∃ yr, y % 65536 = yr := ⟨_, rfl⟩
      rw [hyq, hyr] at HSTOP HGO
      have b1 : yq ≤ 10 := by omega
      have b2 : yr < 65536 := by omega
      have k1 : (y : Int) / 65536 = yq := by omega
      have k2 : (y : Int) % 65536 = yr := by omega
      have k3 : (y : Int).tdiv 65536 = yq := by rw [Int.tdiv_eq_ediv_of_nonneg (by omega)]; omega
      have k4 : (y : Int).tmod 65536 = yr := by rw [Int.tmod_eq_emod_of_nonneg (by omega)]; omega
      have HWR := Lib.hid (show Calls Tryd.prog 22 #[.pointer (some ⟨b, 0, none⟩), .int .u8 (48 + (yq : Int))] wr fun e w' => e = .returned .nilIface ∧ BdAt W F b ((((minB true ++ decB q) ++ [46]) ++ pre.map chD) ++ [chD yq]) w' from by
        have hc := chD_toNat b1
        have := writeb_any (chD yq) hbd (by have := HDL.out; simp [minB]; omega)
        rw [hc] at this
        exact_mod_cast this)
      have HDG := Lib.hid hdig
      clear hbd hdig hyq hyr
      rcases hpair with ⟨hg, rfl⟩ | ⟨hg, rfl⟩ | ⟨hg, rfl⟩ | ⟨hg, rfl⟩ | ⟨hg, rfl⟩
      case inr.inr.inr.inr =>
        have hxy : (x : Int) + -17232 = y := by rw [if_pos (by decide)] at hy; omega
        have hle : 10 * yr ≤ 100000 * 10 := by omega
        have HR := Lib.hid (HSTOP.out hle)
        clear HSTOP HGO hy
        go_wp2_with fail
        with_reducible refine Calls.mono HWR.out ?_
        rintro e w7 ⟨rfl, h7⟩
        have HSG := Lib.hid (string_any h7 (by have := HDL.out; simp [minB]; omega))
        clear h7 HWR
        go_wp2_with fail
        with_reducible refine Calls.mono HSG.out ?_
        rintro e w8 ⟨rfl, h8⟩
        have H8 := Lib.hid h8
        clear h8 HSG
        go_wp2
        go_ret
        refine ⟨?_, H8.out⟩
        rw [show prtB true q f = minB true ++ (decB q ++ 46 :: (pre.map chD ++ [chD yq])) by rw [prtB, fracB, HDG.out, HR.out]; simp]
        rfl
      case inl =>
        rw [if_neg (by decide)] at hy
        subst hy
        by_cases hle : 10 * yr ≤ 10 * 10
        · have HR := Lib.hid (HSTOP.out hle)
          clear HSTOP HGO
          go_wp2_with fail
          with_reducible refine Calls.mono HWR.out ?_
          rintro e w7 ⟨rfl, h7⟩
          have HSG := Lib.hid (string_any h7 (by have := HDL.out; simp [minB]; omega))
          clear h7 HWR
          go_wp2_with fail
          with_reducible refine Calls.mono HSG.out ?_
          rintro e w8 ⟨rfl, h8⟩
          have H8 := Lib.hid h8
          clear h8 HSG
          go_wp2
          go_ret
          refine ⟨?_, H8.out⟩
          rw [show prtB true q f = minB true ++ (decB q ++ 46 :: (pre.map chD ++ [chD yq])) by rw [prtB, fracB, HDG.out, HR.out]; simp]
          rfl
        · have HR := Lib.hid (HGO.out hle)
          clear HSTOP HGO
          go_wp2_with fail
          with_reducible refine Calls.mono HWR.out ?_
          rintro e w7 ⟨rfl, h7⟩
          have H7 := Lib.hid h7
          clear h7 HWR
          go_wp2
          go_roundg g
          case measure => omega
          case rel => exact ⟨10 * yr, 10 * 10, pre ++ [yq], by go_num, by go_num, by omega, by omega, by omega, by simp only [List.length_append, List.length_singleton]; omega, by rw [HDG.out, HR.out]; simp, by simpa using H7.out⟩
      case inr.inl =>
        rw [if_neg (by decide)] at hy
        subst hy
        by_cases hle : 10 * yr ≤ 100 * 10
        · have HR := Lib.hid (HSTOP.out hle)
          clear HSTOP HGO
          go_wp2_with fail
          with_reducible refine Calls.mono HWR.out ?_
          rintro e w7 ⟨rfl, h7⟩
          have HSG := Lib.hid (string_any h7 (by have := HDL.out; simp [minB]; omega))
          clear h7 HWR
          go_wp2_with fail
          with_reducible refine Calls.mono HSG.out ?_
          rintro e w8 ⟨rfl, h8⟩
          have H8 := Lib.hid h8
          clear h8 HSG
          go_wp2
          go_ret
          refine ⟨?_, H8.out⟩
          rw [show prtB true q f = minB true ++ (decB q ++ 46 :: (pre.map chD ++ [chD yq])) by rw [prtB, fracB, HDG.out, HR.out]; simp]
          rfl
        · have HR := Lib.hid (HGO.out hle)
          clear HSTOP HGO
          go_wp2_with fail
          with_reducible refine Calls.mono HWR.out ?_
          rintro e w7 ⟨rfl, h7⟩
          have H7 := Lib.hid h7
          clear h7 HWR
          go_wp2
          go_roundg g
          case measure => omega
          case rel => exact ⟨10 * yr, 100 * 10, pre ++ [yq], by go_num, by go_num, by omega, by omega, by omega, by simp only [List.length_append, List.length_singleton]; omega, by rw [HDG.out, HR.out]; simp, by simpa using H7.out⟩
      case inr.inr.inl =>
        rw [if_neg (by decide)] at hy
        subst hy
        by_cases hle : 10 * yr ≤ 1000 * 10
        · have HR := Lib.hid (HSTOP.out hle)
          clear HSTOP HGO
          go_wp2_with fail
          with_reducible refine Calls.mono HWR.out ?_
          rintro e w7 ⟨rfl, h7⟩
          have HSG := Lib.hid (string_any h7 (by have := HDL.out; simp [minB]; omega))
          clear h7 HWR
          go_wp2_with fail
          with_reducible refine Calls.mono HSG.out ?_
          rintro e w8 ⟨rfl, h8⟩
          have H8 := Lib.hid h8
          clear h8 HSG
          go_wp2
          go_ret
          refine ⟨?_, H8.out⟩
          rw [show prtB true q f = minB true ++ (decB q ++ 46 :: (pre.map chD ++ [chD yq])) by rw [prtB, fracB, HDG.out, HR.out]; simp]
          rfl
        · have HR := Lib.hid (HGO.out hle)
          clear HSTOP HGO
          go_wp2_with fail
          with_reducible refine Calls.mono HWR.out ?_
          rintro e w7 ⟨rfl, h7⟩
          have H7 := Lib.hid h7
          clear h7 HWR
          go_wp2
          go_roundg g
          case measure => omega
          case rel => exact ⟨10 * yr, 1000 * 10, pre ++ [yq], by go_num, by go_num, by omega, by omega, by omega, by simp only [List.length_append, List.length_singleton]; omega, by rw [HDG.out, HR.out]; simp, by simpa using H7.out⟩
      case inr.inr.inr.inl =>
        rw [if_neg (by decide)] at hy
        subst hy
        by_cases hle : 10 * yr ≤ 10000 * 10
        · have HR := Lib.hid (HSTOP.out hle)
          clear HSTOP HGO
          go_wp2_with fail
          with_reducible refine Calls.mono HWR.out ?_
          rintro e w7 ⟨rfl, h7⟩
          have HSG := Lib.hid (string_any h7 (by have := HDL.out; simp [minB]; omega))
          clear h7 HWR
          go_wp2_with fail
          with_reducible refine Calls.mono HSG.out ?_
          rintro e w8 ⟨rfl, h8⟩
          have H8 := Lib.hid h8
          clear h8 HSG
          go_wp2
          go_ret
          refine ⟨?_, H8.out⟩
          rw [show prtB true q f = minB true ++ (decB q ++ 46 :: (pre.map chD ++ [chD yq])) by rw [prtB, fracB, HDG.out, HR.out]; simp]
          rfl
        · have HR := Lib.hid (HGO.out hle)
          clear HSTOP HGO
          go_wp2_with fail
          with_reducible refine Calls.mono HWR.out ?_
          rintro e w7 ⟨rfl, h7⟩
          have H7 := Lib.hid h7
          clear h7 HWR
          go_wp2
          go_roundg g
          case measure => omega
          case rel => exact ⟨10 * yr, 10000 * 10, pre ++ [yq], by go_num, by go_num, by omega, by omega, by omega, by simp only [List.length_append, List.length_singleton]; omega, by rw [HDG.out, HR.out]; simp, by simpa using H7.out⟩
end Go.Proofs.YticljfpippbkkaaDoor
