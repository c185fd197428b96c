import Derived.Test.YtjeinldhbajknaaMDvR
import Derived.WalkMore
/-
  A whole file, read. Conditions: those that each theorem names.
-/
namespace Go.Proofs.Ytjeinldhbajknaa
open Go.RowKit Go.Sp Go.Conc
variable {W w w' : World} {A R : HProp}

/-- what a whole file's reading gives -/
def WholePost (w : World) (l : List UInt8) (e : Ending) (w' : World) : Prop :=
  (1048576 < l.length ∧ e = .returned (.tuple #[.pointer none, .int .i64 6]) ∧ Sat w (own w) w') ∨
  (l.length ≤ 1048576 ∧ (∃ K, wholeM K l = none) ∧ e = .returned (.tuple #[.pointer none, .int .i64 240]) ∧ Sat w (own w) w') ∨
  (l.length ≤ 1048576 ∧ ∃ K F b, wholeM K l = some F ∧ e = .returned (.tuple #[.pointer (some ⟨b, 0, none⟩), .int .i64 0]) ∧ FileAt w (own w) b F w')

/-- a new file beside a feed -/
theorem JAt.new {bf cf cap : Nat} {f : Fd} (h : FdAt W R bf cf cap f w) : JAt W R bf cf cap f (w.heap.size + 1 + 1) FileM.new
    (((w.alloc (.map #[] 0)).alloc (.map #[] 0)).alloc (fileO (.slice none 0 0) w.heap.size (.slice none 0 0) (w.heap.size + 1) FileM.new (.slice none 0 0))) := by
  obtain ⟨h1, s, r, h2⟩ := h.toH
  refine ⟨h1, s, r, ?_⟩
  have h3 := Sat.mapE_nil (kE := Value.int .i64) (vE := Value.int .i64) (Sat.mapE_nil (kE := Value.int .i64) (vE := DefM.val) h2)
  have h4 := h3.alloc (fileO (.slice none 0 0) w.heap.size (.slice none 0 0) (w.heap.size + 1) FileM.new (.slice none 0 0))
  rw [show ((w.alloc (.map #[] 0)).alloc (.map #[] 0)).heap.size = w.heap.size + 1 + 1 by simp, show (w.alloc (.map #[] 0)).heap.size = w.heap.size + 1 by simp] at h4
  have h5 := Sat.row_nil (e := 33) (size := 4) (Sat.row_nil (e := 56) (size := 5) h4)
  have h6 : Sat W (roH (fun _ => none) * _) _ := (h5.of_eq (emp_star (A := _)).symm).imp_l (B := roH (fun _ => none)) fun x hx => hx
  exact ⟨fun _ => none, w.heap.size, w.heap.size + 1, 0, _, _, _, [], ⟨rfl, ⟨fun _ => rfl, fun _ h => by cases h⟩, .inr ⟨rfl, rfl⟩⟩, h6.of_eq (by simp only [List.length_nil, flatO, flatD, List.flatMap_nil]; ac_rfl)⟩
theorem JAt.alloc {bf cf cap b : Nat} {f : Fd} {F : FileM} (h : JAt W R bf cf cap f b F w) (o : Obj) : JAt W (pts w.heap.size o * R) bf cf cap f b F (w.alloc o) := by
  obtain ⟨Y, h1, back⟩ := h.focus
  exact back _ _ ((h1.alloc o).asc')
theorem JAt.of_eq {R' : HProp} {bf cf cap b : Nat} {f : Fd} {F : FileM} (h : JAt W R bf cf cap f b F w) (e : R = R') : JAt W R' bf cf cap f b F w := e ▸ h
theorem JAt.cells {bf cf cap b : Nat} {f : Fd} {F : FileM} (h : JAt W R bf cf cap f b F w) : w.cell? ⟨bf, 1, none⟩ = some (.int .i64 f.at_) ∧ w.cell? ⟨bf, 2, none⟩ = some (.bool f.lost) ∧ w.cell? ⟨b, 4, none⟩ = some (.int .i64 F.part) ∧ w.cell? ⟨b, 15, none⟩ = some (.bool F.bad) := by
  obtain ⟨h1, s, r, m, fb, tb, nt, ov, av, pv, V, h2, h3⟩ := h
  have h4 := h3.r.r.r.r.r.r.l.l
  have h5 := h3
  have h6 : Sat W (pts bf (.cells #[.chan (some cf), .int .i64 f.at_, .bool f.lost] 110) * emp) w := h4.of_eq (by rw [star_comm, emp_star])
  exact ⟨h6.cell rfl, h6.cell rfl, h5.cell rfl, h5.cell rfl⟩

theorem JHas.keep {bf cf cap b : Nat} {f : Fd} {F : FileM} {o : Cmd} {va : Value} (h : JHas W R bf cf cap f b F o va w) : JAt W R bf cf cap f b { F with keep := (o, va) :: F.keep } w := by
  obtain ⟨h1, s, r, m, fb, tb, nt, ov, av, pv, V, h2, hm, h3⟩ := h
  exact ⟨h1, s, r, m, fb, tb, nt, ov, av, pv, V, ⟨h2.1, ⟨h2.2.1.1, fun x hx => by
    rcases List.mem_cons.1 hx with rfl | hx
    · exact hm
    · exact h2.2.1.2 x hx⟩, h2.2.2⟩, h3⟩
theorem new_fits : FileM.new.Fits 0 := ⟨⟨by decide, by decide⟩, ⟨by decide, by decide⟩, Nat.le_refl _, fun _ => ⟨by simp [FileM.new], by simp [FileM.new]⟩, .inl rfl, fun h => by cases h⟩
theorem FileM.Fits.opsD {F : FileM} {n : Nat} (h : F.Fits n) (x : List Cmd) : ({ F with ops := x } : FileM).Fits n := ⟨h.stack, h.pages, h.again, h.told, h.part, h.post⟩
theorem FileM.Fits.keepD {F : FileM} {n : Nat} (h : F.Fits n) (x : List (Cmd × Value)) : ({ F with keep := x } : FileM).Fits n := ⟨h.stack, h.pages, h.again, h.told, h.part, h.post⟩

theorem loopM_succ (n : Nat) (f : Fd) (F : FileM) : loopM (n + 1) f F = if f.cmd.2.lost = true ∨ F.bad = true then none
    else if F.part = 1 then loopM n f.cmd.2 (({ F with ops := F.ops ++ [f.cmd.1] } : FileM).inside f.cmd.1)
    else if F.part = 2 ∧ f.cmd.1.code = 249 then some (f.cmd.2, ({ F with ops := F.ops ++ [f.cmd.1] } : FileM).fail (!(f.cmd.1.args.getD 0 0 == F.post.at_) || !(f.cmd.1.args.getD 1 0 == 2)))
    else loopM n f.cmd.2 (({ F with ops := F.ops ++ [f.cmd.1] } : FileM).outside f.cmd.1) := rfl
theorem JHas.rd {bf cf cap b : Nat} {f : Fd} {F : FileM} {o : Cmd} {va : Value} (h : JHas W R bf cf cap f b F o va w) : Rd w va o.args.length 1 (intsL o.args) := by
  obtain ⟨h1, s, r, h2⟩ := h
  exact h2.rd
theorem JAt.cells2 {bf cf cap b : Nat} {f : Fd} {F : FileM} (h : JAt W R bf cf cap f b F w) : w.cell? ⟨b, 12, none⟩ = some (.int .i64 F.post.at_) ∧ w.cell? ⟨b, 5, none⟩ = some (.int .i64 F.pages) ∧ w.cell? ⟨b, 6, none⟩ = some (.int .i64 F.last) ∧ w.cell? ⟨b, 8, none⟩ = some (.int .i64 F.top) := by
  obtain ⟨h1, s, r, m, fb, tb, nt, ov, av, pv, V, h2, h3⟩ := h
  exact ⟨h3.cell rfl, h3.cell rfl, h3.cell rfl, h3.cell rfl⟩
theorem JAt.keep_less {bf cf cap b : Nat} {f : Fd} {F : FileM} {K : List (Cmd × Value)} (h : JAt W R bf cf cap f b { F with keep := K } w) (hk : ∀ x ∈ F.keep, x ∈ K) : JAt W R bf cf cap f b F w := by
  obtain ⟨h1, s, r, m, fb, tb, nt, ov, av, pv, V, h2, h3⟩ := h
  exact ⟨h1, s, r, m, fb, tb, nt, ov, av, pv, V, ⟨h2.1, ⟨h2.2.1.1, fun x hx => h2.2.1.2 x (hk x hx)⟩, h2.2.2⟩, h3⟩
theorem JAt.keep_rd {bf cf cap b : Nat} {f : Fd} {F : FileM} {x : Cmd × Value} (h : JAt W R bf cf cap f b F w) (hx : x ∈ F.keep) : Rd w x.2 x.1.args.length 1 (intsL x.1.args) := by
  obtain ⟨h1, s, r, m, fb, tb, nt, ov, av, pv, V, h2, h3⟩ := h
  exact h3.r.args_rd h2.2.1.1 (h2.2.1.2 x hx)
/-- the numbers of the end are a command's -/
theorem JAt.post {bf cf cap b : Nat} {f : Fd} {F : FileM} (h : JAt W R bf cf cap f b F w) (hp : F.post.args.length = 8) : ∃ a c, w.cell? ⟨b, 13, none⟩ = some (.slice a 8 c) ∧ JAt W R bf cf cap f b { F with keep := (F.post, .slice a 8 c) :: F.keep } w := by
  obtain ⟨h1, s, r, m, fb, tb, nt, ov, av, pv, V, h2, h3⟩ := h
  have hm : (F.post, pv) ∈ V := by
    rcases h2.2.2 with h | h
    · exact h
    · rw [h.1] at hp; cases hp
  obtain ⟨_, _, a, c, hv, -⟩ := h3.r.args_rd h2.2.1.1 hm
  simp only [hp] at hv
  subst hv
  exact ⟨a, c, h3.cell rfl, h1, s, r, m, fb, tb, nt, ov, av, _, V, ⟨h2.1, ⟨h2.2.1.1, fun x hx => by
    rcases List.mem_cons.1 hx with rfl | hx
    · exact hm
    · exact h2.2.1.2 x hx⟩, h2.2.2⟩, h3⟩

theorem JAt.lens {bf cf cap b : Nat} {f : Fd} {F : FileM} (h : JAt W R bf cf cap f b F w) : ∃ a c fb, w.cell? ⟨b, 2, none⟩ = some (.slice a F.again.length c) ∧ w.cell? ⟨b, 1, none⟩ = some (.map (some fb)) ∧
    ∀ ty, (Builtin.len_ #[75] ty #[.map (some fb)]).run Try.prog w = .ok (.int .i64 F.nf) w := by
  obtain ⟨h1, s, r, m, fb, tb, nt, ov, av, pv, V, h2, h3⟩ := h
  obtain ⟨a, c, hv, -⟩ := h3.r.r.r.r.row_val
  subst hv
  exact ⟨a, c, fb, h3.cell rfl, h3.cell rfl, fun ty => Sat.mapE_len Try.underlying75 h3.r.r.r ty⟩
theorem FileAt.keep_less {b : Nat} {F : FileM} {K : List (Cmd × Value)} (h : FileAt W A b { F with keep := K } w) (hk : ∀ x ∈ F.keep, x ∈ K) : FileAt W A b F w := by
  obtain ⟨m, fb, tb, nt, ov, av, pv, V, h2, h3⟩ := h
  exact ⟨m, fb, tb, nt, ov, av, pv, V, ⟨h2.1, ⟨h2.2.1.1, fun x hx => h2.2.1.2 x (hk x hx)⟩, h2.2.2⟩, h3⟩
theorem JAt.file {bf cf cap b : Nat} {f : Fd} {F : FileM} (h : JAt W R bf cf cap f b F w) : FileAt W R b F w := by
  obtain ⟨h1, s, r, h2⟩ := h
  exact h2.less

/-- how the numbers of a command are read -/
theorem rd_arg {n : Nat} {a : Option Addr} {xs : List Int} {cap : Nat} (h : Rd w (.slice a n cap) xs.length 1 (intsL xs)) (k : Nat) (hk : k < xs.length) : ∃ g off, a = some ⟨g, off, none⟩ ∧ w.cell? ⟨g, off + k, none⟩ = some (.int .i64 (xs.getD k 0)) := by
  obtain ⟨_, _, a', cap', hv, hat⟩ := h
  cases hv
  obtain ⟨g, off, h1, h2⟩ := hat k (.int .i64 (xs.getD k 0)) (by simp [List.getD]; rw [List.getElem?_eq_getElem hk]; rfl)
  exact ⟨g, off, h1, h2⟩

theorem info_op : (Try.prog.info? 33).map (fun i => (i.zero, i.size, i.bytes)) = some (some (.agg #[.int .i64 0, .int .i64 0, .slice none 0 0, .string ByteArray.empty]), 4, 56) := by kernel_rfl

/-- a command joins the file's -/
theorem append_join {bf cf cap b : Nat} {f : Fd} {F : FileM} {m : Nat → Option Obj} {fb tb nt s r : Nat} {av pv va v1 : Value} {V : List (Cmd × Value)} {o : Cmd} {O P : HProp}
    (h1 : f.at_ + f.l.length ≤ 1048576) (hV : V.map Prod.fst = F.ops ∧ (argsH V m ∧ ∀ x ∈ F.keep, x ∈ V) ∧ PostIn V F pv)
    (h : Sat W (pts b (fileO v1 fb av tb F pv) * (O * (row v1 (V.length + 1) 33 4 (flatO V ++ o.vals va) * (P * (roH m * (mapE (Value.int .i64) DefM.val fb F.nf F.fonts * (row av F.again.length 56 5 (flatD F.again) * (mapE (Value.int .i64) (Value.int .i64) tb nt F.told * (feedH bf cf cap f s r * (rowI va o.args * R)))))))))) w) :
    JHas W (O * R) bf cf cap f b { F with ops := F.ops ++ [o] } o va w := by
  have h2 : Sat W (roH m * (rowI va o.args * (pts b (fileO v1 fb av tb F pv) * (O * (row v1 (V.length + 1) 33 4 (flatO V ++ o.vals va) * (P * (mapE (Value.int .i64) DefM.val fb F.nf F.fonts * (row av F.again.length 56 5 (flatD F.again) * (mapE (Value.int .i64) (Value.int .i64) tb nt F.told * (feedH bf cf cap f s r * R)))))))))) w := h.of_eq (by ac_rfl)
  have h3 := h2.of_ro hV.2.1.1
  have h4 : Sat W (argsH (V ++ [(o, va)]) * (pts b (fileO v1 fb av tb F pv) * (O * (row v1 (V.length + 1) 33 4 (flatO V ++ o.vals va) * (P * (mapE (Value.int .i64) DefM.val fb F.nf F.fonts * (row av F.again.length 56 5 (flatD F.again) * (mapE (Value.int .i64) (Value.int .i64) tb nt F.told * (feedH bf cf cap f s r * R))))))))) w := by
    rw [argsH_snoc]
    exact h3.of_eq (by ac_rfl)
  obtain ⟨m', hm, h5⟩ := h4.to_ro
  have h6 := h5.of_eq (show _ = P * (pts b (fileO v1 fb av tb F pv) * (roH m' * (row v1 (V.length + 1) 33 4 (flatO V ++ o.vals va) * (mapE (Value.int .i64) DefM.val fb F.nf F.fonts * (row av F.again.length 56 5 (flatD F.again) * (mapE (Value.int .i64) (Value.int .i64) tb nt F.told * (feedH bf cf cap f s r * (O * R)))))))) by ac_rfl)
  have e1 : flatO (V ++ [(o, va)]) = flatO V ++ o.vals va := by simp [flatO]
  refine ⟨h1, s, r, m', fb, tb, nt, v1, av, pv, V ++ [(o, va)], ⟨by simp [hV.1], ⟨hm, fun x hx => List.mem_append_left _ (hV.2.1.2 x hx)⟩, ?_⟩, by simp, ?_⟩
  · rcases hV.2.2 with h | h
    · exact .inl (List.mem_append_left _ h)
    · exact .inr h
  · rw [e1, List.length_append, List.length_singleton]
    exact h6.r

theorem wpQuiet_val {P : Program} {ops : Array Oper} {C : World → Prop} {Q : Act → Prop} {a : Act} {o : Oper} {rest : List Oper} {v : Value}
    (h : ∀ K : Act → Prop, (∀ a, wpQuiet P ops C Q rest a → K a) → Region.wanted o (yielded ops a.tmps) = true ∧ (∀ w, C w → (execOp a.eval o).run P w = .ok (.value v) w) ∧ K (a.put o.dst v)) : wpQuiet P ops C Q (o :: rest) a :=
  wpQuiet_step fun K hK => by
    obtain ⟨h1, h2, h3⟩ := h K hK
    rw [if_pos h1]
    exact ⟨v, fun w hw => by unfold Oper.quietAt; rw [h2 w hw]; exact ⟨rfl, rfl⟩, h3⟩
/-- a value, if it was made -/
def mayV (b : Bool) (v : Value) : Value := if b = true then undef else v
theorem mayV_false (v : Value) : mayV false v = v := rfl
/-- an operation whose guard is open -/
theorem wpQuiet_maybe {P : Program} {ops : Array Oper} {C : World → Prop} {Q : Act → Prop} {a : Act} {o : Oper} {rest : List Oper} (b : Bool) {v : Value}
    (h : ∀ K : Act → Prop, (∀ a, wpQuiet P ops C Q rest a → K a) → Region.wanted o (yielded ops a.tmps) = !b ∧ (b = false → ∀ w, C w → (execOp a.eval o).run P w = .ok (.value v) w) ∧ K (a.put o.dst (mayV b v))) : wpQuiet P ops C Q (o :: rest) a :=
  wpQuiet_step fun K hK => by
    obtain ⟨h1, h2, h3⟩ := h K hK
    cases b with
    | true => rw [if_neg (by rw [h1]; simp)]; exact h3
    | false => rw [if_pos (by rw [h1]; rfl)]; exact ⟨v, fun w hw => by unfold Oper.quietAt; rw [h2 rfl w hw]; exact ⟨rfl, rfl⟩, h3⟩
set_option maxRecDepth 100000 in
set_option maxHeartbeats 8000000 in
theorem whole_any {v : Value} {l : List UInt8} (hv : Rd w v l.length 1 (l.map byteV)) :
    Calls Try.prog 23 #[v] w fun e w' => WholePost w l e w' := by
  obtain ⟨a, cap, hv0⟩ : ∃ a cap, v = .slice a l.length cap := by obtain ⟨_, _, a, cap, h, _⟩ := hv; exact ⟨a, cap, h⟩
  subst hv0
  by_cases hbig : 1048576 < l.length
  · have i1 : (1048576 : Int) < (l.length : Int) := by omega
    go_enter Try.func23, Try.ntmps23
    go_wp2_with fail
    go_step3
    go_wp2_with fail
    (try rw [Exit.noGoto_ret])
    go_ret2
    exact .inl ⟨hbig, rfl, Sat.start w⟩
  · have i1 : ¬ (1048576 : Int) < (l.length : Int) := by omega
    have hle : l.length ≤ 1048576 := by omega
    have HNF := Lib.hid (newFeed_any hle hv)
    have HLE := Lib.hid hle
    have hmm := @run_makeMap Try.prog
    clear hv hbig hle
    go_enter Try.func23, Try.ntmps23
    go_wp2_with fail
    go_step3
    go_wp2_with fail
    refine Calls.mono HNF.out ?_
    rintro e w1 ⟨bf, cf, rfl, h1⟩
    have h2 := JAt.new (W := w) (R := own w) (f := ⟨l, 0, false⟩) ⟨by simpa using HLE.out, h1⟩
    obtain ⟨W2, hW2⟩ : ∃ W2, (((w1.alloc (.map #[] 0)).alloc (.map #[] 0)).alloc (fileO (.slice none 0 0) w1.heap.size (.slice none 0 0) (w1.heap.size + 1) FileM.new (.slice none 0 0))) = W2 := ⟨_, rfl⟩
    obtain ⟨b, hb⟩ : ∃ b, w1.heap.size + 1 + 1 = b := ⟨_, rfl⟩
    rw [hW2, hb] at h2
    have HJ := Lib.hid (JAt.op h2)
    have hB1 : ((Fd.cmd ⟨l, 0, false⟩).2.lost = true ∨ firstOk (Fd.cmd ⟨l, 0, false⟩).1 = false) → wholeM [] l = none := fun h => by unfold wholeM; rw [if_pos h]
    have hB2 : ∀ K, (Fd.cmd ⟨l, 0, false⟩).2.lost = false → firstOk (Fd.cmd ⟨l, 0, false⟩).1 = true → wholeM K l = _ := fun K h1 h2 => by unfold wholeM; rw [if_neg (by rw [h1, h2]; simp)]
    have hwf := cmd_wf ⟨l, 0, false⟩
    have hsum := cmd_sum ⟨l, 0, false⟩
    have hless := cmd_less ⟨l, 0, false⟩
    obtain ⟨c, hc⟩ : ∃ c, Fd.cmd ⟨l, 0, false⟩ = c := ⟨_, rfl⟩
    simp only [hc] at HJ hB1 hB2 hwf hsum hless
    obtain ⟨o, f1⟩ := c
    simp only at HJ hB1 hB2 hwf hsum hless
    have HB1 := Lib.hid hB1
    have HB2 := Lib.hid hB2
    have HWF := Lib.hid hwf
    have HSUM := Lib.hid hsum
    have HW2 := Lib.hid (show ((w1.alloc (.map #[] 0)).alloc (.map #[] 0)).alloc (.cells #[.slice none 0 0, .map (some w1.heap.size), .slice none 0 0, .map (some (w1.heap.size + 1)), .int .i64 0, .int .i64 0, .int .i64 (-1), .int .i64 0, .int .i64 0, .int .i64 0, .bool false, .int .i64 0, .int .i64 0, .slice none 0 0, .string ⟨#[]⟩, .bool false] 78) = W2 from hW2)
    have HLT := Lib.hid hless
    clear h1 HNF h2 hB1 hB2 hwf hsum hc hW2 hless
    go_wp2_with fail
    rw [HW2.out]
    refine Calls.mono HJ.out ?_
    rintro e w3 ⟨va, rfl, h3⟩
    obtain ⟨sa, sc, hva, -⟩ := (Sat.row_val h3.sat)
    subst hva
    have h4 := h3.alloc (opO o.code o.at_ (.slice sa o.args.length sc) ⟨o.text.toArray⟩)
    obtain ⟨b6, hb6⟩ : ∃ b6, w3.heap.size = b6 := ⟨_, rfl⟩
    rw [hb6] at h4
    have H4 := Lib.hid h4
    unfold Cmd.val
    clear h3 h4 HJ HW2
    go_upto_region 6 with fail
    generalize w3.alloc (.cells #[.int .i64 o.code, .int .i64 o.at_, .slice sa o.args.length sc, .string ⟨o.text.toArray⟩] 33) = W4 at *
    obtain ⟨-, c2, -, -⟩ := H4.out.cells
    have d0 := H4.out.sat.cell (i := 0) rfl
    have d2 := H4.out.sat.cell (i := 2) rfl
    have HS4 := Lib.hid H4.out.sat.r.r
    by_cases hl : f1.lost = true
    · rw [hl] at c2
      go_wp2_with fail
      (try rw [Exit.noGoto_ret])
      go_ret2
      exact .inr (.inl ⟨HLE.out, ⟨[], HB1.out (.inl hl)⟩, rfl, HS4.out⟩)
    have hl0 : f1.lost = false := by simpa using hl
    rw [hl0] at c2
    by_cases h247 : o.code = 247
    rotate_left
    · have i2 : ¬ ((o.code : Int) = 247) := by omega
      go_wp2_with fail
      (try rw [Exit.noGoto_ret])
      go_ret2
      exact .inr (.inl ⟨HLE.out, ⟨[], HB1.out (.inr (by unfold firstOk; simp [h247]))⟩, rfl, HS4.out⟩)
    have hal : o.args.length = 5 := by rw [HWF.out.1, h247]; decide
    have hrd := H4.out.sat.r.rd
    obtain ⟨g, off, hsa, v0⟩ := rd_arg hrd 0 (by omega)
    subst hsa
    obtain ⟨g', off', hsa, v1⟩ := rd_arg hrd 1 (by omega)
    cases hsa
    obtain ⟨g', off', hsa, v2⟩ := rd_arg hrd 2 (by omega)
    cases hsa
    obtain ⟨g', off', hsa, v3⟩ := rd_arg hrd 3 (by omega)
    cases hsa
    rw [Nat.add_zero] at v0
    rw [h247] at d0
    have i3 : ((247 : Nat) : Int) = 247 := rfl
    rw [hal] at d2
    clear hrd
    obtain ⟨x0, hx0⟩ : ∃ x, o.args.getD 0 0 = x := ⟨_, rfl⟩
    obtain ⟨x1, hx1⟩ : ∃ x, o.args.getD 1 0 = x := ⟨_, rfl⟩
    obtain ⟨x2, hx2⟩ : ∃ x, o.args.getD 2 0 = x := ⟨_, rfl⟩
    obtain ⟨x3, hx3⟩ : ∃ x, o.args.getD 3 0 = x := ⟨_, rfl⟩
    rw [hx0] at v0
    rw [hx1] at v1
    rw [hx2] at v2
    rw [hx3] at v3
    have HX := Lib.hid (show firstOk o = ((x0 == 2) && (x1 == 25400000 && (x2 == 473628672 && decide (1 ≤ x3)))) by unfold firstOk; rw [h247, hx0, hx1, hx2, hx3]; rfl)
    clear hx0 hx1 hx2 hx3
    by_cases hx0 : x0 = 2
    rotate_left
    · skip
      go_wp2_with fail
      (try rw [Exit.noGoto_ret])
      go_ret2
      exact .inr (.inl ⟨HLE.out, ⟨[], HB1.out (.inr (by rw [HX.out]; simp [hx0]))⟩, rfl, HS4.out⟩)
    by_cases hx1 : x1 = 25400000
    rotate_left
    · skip
      go_wp2_with fail
      (try rw [Exit.noGoto_ret])
      go_ret2
      exact .inr (.inl ⟨HLE.out, ⟨[], HB1.out (.inr (by rw [HX.out]; simp [hx1]))⟩, rfl, HS4.out⟩)
    by_cases hx2 : x2 = 473628672
    rotate_left
    · skip
      go_wp2_with fail
      (try rw [Exit.noGoto_ret])
      go_ret2
      exact .inr (.inl ⟨HLE.out, ⟨[], HB1.out (.inr (by rw [HX.out]; simp [hx2]))⟩, rfl, HS4.out⟩)
    by_cases hx3 : x3 < 1
    · skip
      go_wp2_with fail
      (try rw [Exit.noGoto_ret])
      go_ret2
      exact .inr (.inl ⟨HLE.out, ⟨[], HB1.out (.inr (by rw [HX.out]; simp [hx3]))⟩, rfl, HS4.out⟩)
    have HAL := Lib.hid hal
    have H247 := Lib.hid h247
    have HFI := Lib.hid (show firstOk o = true by rw [HX.out]; simp [hx0, hx1, hx2]; omega)
    go_upto_region 8 with fail
    clear h247 hal d0 d2 c2 HX HS4 v0 v1 v2 v3
    obtain ⟨hsm, s, r, m, fb, tb, nt, ov, av, pv, V, hV, h5⟩ := H4.out
    have HLV := Lib.hid (show V.length ≤ 1048576 by
      have h8 := congrArg List.length hV.1
      rw [List.length_map] at h8
      have h9 : (FileM.new).ops.length ≤ 1048576 := Nat.zero_le _
      omega)
    obtain ⟨X, hX⟩ : ∃ X, roH m * (mapE (Value.int .i64) DefM.val fb (FileM.new).nf (FileM.new).fonts * (row av (FileM.new).again.length 56 5 (flatD (FileM.new).again) * (mapE (Value.int .i64) (Value.int .i64) tb nt (FileM.new).told * (feedH bf cf l.length f1 s r * (rowI (.slice (some ⟨g, off, none⟩) o.args.length sc) o.args * (own w)))))) = X := ⟨_, rfl⟩
    have h6 : Sat w (pts b6 (opO o.code o.at_ (.slice (some ⟨g, off, none⟩) o.args.length sc) ⟨o.text.toArray⟩) * (pts b (fileO ov fb av tb (FileM.new) pv) * (row ov V.length 33 4 (flatO V) * X))) W4.drew := h5.drew.of_eq (by rw [← hX]; ac_rfl)
    have HVV := Lib.hid hV
    have HXX := Lib.hid hX
    have H6 := Lib.hid h6
    have HSM := Lib.hid hsm
    obtain ⟨C, hC⟩ : ∃ C : World → Prop, C = fun w' => ∃ X, Sat w (pts b6 (opO o.code o.at_ (.slice (some ⟨g, off, none⟩) o.args.length sc) ⟨o.text.toArray⟩) * (pts b (fileO ov fb av tb (FileM.new) pv) * X)) w' := ⟨_, rfl⟩
    have HC := Lib.hid (show ∀ w', C w' → w'.cell? ⟨b, 0, none⟩ = some ov ∧ (Instr.loadAt 33 (.pointer (some ⟨b6, 0, none⟩))).run Try.prog w' = .ok (.agg #[.int .i64 o.code, .int .i64 o.at_, .slice (some ⟨g, off, none⟩) o.args.length sc, .string ⟨o.text.toArray⟩]) w' from fun w' h => by
      rw [hC] at h
      obtain ⟨X, h⟩ := h
      exact ⟨h.r.cell rfl, load_op (h.cell rfl) (h.cell rfl) (h.cell rfl) (h.cell rfl)⟩)
    have HC2 := Lib.hid (show ∀ X w', Sat w (pts b6 (opO o.code o.at_ (.slice (some ⟨g, off, none⟩) o.args.length sc) ⟨o.text.toArray⟩) * (pts b (fileO ov fb av tb (FileM.new) pv) * X)) w' → C w' from fun X w' h => by rw [hC]; exact ⟨X, h⟩)
    obtain ⟨i0, hi, hz0, hz1, hz2⟩ := info_parts3 info_op
    have HI := Lib.hid hi
    have HZ0 := Lib.hid hz0
    have HZ1 := Lib.hid hz1
    have HZ2 := Lib.hid hz2
    clear h5 h6 hV hX hsm hC hi hz0 hz1 hz2 H4
    refine wp_region_E C (by kernel_rfl) ?_
    generalize W4.drew = W10 at *
    refine wpE_take (i := 0) (q := 8) (v := ?_) rfl (by kernel_rfl) (by kernel_rfl) (by kernel_rfl) (by kernel_rfl) (by kernel_rfl) (fun _ _ _ h => h) (by kernel_rfl) ?_ ?_
    rotate_left 1
    · intro w hw; obtain ⟨q0, q1⟩ := HC.out _ hw; go_simp; try with_reducible rfl
    refine wpE_take (i := 1) (q := 2) (v := ?_) rfl (by kernel_rfl) (by kernel_rfl) (by kernel_rfl) (by kernel_rfl) (by kernel_rfl) (fun _ _ _ h => h) (by kernel_rfl) ?_ ?_
    rotate_left 1
    · intro w hw; obtain ⟨q0, q1⟩ := HC.out _ hw; go_simp; try with_reducible rfl
    refine wpE_take (i := 2) (q := 3) (v := ?_) rfl (by kernel_rfl) (by kernel_rfl) (by kernel_rfl) (by kernel_rfl) (by kernel_rfl) (fun _ _ _ h => h) (by kernel_rfl) ?_ ?_
    rotate_left 1
    · intro w hw; obtain ⟨q0, q1⟩ := HC.out _ hw; go_simp; try with_reducible rfl
    refine wpE_take (i := 3) (q := 4) (v := ?_) rfl (by kernel_rfl) (by kernel_rfl) (by kernel_rfl) (by kernel_rfl) (by kernel_rfl) (fun _ _ _ h => h) (by kernel_rfl) ?_ ?_
    rotate_left 1
    · intro w hw; obtain ⟨q0, q1⟩ := HC.out _ hw; go_simp; try with_reducible rfl
    refine wpE_take (i := 4) (q := 7) (v := ?_) rfl (by kernel_rfl) (by kernel_rfl) (by kernel_rfl) (by kernel_rfl) (by kernel_rfl) (fun _ _ _ h => h) (by kernel_rfl) ?_ ?_
    rotate_left 1
    · intro w hw; obtain ⟨q0, q1⟩ := HC.out _ hw; go_simp; try with_reducible rfl
    refine wpE_take (i := 5) (q := 6) (v := .agg #[.int .i64 o.code, .int .i64 o.at_, .slice (some ⟨g, off, none⟩) o.args.length sc, .string ⟨o.text.toArray⟩]) rfl (by kernel_rfl) (by kernel_rfl) (by kernel_rfl) (by kernel_rfl) (by kernel_rfl) (fun _ _ _ h => h) (by kernel_rfl) (fun w hw => ?_) ?_
    · refine exec_load_m 33 (.tmp 6) rfl b6 0 ?_ _ (HC.out _ hw).2
      kernel_rfl
    refine wpE_one (i := 6) rfl (by kernel_rfl) (HC2.out _ _ H6.out) (fun K hK => ?_)
    go_simp
    refine hK _ _ ?_
    clear hK K
    have h11 := H6.out.alloc (.cells #[.int .i64 o.code, .int .i64 o.at_, .slice (some ⟨g, off, none⟩) o.args.length sc, .string ⟨o.text.toArray⟩] 33)
    have HRD := Lib.hid (show Rd (W10.alloc (.cells #[.int .i64 o.code, .int .i64 o.at_, .slice (some ⟨g, off, none⟩) o.args.length sc, .string ⟨o.text.toArray⟩] 33)) (.slice (some ⟨W10.heap.size, 0, none⟩) 1 1) 1 4 (o.vals (.slice (some ⟨g, off, none⟩) o.args.length sc)) from ⟨rfl, by simp [maxLen], _, _, rfl, fun j u hu => ⟨_, _, rfl, by
      rw [Nat.zero_add]
      exact h11.cell (by simpa [Cmd.vals] using hu)⟩⟩)
    have H11 := Lib.hid (h11.of_eq (show _ = row ov V.length 33 4 (flatO V) * (pts W10.heap.size (.cells #[.int .i64 o.code, .int .i64 o.at_, .slice (some ⟨g, off, none⟩) o.args.length sc, .string ⟨o.text.toArray⟩] 33) * (pts b6 (opO o.code o.at_ (.slice (some ⟨g, off, none⟩) o.args.length sc) ⟨o.text.toArray⟩) * (pts b (fileO ov fb av tb (FileM.new) pv) * X))) by ac_rfl))
    clear h11 H6
    generalize hW11 : W10.alloc (.cells #[.int .i64 o.code, .int .i64 o.at_, .slice (some ⟨g, off, none⟩) o.args.length sc, .string ⟨o.text.toArray⟩] 33) = W11 at *
    generalize W10.heap.size = b74 at *
    have hcw3 := HC2.out _ _ (H11.out.of_eq (show _ = pts b6 (opO o.code o.at_ (.slice (some ⟨g, off, none⟩) o.args.length sc) ⟨o.text.toArray⟩) * (pts b (fileO ov fb av tb (FileM.new) pv) * (row ov V.length 33 4 (flatO V) * (pts b74 (.cells #[.int .i64 o.code, .int .i64 o.at_, .slice (some ⟨g, off, none⟩) o.args.length sc, .string ⟨o.text.toArray⟩] 33) * X))) by ac_rfl))
    refine wpE_one (i := 7) rfl (by kernel_rfl) (hcw3) (fun K hK => ?_)
    refine step_append_rd rfl _ _ 23 rfl i0 _ 56 Try.underlying23 HI.out HZ0.out HZ1.out HZ2.out rfl (by omega) rfl H11.out (.slice (some ⟨b74, 0, none⟩) 1 1) 1 (o.vals (.slice (some ⟨g, off, none⟩) o.args.length sc)) rfl HRD.out (by simp [Cmd.vals, Value.oneCell']) (by have := HLV.out; simp [maxLen]; omega) (by have := HLV.out; omega) ?_
    intro v1 w12 h12 _
    obtain ⟨a1, c1, hv1, -⟩ := h12.row_val
    subst hv1
    have h13 := h12.of_eq (show _ = pts b6 (opO o.code o.at_ (.slice (some ⟨g, off, none⟩) o.args.length sc) ⟨o.text.toArray⟩) * (pts b (fileO ov fb av tb (FileM.new) pv) * (row (.slice a1 (V.length + 1) c1) (V.length + 1) 33 4 (flatO V ++ o.vals (.slice (some ⟨g, off, none⟩) o.args.length sc)) * (pts b74 (.cells #[.int .i64 o.code, .int .i64 o.at_, .slice (some ⟨g, off, none⟩) o.args.length sc, .string ⟨o.text.toArray⟩] 33) * X))) by ac_rfl)
    have HCW := Lib.hid (HC2.out _ _ h13)
    have ob := h13.r.lt
    have of := h13.r.free (i := 0)
    have oc := h13.r.cell (i := 0) rfl
    have h14 := (h13.of_eq (show _ = pts b (fileO ov fb av tb (FileM.new) pv) * (pts b6 (opO o.code o.at_ (.slice (some ⟨g, off, none⟩) o.args.length sc) ⟨o.text.toArray⟩) * (row (.slice a1 (V.length + 1) c1) (V.length + 1) 33 4 (flatO V ++ o.vals (.slice (some ⟨g, off, none⟩) o.args.length sc)) * (pts b74 (.cells #[.int .i64 o.code, .int .i64 o.at_, .slice (some ⟨g, off, none⟩) o.args.length sc, .string ⟨o.text.toArray⟩] 33) * X))) by ac_rfl)).set (i := 0) (v := .slice a1 (V.length + 1) c1)
    have H14 := Lib.hid h14
    clear h12 h13 h14 hcw3 H11 HRD hW11
    go_simp
    refine hK _ _ ?_
    clear hK K
    refine wpE_take (i := 8) (q := 9) (v := ?_) rfl (by kernel_rfl) (by kernel_rfl) (by kernel_rfl) (by kernel_rfl) (by kernel_rfl) (fun _ _ _ h => h) (by kernel_rfl) ?_ ?_
    rotate_left 1
    · intro w hw; obtain ⟨q0, q1⟩ := HC.out _ hw; go_simp; try with_reducible rfl
    refine wpE_take (i := 9) (q := 10) (v := ?_) rfl (by kernel_rfl) (by kernel_rfl) (by kernel_rfl) (by kernel_rfl) (by kernel_rfl) (fun _ _ _ h => h) (by kernel_rfl) ?_ ?_
    rotate_left 1
    · intro w hw; obtain ⟨q0, q1⟩ := HC.out _ hw; go_simp; try with_reducible rfl
    refine wpE_one (i := 10) rfl (by kernel_rfl) (HCW.out) (fun K hK => ?_)
    go_simp
    refine hK _ _ ?_
    clear hK K ob of oc
    refine wpE_done (by kernel_rfl) (by kernel_rfl) ?_
    generalize w12.setCell ⟨b, 0, none⟩ (.slice a1 (V.length + 1) c1) = W15 at *
    have H15 := Lib.hid (append_join (O := pts b6 (opO o.code o.at_ (.slice (some ⟨g, off, none⟩) o.args.length sc) ⟨o.text.toArray⟩)) (P := pts b74 (.cells #[.int .i64 o.code, .int .i64 o.at_, .slice (some ⟨g, off, none⟩) o.args.length sc, .string ⟨o.text.toArray⟩] 33)) HSM.out HVV.out (show Sat w (pts b (fileO (.slice a1 (V.length + 1) c1) fb av tb (FileM.new) pv) * _) W15 from by
      have h := H14.out
      rw [← HXX.out] at h
      exact h))
    clear H14 HC HC2 HCW HSM HVV HXX HI HZ0 HZ1 HZ2 HLV
    have hj := H15.out.keep
    obtain ⟨va1, hva1⟩ : ∃ x, Value.slice (some ⟨g, off, none⟩) o.args.length sc = x := ⟨_, rfl⟩
    rw [hva1] at hj
    have hnf := (new_fits.opsD [o]).keepD [(o, va1)]
    obtain ⟨F0, hF0⟩ : ∃ F0 : FileM, F0 = { FileM.new with ops := [o], keep := [(o, va1)] } := ⟨_, rfl⟩
    have hk0 : F0.keep = [(o, va1)] := by rw [hF0]
    have ho0 : F0.ops.length = 1 := by rw [hF0]; rfl
    have hbb := HB2.out [(o, va1)] hl0 HFI.out
    rw [← hF0] at hbb
    have hj2 : JAt w (pts b6 (opO o.code o.at_ va1 ⟨o.text.toArray⟩) * own w) bf cf l.length f1 b F0 W15 := by rw [hF0]; exact hj
    have hf2 : F0.Fits 0 := by rw [hF0]; exact hnf
    obtain ⟨RES, hRES⟩ : ∃ RES, loopM (l.length + 1) f1 F0 = RES := ⟨_, rfl⟩
    rw [hRES] at hbb
    have HBB := Lib.hid hbb
    have HRES := Lib.hid hRES
    have HJ2 := Lib.hid hj2
    have HF2 := Lib.hid hf2
    have HK0 := Lib.hid hk0
    have HO0 := Lib.hid ho0
    have HL0 := Lib.hid hl0
    clear H15 hj hnf hF0 hk0 ho0 hbb hj2 hf2 hRES HB1 HB2 hva1 hmm hb hb6 hl hl0 i3 hx0 hx1 hx2 hx3 HFI
    go_wp2_with fail
    go_step3
    go_upto_block 0 with fail
    go_cut [2, 3, 7] from 68 to 131 (fun _ _ _ wx => ∃ (f' : Fd) (F2 : FileM), RES = some (f', F2) ∧ JAt w (pts b6 (opO o.code o.at_ va1 ⟨o.text.toArray⟩) * own w) bf cf l.length f' b F2 wx ∧ F2.post.args.length = 8 ∧ f'.at_ + f'.l.length = l.length ∧ F2.keep = [(o, va1)])
    case first =>
      go_wp2_with fail
      go_loopg [7] l.length (fun gg _ wx => ∃ (n : Nat) (f : Fd) (F : FileM), gg = n ∧ f.l.length ≤ n ∧ n ≤ l.length ∧ JAt w (pts b6 (opO o.code o.at_ va1 ⟨o.text.toArray⟩) * own w) bf cf l.length f b F wx ∧ F.Fits f.at_ ∧ F.ops.length ≤ f.at_ ∧ f.at_ + f.l.length = l.length ∧ F.keep = [(o, va1)] ∧ loopM (n + 1) f F = RES)
      case atStart => exact ⟨l.length, f1, F0, rfl, by have := HSUM.out; omega, Nat.le_refl _, HJ2.out, HF2.out.le (Nat.zero_le _), by have := HSUM.out; have := HO0.out; have h8 := HLT.out; rw [HL0.out] at h8; simp at h8; omega, by have := HSUM.out; omega, HK0.out, HRES.out⟩
      case round =>
        clear HJ2 HF2 HK0 HO0 HRES
        obtain ⟨n, f, F, rfl, hfn, hnl, hx, hfit, hop, hsu, hkp, hlo⟩ := hrel
        have hcw := cmd_wf f
        have hcs := cmd_sum f
        have hcl := cmd_less f
        have HO := Lib.hid hx.op
        have hll := loopM_succ gk f F
        obtain ⟨c, hc⟩ : ∃ c, f.cmd = c := ⟨_, rfl⟩
        rw [hc] at hcw hcs hcl HO hll
        obtain ⟨q, f'⟩ := c
        simp only at hcw hcs hcl HO hll
        rw [hlo] at hll
        have HWQ := Lib.hid hcw
        have HSQ := Lib.hid hcs
        have HLQ := Lib.hid hcl
        have HLL := Lib.hid hll
        have HFI := Lib.hid hfit
        have HNU := Lib.hid (show f.l.length ≤ gk ∧ gk ≤ l.length ∧ F.ops.length ≤ f.at_ ∧ f.at_ + f.l.length = l.length from ⟨hfn, hnl, hop, hsu⟩)
        have HKP := Lib.hid hkp
        clear hcw hcs hcl hll hfit hfn hnl hop hsu hkp hlo hx hc
        go_wp2_with fail
        refine Calls.mono HO.out ?_
        rintro e w3 ⟨vq, rfl, h3⟩
        obtain ⟨sq, sp, hvq, -⟩ := (Sat.row_val h3.sat)
        subst hvq
        have h4 := h3.alloc (opO q.code q.at_ (.slice sq q.args.length sp) ⟨q.text.toArray⟩)
        obtain ⟨b7, hb7⟩ : ∃ b7, w3.heap.size = b7 := ⟨_, rfl⟩
        rw [hb7] at h4
        have H4 := Lib.hid h4
        unfold Cmd.val
        clear h3 h4 HO
        go_upto_region 10 with fail
        generalize w3.alloc (.cells #[.int .i64 q.code, .int .i64 q.at_, .slice sq q.args.length sp, .string ⟨q.text.toArray⟩] 33) = W4 at *
        obtain ⟨-, c2, -, c15⟩ := H4.out.cells
        clear hb7
        by_cases hl : f'.lost = true
        · rw [hl] at c2
          have hn : RES = none := by rw [HLL.out, if_pos (.inl hl)]
          go_wp2_with fail
          (try rw [Exit.noGoto_ret])
          go_ret2
          exact .inr (.inl ⟨HLE.out, ⟨_, by rw [HBB.out, hn]⟩, rfl, H4.out.sat.r.r.r⟩)
        have hl0 : f'.lost = false := by simpa using hl
        rw [hl0] at c2
        by_cases hbd : F.bad = true
        · rw [hbd] at c15
          have hn : RES = none := by rw [HLL.out, if_pos (.inr hbd)]
          go_wp2_with fail
          (try rw [Exit.noGoto_ret])
          go_ret2
          exact .inr (.inl ⟨HLE.out, ⟨_, by rw [HBB.out, hn]⟩, rfl, H4.out.sat.r.r.r⟩)
        have hb0 : F.bad = false := by simpa using hbd
        rw [hb0] at c15
        have hll := HLL.out
        rw [if_neg (by rw [hl0, hb0]; simp)] at hll
        have HLL2 := Lib.hid hll
        have hle2 : F.ops.length ≤ 1048576 := by have := HNU.out; have := HLE.out; omega
        have HL2 := Lib.hid hle2
        have hlq : f'.l.length < f.l.length := by have := HLQ.out; rw [hl0] at this; simpa using this
        have hnu2 : f'.l.length + 1 ≤ gk ∧ F.ops.length + 1 ≤ f'.at_ ∧ f'.at_ + f'.l.length = l.length ∧ f.at_ + 1 ≤ f'.at_ ∧ gk ≤ l.length := by have := HNU.out; have := HSQ.out; omega
        have HN2 := Lib.hid hnu2
        clear hll hle2 hlq hnu2 HLL HLQ HSQ HNU hl hbd hb0 hl0
        go_upto_region 12 with fail
        clear c2 c15
        obtain ⟨hsm, s, r, m, fb, tb, nt, ov, av, pv, V, hV, h5⟩ := H4.out
        have HLV := Lib.hid (show V.length ≤ 1048576 by
          have h8 := congrArg List.length hV.1
          rw [List.length_map] at h8
          have h9 : (F).ops.length ≤ 1048576 := HL2.out
          omega)
        obtain ⟨X, hX⟩ : ∃ X, roH m * (mapE (Value.int .i64) DefM.val fb (F).nf (F).fonts * (row av (F).again.length 56 5 (flatD (F).again) * (mapE (Value.int .i64) (Value.int .i64) tb nt (F).told * (feedH bf cf l.length f' s r * (rowI (.slice sq q.args.length sp) q.args * (pts b6 (opO o.code o.at_ va1 ⟨o.text.toArray⟩) * own w)))))) = X := ⟨_, rfl⟩
        have h6 : Sat w (pts b7 (opO q.code q.at_ (.slice sq q.args.length sp) ⟨q.text.toArray⟩) * (pts b (fileO ov fb av tb (F) pv) * (row ov V.length 33 4 (flatO V) * X))) W4.drew := h5.drew.of_eq (by rw [← hX]; ac_rfl)
        have HVV := Lib.hid hV
        have HXX := Lib.hid hX
        have H6 := Lib.hid h6
        have HSM := Lib.hid hsm
        obtain ⟨C, hC⟩ : ∃ C : World → Prop, C = fun w' => ∃ X, Sat w (pts b7 (opO q.code q.at_ (.slice sq q.args.length sp) ⟨q.text.toArray⟩) * (pts b (fileO ov fb av tb (F) pv) * X)) w' := ⟨_, rfl⟩
        have HC := Lib.hid (show ∀ w', C w' → w'.cell? ⟨b, 0, none⟩ = some ov ∧ (Instr.loadAt 33 (.pointer (some ⟨b7, 0, none⟩))).run Try.prog w' = .ok (.agg #[.int .i64 q.code, .int .i64 q.at_, .slice sq q.args.length sp, .string ⟨q.text.toArray⟩]) w' from fun w' h => by
          rw [hC] at h
          obtain ⟨X, h⟩ := h
          exact ⟨h.r.cell rfl, load_op (h.cell rfl) (h.cell rfl) (h.cell rfl) (h.cell rfl)⟩)
        have HC2 := Lib.hid (show ∀ X w', Sat w (pts b7 (opO q.code q.at_ (.slice sq q.args.length sp) ⟨q.text.toArray⟩) * (pts b (fileO ov fb av tb (F) pv) * X)) w' → C w' from fun X w' h => by rw [hC]; exact ⟨X, h⟩)
        obtain ⟨i0, hi, hz0, hz1, hz2⟩ := info_parts3 info_op
        have HI := Lib.hid hi
        have HZ0 := Lib.hid hz0
        have HZ1 := Lib.hid hz1
        have HZ2 := Lib.hid hz2
        clear h5 h6 hV hX hsm hC hi hz0 hz1 hz2 H4
        refine wp_region_E C (by kernel_rfl) ?_
        generalize W4.drew = W10 at *
        refine wpE_take (i := 0) (q := 8) (v := ?_) rfl (by kernel_rfl) (by kernel_rfl) (by kernel_rfl) (by kernel_rfl) (by kernel_rfl) (fun _ _ _ h => h) (by kernel_rfl) ?_ ?_
        rotate_left 1
        · intro w hw; obtain ⟨q0, q1⟩ := HC.out _ hw; go_simp; try with_reducible rfl
        refine wpE_take (i := 1) (q := 2) (v := ?_) rfl (by kernel_rfl) (by kernel_rfl) (by kernel_rfl) (by kernel_rfl) (by kernel_rfl) (fun _ _ _ h => h) (by kernel_rfl) ?_ ?_
        rotate_left 1
        · intro w hw; obtain ⟨q0, q1⟩ := HC.out _ hw; go_simp; try with_reducible rfl
        refine wpE_take (i := 2) (q := 3) (v := ?_) rfl (by kernel_rfl) (by kernel_rfl) (by kernel_rfl) (by kernel_rfl) (by kernel_rfl) (fun _ _ _ h => h) (by kernel_rfl) ?_ ?_
        rotate_left 1
        · intro w hw; obtain ⟨q0, q1⟩ := HC.out _ hw; go_simp; try with_reducible rfl
        refine wpE_take (i := 3) (q := 4) (v := ?_) rfl (by kernel_rfl) (by kernel_rfl) (by kernel_rfl) (by kernel_rfl) (by kernel_rfl) (fun _ _ _ h => h) (by kernel_rfl) ?_ ?_
        rotate_left 1
        · intro w hw; obtain ⟨q0, q1⟩ := HC.out _ hw; go_simp; try with_reducible rfl
        refine wpE_take (i := 4) (q := 7) (v := ?_) rfl (by kernel_rfl) (by kernel_rfl) (by kernel_rfl) (by kernel_rfl) (by kernel_rfl) (fun _ _ _ h => h) (by kernel_rfl) ?_ ?_
        rotate_left 1
        · intro w hw; obtain ⟨q0, q1⟩ := HC.out _ hw; go_simp; try with_reducible rfl
        refine wpE_take (i := 5) (q := 6) (v := .agg #[.int .i64 q.code, .int .i64 q.at_, .slice sq q.args.length sp, .string ⟨q.text.toArray⟩]) rfl (by kernel_rfl) (by kernel_rfl) (by kernel_rfl) (by kernel_rfl) (by kernel_rfl) (fun _ _ _ h => h) (by kernel_rfl) (fun w hw => ?_) ?_
        · refine exec_load_m 33 (.tmp 7) rfl b7 0 ?_ _ (HC.out _ hw).2
          kernel_rfl
        refine wpE_one (i := 6) rfl (by kernel_rfl) (HC2.out _ _ H6.out) (fun K hK => ?_)
        go_simp
        refine hK _ _ ?_
        clear hK K
        have h11 := H6.out.alloc (.cells #[.int .i64 q.code, .int .i64 q.at_, .slice sq q.args.length sp, .string ⟨q.text.toArray⟩] 33)
        have HRD := Lib.hid (show Rd (W10.alloc (.cells #[.int .i64 q.code, .int .i64 q.at_, .slice sq q.args.length sp, .string ⟨q.text.toArray⟩] 33)) (.slice (some ⟨W10.heap.size, 0, none⟩) 1 1) 1 4 (q.vals (.slice sq q.args.length sp)) from ⟨rfl, by simp [maxLen], _, _, rfl, fun j u hu => ⟨_, _, rfl, by
          rw [Nat.zero_add]
          exact h11.cell (by simpa [Cmd.vals] using hu)⟩⟩)
        have H11 := Lib.hid (h11.of_eq (show _ = row ov V.length 33 4 (flatO V) * (pts W10.heap.size (.cells #[.int .i64 q.code, .int .i64 q.at_, .slice sq q.args.length sp, .string ⟨q.text.toArray⟩] 33) * (pts b7 (opO q.code q.at_ (.slice sq q.args.length sp) ⟨q.text.toArray⟩) * (pts b (fileO ov fb av tb (F) pv) * X))) by ac_rfl))
        clear h11 H6
        generalize hW11 : W10.alloc (.cells #[.int .i64 q.code, .int .i64 q.at_, .slice sq q.args.length sp, .string ⟨q.text.toArray⟩] 33) = W11 at *
        generalize W10.heap.size = b74 at *
        have hcw3 := HC2.out _ _ (H11.out.of_eq (show _ = pts b7 (opO q.code q.at_ (.slice sq q.args.length sp) ⟨q.text.toArray⟩) * (pts b (fileO ov fb av tb (F) pv) * (row ov V.length 33 4 (flatO V) * (pts b74 (.cells #[.int .i64 q.code, .int .i64 q.at_, .slice sq q.args.length sp, .string ⟨q.text.toArray⟩] 33) * X))) by ac_rfl))
        refine wpE_one (i := 7) rfl (by kernel_rfl) (hcw3) (fun K hK => ?_)
        refine step_append_rd rfl _ _ 23 rfl i0 _ 56 Try.underlying23 HI.out HZ0.out HZ1.out HZ2.out rfl (by omega) rfl H11.out (.slice (some ⟨b74, 0, none⟩) 1 1) 1 (q.vals (.slice sq q.args.length sp)) rfl HRD.out (by simp [Cmd.vals, Value.oneCell']) (by have := HLV.out; simp [maxLen]; omega) (by have := HLV.out; omega) ?_
        intro v1 w12 h12 _
        obtain ⟨a1, c1, hv1, -⟩ := h12.row_val
        subst hv1
        have h13 := h12.of_eq (show _ = pts b7 (opO q.code q.at_ (.slice sq q.args.length sp) ⟨q.text.toArray⟩) * (pts b (fileO ov fb av tb (F) pv) * (row (.slice a1 (V.length + 1) c1) (V.length + 1) 33 4 (flatO V ++ q.vals (.slice sq q.args.length sp)) * (pts b74 (.cells #[.int .i64 q.code, .int .i64 q.at_, .slice sq q.args.length sp, .string ⟨q.text.toArray⟩] 33) * X))) by ac_rfl)
        have HCW := Lib.hid (HC2.out _ _ h13)
        have ob := h13.r.lt
        have of := h13.r.free (i := 0)
        have oc := h13.r.cell (i := 0) rfl
        have h14 := (h13.of_eq (show _ = pts b (fileO ov fb av tb (F) pv) * (pts b7 (opO q.code q.at_ (.slice sq q.args.length sp) ⟨q.text.toArray⟩) * (row (.slice a1 (V.length + 1) c1) (V.length + 1) 33 4 (flatO V ++ q.vals (.slice sq q.args.length sp)) * (pts b74 (.cells #[.int .i64 q.code, .int .i64 q.at_, .slice sq q.args.length sp, .string ⟨q.text.toArray⟩] 33) * X))) by ac_rfl)).set (i := 0) (v := .slice a1 (V.length + 1) c1)
        have H14 := Lib.hid h14
        clear h12 h13 h14 hcw3 H11 HRD hW11
        go_simp
        refine hK _ _ ?_
        clear hK K
        refine wpE_take (i := 8) (q := 9) (v := ?_) rfl (by kernel_rfl) (by kernel_rfl) (by kernel_rfl) (by kernel_rfl) (by kernel_rfl) (fun _ _ _ h => h) (by kernel_rfl) ?_ ?_
        rotate_left 1
        · intro w hw; obtain ⟨q0, q1⟩ := HC.out _ hw; go_simp; try with_reducible rfl
        refine wpE_take (i := 9) (q := 10) (v := ?_) rfl (by kernel_rfl) (by kernel_rfl) (by kernel_rfl) (by kernel_rfl) (by kernel_rfl) (fun _ _ _ h => h) (by kernel_rfl) ?_ ?_
        rotate_left 1
        · intro w hw; obtain ⟨q0, q1⟩ := HC.out _ hw; go_simp; try with_reducible rfl
        refine wpE_one (i := 10) rfl (by kernel_rfl) (HCW.out) (fun K hK => ?_)
        go_simp
        refine hK _ _ ?_
        clear hK K ob of oc
        refine wpE_done (by kernel_rfl) (by kernel_rfl) ?_
        generalize w12.setCell ⟨b, 0, none⟩ (.slice a1 (V.length + 1) c1) = W15 at *
        have H15 := Lib.hid (append_join (O := pts b7 (opO q.code q.at_ (.slice sq q.args.length sp) ⟨q.text.toArray⟩)) (P := pts b74 (.cells #[.int .i64 q.code, .int .i64 q.at_, .slice sq q.args.length sp, .string ⟨q.text.toArray⟩] 33)) HSM.out HVV.out (show Sat w (pts b (fileO (.slice a1 (V.length + 1) c1) fb av tb (F) pv) * _) W15 from by
          have h := H14.out
          rw [← HXX.out] at h
          exact h))
        clear H14 HC HC2 HCW HSM HVV HXX HI HZ0 HZ1 HZ2 HLV
        have h16 := H15.out
        have hll := HLL2.out
        have hn2 := HN2.out
        obtain ⟨F1, hF1⟩ : ∃ F1 : FileM, F1 = { F with ops := F.ops ++ [q] } := ⟨_, rfl⟩
        have hfit1 : F1.Fits f.at_ := by rw [hF1]; exact HFI.out.opsD _
        have hk1 : F1.keep = [(o, va1)] := by rw [hF1]; exact HKP.out
        have hp1 : F.part = F1.part := by rw [hF1]
        have hpo : F.post = F1.post := by rw [hF1]
        have ho1 : F1.ops.length = F.ops.length + 1 := by rw [hF1]; simp
        rw [← hF1] at h16 hll
        rw [hp1, hpo] at hll
        have hn3 : f'.l.length + 1 ≤ gk ∧ F1.ops.length ≤ f'.at_ ∧ f'.at_ + f'.l.length = l.length ∧ f.at_ + 1 ≤ f'.at_ ∧ gk ≤ l.length := by omega
        have HN3 := Lib.hid hn3
        have hb1 : f.at_ ≤ 1048576 := by have := HLE.out; omega
        have hfi := (hfit1.inside q).le hn3.2.2.2.1
        have hfo := (hfit1.outside q HWQ.out).le hn3.2.2.2.1
        have hki := inside_keep F1 q
        have hko := outside_keep F1 q
        rw [hk1] at hki hko
        have hin := h16.inside q _ HWQ.out hfit1 hb1
        have hou := h16.outside q _ HWQ.out hfit1 hb1
        unfold Cmd.val at hin hou
        obtain ⟨-, -, c4, -⟩ := h16.at.cells
        have d0 := h16.at.sat.cell (i := 0) rfl
        have d1 := h16.at.sat.cell (i := 1) rfl
        have d2 := h16.at.sat.cell (i := 2) rfl
        have d3 := h16.at.sat.cell (i := 3) rfl
        have H16 := Lib.hid h16
        have HLL3 := Lib.hid hll
        have HF1 := Lib.hid hfit1
        have HK1 := Lib.hid hk1
        have HIN := Lib.hid hin
        have HOU := Lib.hid hou
        have HFTI := Lib.hid hfi
        have HFTO := Lib.hid hfo
        have HFKI := Lib.hid hki
        have HFKO := Lib.hid hko
        have HPT := Lib.hid hfit1.part
        clear h16 hll hn2 hF1 hfit1 hk1 hp1 hpo ho1 hn3 hb1 hfi hfo hki hko hin hou H15 HLL2 HN2 HFI HKP HL2
        by_cases hp : F1.part = 1
        · rw [hp] at c4
          have HLR := Lib.hid (show RES = _ from by rw [HLL3.out, if_pos hp])
          have HFT := HFTI
          have HFK := HFKI
          have HPP := Lib.hid hp
          clear hp HOU HFTO HFKO HFTI HFKI HLL3
          go_wp2_with fail
          refine Calls.mono HIN.out ?_
          rintro e w5 ⟨rfl, h6⟩
          clear HIN
          have H6 := Lib.hid h6
          clear h6
          go_wp2
          go_roundg (gk - 1)
          case measure => (have := HN3.out; omega)
          case rel => exact ⟨gk - 1, f', F1.inside q, rfl, by have := HN3.out; omega, by have := HN3.out; omega, H6.out.less, HFT.out, by rw [HFK.out.2]; have := HN3.out; omega, (HN3.out).2.2.1, HFK.out.1, by rw [Nat.sub_add_cancel (by have := HN3.out; omega)]; exact HLR.out.symm⟩
        · by_cases hp2 : F1.part = 2 ∧ q.code = 249
          rotate_left
          · have hll := HLL3.out
            rw [if_neg hp, if_neg hp2] at hll
            have HLR := Lib.hid hll
            have HFT := HFTO
            have HFK := HFKO
            have HPP := Lib.hid hp
            have HP2 := Lib.hid hp2
            clear hll HIN HFTO HFKO HFTI HFKI HLL3 hp hp2
            rcases HPT.out with hp | hp | hp
            · rw [hp] at c4
              clear hp
              go_wp2_with fail
              refine Calls.mono HOU.out ?_
              rintro e w5 ⟨rfl, h6⟩
              clear HOU
              have H6 := Lib.hid h6
              clear h6
              go_wp2
              go_roundg (gk - 1)
              case measure => (have := HN3.out; omega)
              case rel => exact ⟨gk - 1, f', F1.outside q, rfl, by have := HN3.out; omega, by have := HN3.out; omega, H6.out.less, HFT.out, by rw [HFK.out.2]; have := HN3.out; omega, (HN3.out).2.2.1, HFK.out.1, by rw [Nat.sub_add_cancel (by have := HN3.out; omega)]; exact HLR.out.symm⟩
            · exact absurd hp HPP.out
            · rw [hp] at c4
              have hne : ¬ ((q.code : Int) = 249) := fun h => HP2.out ⟨hp, by omega⟩
              clear hp
              go_wp2_with fail
              refine Calls.mono HOU.out ?_
              rintro e w5 ⟨rfl, h6⟩
              clear HOU
              have H6 := Lib.hid h6
              clear h6
              go_wp2
              go_roundg (gk - 1)
              case measure => (have := HN3.out; omega)
              case rel => exact ⟨gk - 1, f', F1.outside q, rfl, by have := HN3.out; omega, by have := HN3.out; omega, H6.out.less, HFT.out, by rw [HFK.out.2]; have := HN3.out; omega, (HN3.out).2.2.1, HFK.out.1, by rw [Nat.sub_add_cancel (by have := HN3.out; omega)]; exact HLR.out.symm⟩
          · have hll := HLL3.out
            rw [if_neg hp, if_pos hp2] at hll
            have HLR := Lib.hid hll
            have HPP := Lib.hid hp2.1
            clear hll HIN HOU HFTO HFKO HFTI HFKI HLL3 HPT
            obtain ⟨hp2, h249⟩ := hp2
            rw [hp2] at c4
            rw [h249] at d0
            have i249 : ((249 : Nat) : Int) = 249 := rfl
            have hal2 : q.args.length = 2 := by rw [HWQ.out.1, h249]; decide
            obtain ⟨gq, oq, hsq, y0⟩ := rd_arg H16.out.rd 0 (by omega)
            cases hsq
            obtain ⟨g', off', hsq, y1⟩ := rd_arg H16.out.rd 1 (by omega)
            cases hsq
            rw [Nat.add_zero] at y0
            rw [hal2] at d2
            have ca := H16.out.at.cells2.1
            obtain ⟨x0, hx0⟩ : ∃ x, q.args.getD 0 0 = x := ⟨_, rfl⟩
            obtain ⟨x1, hx1⟩ : ∃ x, q.args.getD 1 0 = x := ⟨_, rfl⟩
            have hlr := HLR.out
            rw [hx0, hx1] at hlr
            rw [hx0] at y0
            rw [hx1] at y1
            have HLR2 := Lib.hid hlr
            have HX0 := Lib.hid hx0
            have HX1 := Lib.hid hx1
            clear hlr hx0 hx1 HLR hp hp2 h249
            by_cases hne : x0 = F1.post.at_
            · rw [← hne] at ca
              have hxx : x1 = 2 ∨ x1 ≠ 2 := by omega
              rcases hxx with hxx | hxx
              · skip
                go_upto_region 17 with fail
                have h17 := H16.out.at.drewD.fail false
                have HFL := Lib.hid h17
                clear h17
                have HEX := Lib.hid ((Ext.refl W15).drew)
                refine wp_region_tail (fun w' => w' = W15.drew) 18 (by kernel_rfl) (by kernel_rfl) (rfl) ?_
                simp only [List.take_succ_cons, List.take_zero, List.drop_succ_cons, List.drop_zero]
                repeat (refine wpQuiet_step (fun K hK => ?_); go_simp; first | (refine hK _ ?_; clear hK K) | (apply Exists.intro; refine ⟨fun w' hw' => ?_, hK _ ?_⟩; (first | rfl | (subst hw'; have p0 := HEX.out.cell d2; have p1 := HEX.out.cell y0; have p2 := HEX.out.cell y1; have p3 := HEX.out.cell ca; go_simp; first | done | rfl)); clear hK K))
                refine wpQuiet_nil ?_
                rintro w17 rfl
                go_wp2_with fail
                with_reducible refine Calls.mono HFL.out ?_
                rintro e w18 ⟨rfl, h18⟩
                have H18 := Lib.hid h18
                clear h18 HFL
                go_wp2
                go_meet
                exact ⟨f', F1.fail false, by rw [HLR2.out, show (!x0 == (F1.post.at_ : Int) || !x1 == 2) = false by simp [hne, hxx]], H18.out.less, by rw [fail_eq]; exact HF1.out.post HPP.out, HN3.out.2.2.1, by rw [fail_eq]; exact HK1.out⟩
              · have hxb : (x1 != 2) = true := by simp [hxx]
                go_upto_region 17 with fail
                have h17 := H16.out.at.drewD.fail true
                have HFL := Lib.hid h17
                clear h17
                have HEX := Lib.hid ((Ext.refl W15).drew)
                refine wp_region_tail (fun w' => w' = W15.drew) 18 (by kernel_rfl) (by kernel_rfl) (rfl) ?_
                simp only [List.take_succ_cons, List.take_zero, List.drop_succ_cons, List.drop_zero]
                repeat (refine wpQuiet_step (fun K hK => ?_); go_simp; first | (refine hK _ ?_; clear hK K) | (apply Exists.intro; refine ⟨fun w' hw' => ?_, hK _ ?_⟩; (first | rfl | (subst hw'; have p0 := HEX.out.cell d2; have p1 := HEX.out.cell y0; have p2 := HEX.out.cell y1; have p3 := HEX.out.cell ca; go_simp; first | done | rfl)); clear hK K))
                refine wpQuiet_nil ?_
                rintro w17 rfl
                go_wp2_with fail
                with_reducible refine Calls.mono HFL.out ?_
                rintro e w18 ⟨rfl, h18⟩
                have H18 := Lib.hid h18
                clear h18 HFL
                go_wp2
                go_meet
                exact ⟨f', F1.fail true, by rw [HLR2.out, show (!x0 == (F1.post.at_ : Int) || !x1 == 2) = true by simp [hne, hxx]], H18.out.less, by rw [fail_eq]; exact HF1.out.post HPP.out, HN3.out.2.2.1, by rw [fail_eq]; exact HK1.out⟩
            · skip
              go_upto_region 17 with fail
              have h17 := H16.out.at.drewD.fail true
              have HFL := Lib.hid h17
              clear h17
              have HEX := Lib.hid ((Ext.refl W15).drew)
              refine wp_region_tail (fun w' => w' = W15.drew) 18 (by kernel_rfl) (by kernel_rfl) (rfl) ?_
              simp only [List.take_succ_cons, List.take_zero, List.drop_succ_cons, List.drop_zero]
              repeat (refine wpQuiet_step (fun K hK => ?_); go_simp; first | (refine hK _ ?_; clear hK K) | (apply Exists.intro; refine ⟨fun w' hw' => ?_, hK _ ?_⟩; (first | rfl | (subst hw'; have p0 := HEX.out.cell d2; have p1 := HEX.out.cell y0; have p2 := HEX.out.cell y1; have p3 := HEX.out.cell ca; go_simp; first | done | rfl)); clear hK K))
              refine wpQuiet_nil ?_
              rintro w17 rfl
              go_wp2_with fail
              with_reducible refine Calls.mono HFL.out ?_
              rintro e w18 ⟨rfl, h18⟩
              have H18 := Lib.hid h18
              clear h18 HFL
              go_wp2
              go_meet
              exact ⟨f', F1.fail true, by rw [HLR2.out, show (!x0 == (F1.post.at_ : Int) || !x1 == 2) = true by simp [hne]], H18.out.less, by rw [fail_eq]; exact HF1.out.post HPP.out, HN3.out.2.2.1, by rw [fail_eq]; exact HK1.out⟩
    case rest =>
      obtain ⟨f2, F2, hres, hx, hpl, hsu, hkp⟩ := hcut
      have hbb := HBB.out
      rw [hres] at hbb
      have HB3 := Lib.hid hbb
      have HX := Lib.hid hx
      have HPL := Lib.hid hpl
      have HSU := Lib.hid hsu
      have HSU2 := Lib.hid hsu
      have HKP := Lib.hid hkp
      clear hbb hres hx hpl hsu hkp HBB HRES HJ2 HF2 HK0 HO0 HL0 HSUM HLT
      go_wp2_with fail
      go_loopg [8] f2.l.length (fun gg s8 wx => ∃ (k : Nat) (g : Fd) (F : FileM), gg = g.l.length ∧ s8 = .int .i64 k ∧ k + g.l.length = f2.l.length ∧ g.at_ + g.l.length = l.length ∧ F.fail (g.l.any fun x => !(x == 223)) = F2.fail (f2.l.any fun x => !(x == 223)) ∧ JAt w (pts b6 (opO o.code o.at_ va1 ⟨o.text.toArray⟩) * own w) bf cf l.length g b F wx)
      case atStart => exact ⟨0, f2, F2, rfl, rfl, by omega, HSU.out, rfl, HX.out⟩
      case round =>
        clear HX HSU
        obtain ⟨k, g, F, rfl, rfl, hk, hsu, hff, hx⟩ := hrel
        obtain ⟨c1, -, -, -⟩ := hx.cells
        obtain ⟨gl, ga, glo⟩ := g
        simp only at hk hsu hff c1
        cases gl with
        | cons x gl =>
          simp only [List.length_cons] at hk hsu
          have i2 : (ga : Int) < (l.length : Int) := by omega
          have HN := Lib.hid hx.next
          have HK := Lib.hid hk
          have HSU := Lib.hid hsu
          have HFF := Lib.hid hff
          have hki : k ≤ 1048576 := by have := HLE.out; have := HSU2.out; omega
          obtain ⟨xn, hxn⟩ : ∃ n, x.toNat = n := ⟨_, rfl⟩
          have hxb : (x == 223) = (xn == 223) := by
            rw [← hxn, Bool.eq_iff_iff, beq_iff_eq, beq_iff_eq]
            exact ⟨fun h => by rw [h]; rfl, fun h => UInt8.toNat_inj.1 (h.trans rfl)⟩
          have hn2 := HN.out
          simp only [Fd.next, hxn] at hn2
          have HN2 := Lib.hid hn2
          have HXB := Lib.hid hxb
          clear hk hsu hff hx hn2 HN hxn hxb
          go_wp2_with fail
          with_reducible refine Calls.mono HN2.out ?_
          rintro e w5 ⟨rfl, h5⟩
          have HFT := Lib.hid (h5.fail true)
          have HFF2 := Lib.hid (h5.fail false)
          clear HN2 h5
          by_cases hx2 : xn = 223
          · have hff2 : (F.fail false).fail (gl.any fun x => !(x == 223)) = F2.fail (f2.l.any fun x => !(x == 223)) := by
              rw [← HFF.out, List.any_cons, HXB.out, hx2, fail_eq, fail_eq, fail_eq]; simp
            have HFF3 := Lib.hid hff2
            subst hx2
            have i223 : ((223 : Nat) : Int) = 223 := rfl
            clear hff2 HFT HFF HXB
            go_wp2_with fail
            with_reducible refine Calls.mono HFF2.out ?_
            rintro e w6 ⟨rfl, h6⟩
            have H6 := Lib.hid h6
            clear h6
            go_wp2
            go_roundg gl.length
            case measure => simp
            case rel => exact ⟨k + 1, ⟨gl, ga + 1, glo⟩, F.fail false, rfl, by go_num, by have := HK.out; show k + 1 + gl.length = _; omega, by have := HSU.out; show ga + 1 + gl.length = _; omega, HFF3.out, H6.out⟩
          · have hff2 : (F.fail true).fail (gl.any fun x => !(x == 223)) = F2.fail (f2.l.any fun x => !(x == 223)) := by
              rw [← HFF.out, List.any_cons, HXB.out, show (xn == 223) = false by simpa using hx2, fail_eq, fail_eq, fail_eq]; simp
            have HFF3 := Lib.hid hff2
            have hne : ¬ ((xn : Int) = 223) := by omega
            have hneb : ((xn : Int) != 223) = true := by simpa using hne
            clear hff2 HFF2 HFF HXB hx2
            go_wp2_with fail
            with_reducible refine Calls.mono HFT.out ?_
            rintro e w6 ⟨rfl, h6⟩
            have H6 := Lib.hid h6
            clear h6
            go_wp2
            go_roundg gl.length
            case measure => simp
            case rel => exact ⟨k + 1, ⟨gl, ga + 1, glo⟩, F.fail true, rfl, by go_num, by have := HK.out; show k + 1 + gl.length = _; omega, by have := HSU.out; show ga + 1 + gl.length = _; omega, HFF3.out, H6.out⟩
        | nil =>
          have i2 : ¬ ((ga : Int) < (l.length : Int)) := by simp only [List.length_nil] at hsu; omega
          have hkk : k = f2.l.length := by simpa using hk
          subst hkk
          have hf3 : F = F2.fail (f2.l.any fun x => !(x == 223)) := by rw [← hff, List.any_nil]; rfl
          have hpl : F.post.args.length = 8 := by rw [hf3, fail_eq]; exact HPL.out
          obtain ⟨ap, cp, c13, hj⟩ := hx.post hpl
          obtain ⟨G, hG⟩ : ∃ G : FileM, { F with keep := (F.post, .slice ap 8 cp) :: F.keep } = G := ⟨_, rfl⟩
          have hm1 : (F.post, Value.slice ap 8 cp) ∈ G.keep := by rw [← hG]; simp
          have hm2 : (o, va1) ∈ G.keep := by rw [← hG]; simp; right; rw [hf3, fail_eq, HKP.out]; simp
          rw [hG] at hj
          have HJ := Lib.hid hj
          have HG := Lib.hid hG
          have HM1 := Lib.hid hm1
          have HM2 := Lib.hid hm2
          have HF3 := Lib.hid hf3
          have HPL2 := Lib.hid hpl
          clear hk hsu hff hx hf3 hpl hj hG hm1 hm2
          go_upto_region 23 with fail
          clear c1 c13
          go_cut [151] from 151 to 164 (fun _ wx => JAt w (pts b6 (opO o.code o.at_ va1 ⟨o.text.toArray⟩) * own w) bf cf l.length ⟨[], ga, glo⟩ b (G.fail (fillBad f2.l.length l.length)) wx)
          case first =>
            have HJT := Lib.hid (HJ.out.fail true)
            have HJF := Lib.hid (HJ.out.fail false)
            by_cases n1 : f2.l.length < 4
            · have i3 : (f2.l.length : Int) < 4 := by omega
              have HFB := Lib.hid (show fillBad f2.l.length l.length = true by simp [fillBad, n1])
              go_wp2_with fail
              with_reducible refine Calls.mono HJT.out ?_
              rintro e w6 ⟨rfl, h6⟩
              have H6 := Lib.hid h6
              clear h6
              go_wp2
              go_meet
              rw [HFB.out]
              exact H6.out
            · have i3 : ¬ ((f2.l.length : Int) < 4) := by omega
              by_cases n2 : 7 < f2.l.length
              · have i4 : (7 : Int) < (f2.l.length : Int) := by omega
                have HFB := Lib.hid (show fillBad f2.l.length l.length = true by simp [fillBad, n2])
                go_wp2_with fail
                with_reducible refine Calls.mono HJT.out ?_
                rintro e w6 ⟨rfl, h6⟩
                have H6 := Lib.hid h6
                clear h6
                go_wp2
                go_meet
                rw [HFB.out]
                exact H6.out
              · have i4 : ¬ ((7 : Int) < (f2.l.length : Int)) := by omega
                have hmod : (l.length : Int).tmod 4 = ((l.length % 4 : Nat) : Int) := by rw [Int.tmod_eq_emod_of_nonneg (by omega)]; omega
                by_cases n3 : l.length % 4 = 0
                · have i5 : (l.length : Int).tmod 4 = 0 := by omega
                  have HFB := Lib.hid (show fillBad f2.l.length l.length = false by simp [fillBad, n1, n2, n3])
                  clear hmod
                  go_wp2_with fail
                  with_reducible refine Calls.mono HJF.out ?_
                  rintro e w6 ⟨rfl, h6⟩
                  have H6 := Lib.hid h6
                  clear h6
                  go_wp2
                  go_meet
                  rw [HFB.out]
                  exact H6.out
                · have i5 : ¬ ((l.length : Int).tmod 4 = 0) := by omega
                  have i6 : ((l.length : Int) % 4 != 0) = true := by rw [bne_iff_ne]; omega
                  have HFB := Lib.hid (show fillBad f2.l.length l.length = true by simp [fillBad, n3])
                  clear hmod
                  go_wp2_with fail
                  with_reducible refine Calls.mono HJT.out ?_
                  rintro e w6 ⟨rfl, h6⟩
                  have H6 := Lib.hid h6
                  clear h6
                  go_wp2
                  go_meet
                  rw [HFB.out]
                  exact H6.out
          case rest =>
            clear HJ
            obtain ⟨fb, hfb⟩ : ∃ fb, fillBad f2.l.length l.length = fb := ⟨_, rfl⟩
            rw [hfb] at hcut
            have HFB := Lib.hid hfb
            clear hfb
            obtain ⟨-, e5, e6, e8⟩ := hcut.cells2
            have hrp : Rd wc (.slice ap 8 cp) F.post.args.length 1 (intsL F.post.args) := hcut.keep_rd (x := (F.post, .slice ap 8 cp)) (by rw [fail_eq]; exact HM1.out)
            have hro : Rd wc va1 o.args.length 1 (intsL o.args) := hcut.keep_rd (x := (o, va1)) (by rw [fail_eq]; exact HM2.out)
            have d2 := hcut.sat.cell (i := 2) rfl
            have hp8 := HPL2.out
            obtain ⟨gp, po, hap, q0⟩ := rd_arg hrp 0 (by omega)
            subst hap
            rw [Nat.add_zero] at q0
            obtain ⟨g', off', hap, q1⟩ := rd_arg hrp 1 (by omega)
            cases hap
            obtain ⟨g', off', hap, q2⟩ := rd_arg hrp 2 (by omega)
            cases hap
            obtain ⟨g', off', hap, q3⟩ := rd_arg hrp 3 (by omega)
            cases hap
            obtain ⟨g', off', hap, q4⟩ := rd_arg hrp 4 (by omega)
            cases hap
            obtain ⟨g', off', hap, q5⟩ := rd_arg hrp 5 (by omega)
            cases hap
            obtain ⟨g', off', hap, q6⟩ := rd_arg hrp 6 (by omega)
            cases hap
            obtain ⟨g', off', hap, q7⟩ := rd_arg hrp 7 (by omega)
            cases hap
            obtain ⟨_, _, oa, oc, hoa, -⟩ := id hro
            subst hoa
            obtain ⟨go, oo, hoa, r3⟩ := rd_arg hro 3 (by rw [HAL.out]; omega)
            subst hoa
            rw [HAL.out] at d2
            obtain ⟨p0, hp0⟩ : ∃ x, F.post.args.getD 0 0 = x := ⟨_, rfl⟩
            rw [hp0] at q0
            obtain ⟨p1, hp1⟩ : ∃ x, F.post.args.getD 1 0 = x := ⟨_, rfl⟩
            rw [hp1] at q1
            obtain ⟨p2, hp2⟩ : ∃ x, F.post.args.getD 2 0 = x := ⟨_, rfl⟩
            rw [hp2] at q2
            obtain ⟨p3, hp3⟩ : ∃ x, F.post.args.getD 3 0 = x := ⟨_, rfl⟩
            rw [hp3] at q3
            obtain ⟨p4, hp4⟩ : ∃ x, F.post.args.getD 4 0 = x := ⟨_, rfl⟩
            rw [hp4] at q4
            obtain ⟨p5, hp5⟩ : ∃ x, F.post.args.getD 5 0 = x := ⟨_, rfl⟩
            rw [hp5] at q5
            obtain ⟨p6, hp6⟩ : ∃ x, F.post.args.getD 6 0 = x := ⟨_, rfl⟩
            rw [hp6] at q6
            obtain ⟨p7, hp7⟩ : ∃ x, F.post.args.getD 7 0 = x := ⟨_, rfl⟩
            rw [hp7] at q7
            obtain ⟨y3, hy3⟩ : ∃ x, o.args.getD 3 0 = x := ⟨_, rfl⟩
            rw [hy3] at r3
            obtain ⟨ls, hls⟩ : ∃ x, (G.fail fb).last = x := ⟨_, rfl⟩
            rw [hls] at e6
            obtain ⟨tp, htp⟩ : ∃ x, (G.fail fb).top = x := ⟨_, rfl⟩
            rw [htp] at e8
            obtain ⟨pg, hpg⟩ : ∃ x, (G.fail fb).pages = x := ⟨_, rfl⟩
            rw [hpg] at e5
            obtain ⟨b0, hb0⟩ : ∃ x, (p0 != ls) = x := ⟨_, rfl⟩
            obtain ⟨b1, hb1⟩ : ∃ x, (p1 != 25400000) = x := ⟨_, rfl⟩
            obtain ⟨b2, hb2⟩ : ∃ x, (p2 != 473628672) = x := ⟨_, rfl⟩
            obtain ⟨b3, hb3⟩ : ∃ x, (p3 != y3) = x := ⟨_, rfl⟩
            obtain ⟨b4, hb4⟩ : ∃ x, decide (p4 < 0) = x := ⟨_, rfl⟩
            obtain ⟨b5, hb5⟩ : ∃ x, decide (p5 < 0) = x := ⟨_, rfl⟩
            obtain ⟨bb6, hb6⟩ : ∃ x, (p6 != tp) = x := ⟨_, rfl⟩
            obtain ⟨bb7, hb7⟩ : ∃ x, (p7 != pg) = x := ⟨_, rfl⟩
            have hpb : postBad F.post.args (F.fail fb) o.args = (((((((b0 || b1) || b2) || b3) || b4) || b5) || bb6) || bb7) := by
              unfold postBad
              rw [hp0, hp1, hp2, hp3, hp4, hp5, hp6, hp7, hy3, ← hb0, ← hb1, ← hb2, ← hb3, ← hb4, ← hb5, ← hb6, ← hb7, ← hls, ← htp, ← hpg, ← HG.out, fail_eq, fail_eq]
              simp only [bne, Bool.or_assoc]
            obtain ⟨a1, ha1⟩ : ∃ x, (b0 || b1) = x := ⟨_, rfl⟩
            obtain ⟨a2, ha2⟩ : ∃ x, (a1 || b2) = x := ⟨_, rfl⟩
            obtain ⟨a3, ha3⟩ : ∃ x, (a2 || b3) = x := ⟨_, rfl⟩
            obtain ⟨a4, ha4⟩ : ∃ x, (a3 || b4) = x := ⟨_, rfl⟩
            obtain ⟨a5, ha5⟩ : ∃ x, (a4 || b5) = x := ⟨_, rfl⟩
            obtain ⟨a6, ha6⟩ : ∃ x, (a5 || bb6) = x := ⟨_, rfl⟩
            obtain ⟨a7, ha7⟩ : ∃ x, (a6 || bb7) = x := ⟨_, rfl⟩
            rw [ha1, ha2, ha3, ha4, ha5, ha6, ha7] at hpb
            have HPB := Lib.hid hpb
            have HC := Lib.hid hcut
            have HEX := Lib.hid (Ext.refl wc).drew
            have HJ := Lib.hid (hcut.drewD.fail a7)
            have f0 := HEX.out.cell q0
            have f1' := HEX.out.cell q1
            have f2' := HEX.out.cell q2
            have f3 := HEX.out.cell q3
            have f4 := HEX.out.cell q4
            have f5 := HEX.out.cell q5
            have f6 := HEX.out.cell q6
            have f7 := HEX.out.cell q7
            have fd := HEX.out.cell d2
            have fr := HEX.out.cell r3
            have fe5 := HEX.out.cell e5
            have fe6 := HEX.out.cell e6
            have fe8 := HEX.out.cell e8
            clear q0 q1 q2 q3 q4 q5 q6 q7 d2 r3 e5 e6 e8 hpb hcut hrp hro hp8 hls htp hpg hy3 hp0 hp1 hp2 hp3 hp4 hp5 hp6 hp7
            go_upto_region 24 with fail
            go_cut [228] from 165 to 228 (fun _ wx => JAt w (pts b6 (opO o.code o.at_ (.slice (some ⟨go, oo, none⟩) o.args.length oc) ⟨o.text.toArray⟩) * own w) bf cf l.length ⟨[], ga, glo⟩ b ((G.fail fb).fail a7) wx)
            case first =>
              refine wp_region_tail (fun w' => w' = wc.drew) 63 (by kernel_rfl) (by kernel_rfl) rfl ?_
              simp only [List.take_succ_cons, List.take_zero, List.drop_succ_cons, List.drop_zero]
              obtain ⟨W9, hW9⟩ : ∃ W9, wc.drew = W9 := ⟨_, rfl⟩
              rw [hW9] at HJ f0 f1' f2' f3 f4 f5 f6 f7 fd fr fe5 fe6 fe8
              rw [hW9]
              clear hW9 HEX
              have hmv := mayV_false
              refine wpQuiet_val (v := ?_) ?_
              rotate_left 1
              intro K hK
              refine ⟨by kernel_rfl, fun w9 hw9 => ?_, ?_⟩
              · subst hw9; go_simp; try with_reducible rfl
              go_simp
              refine hK _ ?_
              clear hK K
              refine wpQuiet_val (v := ?_) ?_
              rotate_left 1
              intro K hK
              refine ⟨by kernel_rfl, fun w9 hw9 => ?_, ?_⟩
              · subst hw9; go_simp; try with_reducible rfl
              go_simp
              refine hK _ ?_
              clear hK K
              refine wpQuiet_val (v := ?_) ?_
              rotate_left 1
              intro K hK
              refine ⟨by kernel_rfl, fun w9 hw9 => ?_, ?_⟩
              · subst hw9; go_simp; try with_reducible rfl
              go_simp
              refine hK _ ?_
              clear hK K
              refine wpQuiet_val (v := ?_) ?_
              rotate_left 1
              intro K hK
              refine ⟨by kernel_rfl, fun w9 hw9 => ?_, ?_⟩
              · subst hw9; go_simp; try with_reducible rfl
              go_simp
              refine hK _ ?_
              clear hK K
              refine wpQuiet_val (v := ?_) ?_
              rotate_left 1
              intro K hK
              refine ⟨by kernel_rfl, fun w9 hw9 => ?_, ?_⟩
              · subst hw9; go_simp; try with_reducible rfl
              go_simp
              refine hK _ ?_
              clear hK K
              refine wpQuiet_val (v := ?_) ?_
              rotate_left 1
              intro K hK
              refine ⟨by kernel_rfl, fun w9 hw9 => ?_, ?_⟩
              · subst hw9; go_simp; try with_reducible rfl
              go_simp
              refine hK _ ?_
              clear hK K
              refine wpQuiet_val (v := ?_) ?_
              rotate_left 1
              intro K hK
              refine ⟨by kernel_rfl, fun w9 hw9 => ?_, ?_⟩
              · subst hw9; go_simp; try with_reducible rfl
              go_simp
              refine hK _ ?_
              clear hK K
              refine wpQuiet_val (v := ?_) ?_
              rotate_left 1
              intro K hK
              refine ⟨by kernel_rfl, fun w9 hw9 => ?_, ?_⟩
              · subst hw9; go_simp; try with_reducible rfl
              go_simp
              refine hK _ ?_
              clear hK K
              refine wpQuiet_val (v := ?_) ?_
              rotate_left 1
              intro K hK
              refine ⟨by kernel_rfl, fun w9 hw9 => ?_, ?_⟩
              · subst hw9; go_simp; try with_reducible rfl
              go_simp
              refine hK _ ?_
              clear hK K
              refine wpQuiet_val (v := ?_) ?_
              rotate_left 1
              intro K hK
              refine ⟨by kernel_rfl, fun w9 hw9 => ?_, ?_⟩
              · subst hw9; go_simp; try with_reducible rfl
              go_simp
              refine hK _ ?_
              clear hK K
              refine wpQuiet_maybe b0 (v := ?_) ?_
              rotate_left 1
              intro K hK
              refine ⟨by cases b0 <;> kernel_rfl, fun hb9 w9 hw9 => ?_, ?_⟩
              · subst hw9; go_simp; try with_reducible rfl
              go_simp
              refine hK _ ?_
              clear hK K
              refine wpQuiet_maybe b0 (v := ?_) ?_
              rotate_left 1
              intro K hK
              refine ⟨by cases b0 <;> kernel_rfl, fun hb9 w9 hw9 => ?_, ?_⟩
              · subst hw9; go_simp; try with_reducible rfl
              go_simp
              refine hK _ ?_
              clear hK K
              refine wpQuiet_maybe b0 (v := ?_) ?_
              rotate_left 1
              intro K hK
              refine ⟨by cases b0 <;> kernel_rfl, fun hb9 w9 hw9 => ?_, ?_⟩
              · subst hw9; go_simp; try with_reducible rfl
              go_simp
              refine hK _ ?_
              clear hK K
              refine wpQuiet_maybe b0 (v := ?_) ?_
              rotate_left 1
              intro K hK
              refine ⟨by cases b0 <;> kernel_rfl, fun hb9 w9 hw9 => ?_, ?_⟩
              · subst hw9; go_simp; try with_reducible rfl
              go_simp
              refine hK _ ?_
              clear hK K
              refine wpQuiet_val (v := .bool a1) ?_
              intro K hK
              refine ⟨by kernel_rfl, fun w9 hw9 => ?_, ?_⟩
              · subst hw9; cases b0 <;> (go_simp; first | done | (rw [← ha1]; rfl))
              go_simp
              refine hK _ ?_
              clear hK K
              refine wpQuiet_val (v := ?_) ?_
              rotate_left 1
              intro K hK
              refine ⟨by kernel_rfl, fun w9 hw9 => ?_, ?_⟩
              · subst hw9; go_simp; try with_reducible rfl
              go_simp
              refine hK _ ?_
              clear hK K
              refine wpQuiet_maybe a1 (v := ?_) ?_
              rotate_left 1
              intro K hK
              refine ⟨by cases a1 <;> kernel_rfl, fun hb9 w9 hw9 => ?_, ?_⟩
              · subst hw9; go_simp; try with_reducible rfl
              go_simp
              refine hK _ ?_
              clear hK K
              refine wpQuiet_maybe a1 (v := ?_) ?_
              rotate_left 1
              intro K hK
              refine ⟨by cases a1 <;> kernel_rfl, fun hb9 w9 hw9 => ?_, ?_⟩
              · subst hw9; go_simp; try with_reducible rfl
              go_simp
              refine hK _ ?_
              clear hK K
              refine wpQuiet_maybe a1 (v := ?_) ?_
              rotate_left 1
              intro K hK
              refine ⟨by cases a1 <;> kernel_rfl, fun hb9 w9 hw9 => ?_, ?_⟩
              · subst hw9; go_simp; try with_reducible rfl
              go_simp
              refine hK _ ?_
              clear hK K
              refine wpQuiet_maybe a1 (v := ?_) ?_
              rotate_left 1
              intro K hK
              refine ⟨by cases a1 <;> kernel_rfl, fun hb9 w9 hw9 => ?_, ?_⟩
              · subst hw9; go_simp; try with_reducible rfl
              go_simp
              refine hK _ ?_
              clear hK K
              refine wpQuiet_val (v := .bool a2) ?_
              intro K hK
              refine ⟨by kernel_rfl, fun w9 hw9 => ?_, ?_⟩
              · subst hw9; cases a1 <;> (go_simp; first | done | (rw [← ha2]; rfl))
              go_simp
              refine hK _ ?_
              clear hK K
              refine wpQuiet_val (v := ?_) ?_
              rotate_left 1
              intro K hK
              refine ⟨by kernel_rfl, fun w9 hw9 => ?_, ?_⟩
              · subst hw9; go_simp; try with_reducible rfl
              go_simp
              refine hK _ ?_
              clear hK K
              refine wpQuiet_maybe a2 (v := ?_) ?_
              rotate_left 1
              intro K hK
              refine ⟨by cases a2 <;> kernel_rfl, fun hb9 w9 hw9 => ?_, ?_⟩
              · subst hw9; go_simp; try with_reducible rfl
              go_simp
              refine hK _ ?_
              clear hK K
              refine wpQuiet_maybe a2 (v := ?_) ?_
              rotate_left 1
              intro K hK
              refine ⟨by cases a2 <;> kernel_rfl, fun hb9 w9 hw9 => ?_, ?_⟩
              · subst hw9; go_simp; try with_reducible rfl
              go_simp
              refine hK _ ?_
              clear hK K
              refine wpQuiet_maybe a2 (v := ?_) ?_
              rotate_left 1
              intro K hK
              refine ⟨by cases a2 <;> kernel_rfl, fun hb9 w9 hw9 => ?_, ?_⟩
              · subst hw9; go_simp; try with_reducible rfl
              go_simp
              refine hK _ ?_
              clear hK K
              refine wpQuiet_maybe a2 (v := ?_) ?_
              rotate_left 1
              intro K hK
              refine ⟨by cases a2 <;> kernel_rfl, fun hb9 w9 hw9 => ?_, ?_⟩
              · subst hw9; go_simp; try with_reducible rfl
              go_simp
              refine hK _ ?_
              clear hK K
              refine wpQuiet_maybe a2 (v := ?_) ?_
              rotate_left 1
              intro K hK
              refine ⟨by cases a2 <;> kernel_rfl, fun hb9 w9 hw9 => ?_, ?_⟩
              · subst hw9; go_simp; try with_reducible rfl
              go_simp
              refine hK _ ?_
              clear hK K
              refine wpQuiet_maybe a2 (v := ?_) ?_
              rotate_left 1
              intro K hK
              refine ⟨by cases a2 <;> kernel_rfl, fun hb9 w9 hw9 => ?_, ?_⟩
              · subst hw9; go_simp; try with_reducible rfl
              go_simp
              refine hK _ ?_
              clear hK K
              refine wpQuiet_maybe a2 (v := ?_) ?_
              rotate_left 1
              intro K hK
              refine ⟨by cases a2 <;> kernel_rfl, fun hb9 w9 hw9 => ?_, ?_⟩
              · subst hw9; go_simp; try with_reducible rfl
              go_simp
              refine hK _ ?_
              clear hK K
              refine wpQuiet_maybe a2 (v := ?_) ?_
              rotate_left 1
              intro K hK
              refine ⟨by cases a2 <;> kernel_rfl, fun hb9 w9 hw9 => ?_, ?_⟩
              · subst hw9; go_simp; try with_reducible rfl
              go_simp
              refine hK _ ?_
              clear hK K
              refine wpQuiet_val (v := .bool a3) ?_
              intro K hK
              refine ⟨by kernel_rfl, fun w9 hw9 => ?_, ?_⟩
              · subst hw9; cases a2 <;> (go_simp; first | done | (rw [← ha3]; rfl))
              go_simp
              refine hK _ ?_
              clear hK K
              refine wpQuiet_val (v := ?_) ?_
              rotate_left 1
              intro K hK
              refine ⟨by kernel_rfl, fun w9 hw9 => ?_, ?_⟩
              · subst hw9; go_simp; try with_reducible rfl
              go_simp
              refine hK _ ?_
              clear hK K
              refine wpQuiet_maybe a3 (v := ?_) ?_
              rotate_left 1
              intro K hK
              refine ⟨by cases a3 <;> kernel_rfl, fun hb9 w9 hw9 => ?_, ?_⟩
              · subst hw9; go_simp; try with_reducible rfl
              go_simp
              refine hK _ ?_
              clear hK K
              refine wpQuiet_maybe a3 (v := ?_) ?_
              rotate_left 1
              intro K hK
              refine ⟨by cases a3 <;> kernel_rfl, fun hb9 w9 hw9 => ?_, ?_⟩
              · subst hw9; go_simp; try with_reducible rfl
              go_simp
              refine hK _ ?_
              clear hK K
              refine wpQuiet_maybe a3 (v := ?_) ?_
              rotate_left 1
              intro K hK
              refine ⟨by cases a3 <;> kernel_rfl, fun hb9 w9 hw9 => ?_, ?_⟩
              · subst hw9; go_simp; try with_reducible rfl
              go_simp
              refine hK _ ?_
              clear hK K
              refine wpQuiet_maybe a3 (v := ?_) ?_
              rotate_left 1
              intro K hK
              refine ⟨by cases a3 <;> kernel_rfl, fun hb9 w9 hw9 => ?_, ?_⟩
              · subst hw9; go_simp; try with_reducible rfl
              go_simp
              refine hK _ ?_
              clear hK K
              refine wpQuiet_val (v := .bool a4) ?_
              intro K hK
              refine ⟨by kernel_rfl, fun w9 hw9 => ?_, ?_⟩
              · subst hw9; cases a3 <;> (go_simp; first | done | (rw [← ha4]; rfl))
              go_simp
              refine hK _ ?_
              clear hK K
              refine wpQuiet_val (v := ?_) ?_
              rotate_left 1
              intro K hK
              refine ⟨by kernel_rfl, fun w9 hw9 => ?_, ?_⟩
              · subst hw9; go_simp; try with_reducible rfl
              go_simp
              refine hK _ ?_
              clear hK K
              refine wpQuiet_maybe a4 (v := ?_) ?_
              rotate_left 1
              intro K hK
              refine ⟨by cases a4 <;> kernel_rfl, fun hb9 w9 hw9 => ?_, ?_⟩
              · subst hw9; go_simp; try with_reducible rfl
              go_simp
              refine hK _ ?_
              clear hK K
              refine wpQuiet_maybe a4 (v := ?_) ?_
              rotate_left 1
              intro K hK
              refine ⟨by cases a4 <;> kernel_rfl, fun hb9 w9 hw9 => ?_, ?_⟩
              · subst hw9; go_simp; try with_reducible rfl
              go_simp
              refine hK _ ?_
              clear hK K
              refine wpQuiet_maybe a4 (v := ?_) ?_
              rotate_left 1
              intro K hK
              refine ⟨by cases a4 <;> kernel_rfl, fun hb9 w9 hw9 => ?_, ?_⟩
              · subst hw9; go_simp; try with_reducible rfl
              go_simp
              refine hK _ ?_
              clear hK K
              refine wpQuiet_maybe a4 (v := ?_) ?_
              rotate_left 1
              intro K hK
              refine ⟨by cases a4 <;> kernel_rfl, fun hb9 w9 hw9 => ?_, ?_⟩
              · subst hw9; go_simp; try with_reducible rfl
              go_simp
              refine hK _ ?_
              clear hK K
              refine wpQuiet_val (v := .bool a5) ?_
              intro K hK
              refine ⟨by kernel_rfl, fun w9 hw9 => ?_, ?_⟩
              · subst hw9; cases a4 <;> (go_simp; first | done | (rw [← ha5]; rfl))
              go_simp
              refine hK _ ?_
              clear hK K
              refine wpQuiet_val (v := ?_) ?_
              rotate_left 1
              intro K hK
              refine ⟨by kernel_rfl, fun w9 hw9 => ?_, ?_⟩
              · subst hw9; go_simp; try with_reducible rfl
              go_simp
              refine hK _ ?_
              clear hK K
              refine wpQuiet_maybe a5 (v := ?_) ?_
              rotate_left 1
              intro K hK
              refine ⟨by cases a5 <;> kernel_rfl, fun hb9 w9 hw9 => ?_, ?_⟩
              · subst hw9; go_simp; try with_reducible rfl
              go_simp
              refine hK _ ?_
              clear hK K
              refine wpQuiet_maybe a5 (v := ?_) ?_
              rotate_left 1
              intro K hK
              refine ⟨by cases a5 <;> kernel_rfl, fun hb9 w9 hw9 => ?_, ?_⟩
              · subst hw9; go_simp; try with_reducible rfl
              go_simp
              refine hK _ ?_
              clear hK K
              refine wpQuiet_maybe a5 (v := ?_) ?_
              rotate_left 1
              intro K hK
              refine ⟨by cases a5 <;> kernel_rfl, fun hb9 w9 hw9 => ?_, ?_⟩
              · subst hw9; go_simp; try with_reducible rfl
              go_simp
              refine hK _ ?_
              clear hK K
              refine wpQuiet_maybe a5 (v := ?_) ?_
              rotate_left 1
              intro K hK
              refine ⟨by cases a5 <;> kernel_rfl, fun hb9 w9 hw9 => ?_, ?_⟩
              · subst hw9; go_simp; try with_reducible rfl
              go_simp
              refine hK _ ?_
              clear hK K
              refine wpQuiet_maybe a5 (v := ?_) ?_
              rotate_left 1
              intro K hK
              refine ⟨by cases a5 <;> kernel_rfl, fun hb9 w9 hw9 => ?_, ?_⟩
              · subst hw9; go_simp; try with_reducible rfl
              go_simp
              refine hK _ ?_
              clear hK K
              refine wpQuiet_maybe a5 (v := ?_) ?_
              rotate_left 1
              intro K hK
              refine ⟨by cases a5 <;> kernel_rfl, fun hb9 w9 hw9 => ?_, ?_⟩
              · subst hw9; go_simp; try with_reducible rfl
              go_simp
              refine hK _ ?_
              clear hK K
              refine wpQuiet_maybe a5 (v := ?_) ?_
              rotate_left 1
              intro K hK
              refine ⟨by cases a5 <;> kernel_rfl, fun hb9 w9 hw9 => ?_, ?_⟩
              · subst hw9; go_simp; try with_reducible rfl
              go_simp
              refine hK _ ?_
              clear hK K
              refine wpQuiet_maybe a5 (v := ?_) ?_
              rotate_left 1
              intro K hK
              refine ⟨by cases a5 <;> kernel_rfl, fun hb9 w9 hw9 => ?_, ?_⟩
              · subst hw9; go_simp; try with_reducible rfl
              go_simp
              refine hK _ ?_
              clear hK K
              refine wpQuiet_val (v := .bool a6) ?_
              intro K hK
              refine ⟨by kernel_rfl, fun w9 hw9 => ?_, ?_⟩
              · subst hw9; cases a5 <;> (go_simp; first | done | (rw [← ha6]; rfl))
              go_simp
              refine hK _ ?_
              clear hK K
              refine wpQuiet_val (v := ?_) ?_
              rotate_left 1
              intro K hK
              refine ⟨by kernel_rfl, fun w9 hw9 => ?_, ?_⟩
              · subst hw9; go_simp; try with_reducible rfl
              go_simp
              refine hK _ ?_
              clear hK K
              refine wpQuiet_maybe a6 (v := ?_) ?_
              rotate_left 1
              intro K hK
              refine ⟨by cases a6 <;> kernel_rfl, fun hb9 w9 hw9 => ?_, ?_⟩
              · subst hw9; go_simp; try with_reducible rfl
              go_simp
              refine hK _ ?_
              clear hK K
              refine wpQuiet_maybe a6 (v := ?_) ?_
              rotate_left 1
              intro K hK
              refine ⟨by cases a6 <;> kernel_rfl, fun hb9 w9 hw9 => ?_, ?_⟩
              · subst hw9; go_simp; try with_reducible rfl
              go_simp
              refine hK _ ?_
              clear hK K
              refine wpQuiet_maybe a6 (v := ?_) ?_
              rotate_left 1
              intro K hK
              refine ⟨by cases a6 <;> kernel_rfl, fun hb9 w9 hw9 => ?_, ?_⟩
              · subst hw9; go_simp; try with_reducible rfl
              go_simp
              refine hK _ ?_
              clear hK K
              refine wpQuiet_maybe a6 (v := ?_) ?_
              rotate_left 1
              intro K hK
              refine ⟨by cases a6 <;> kernel_rfl, fun hb9 w9 hw9 => ?_, ?_⟩
              · subst hw9; go_simp; try with_reducible rfl
              go_simp
              refine hK _ ?_
              clear hK K
              refine wpQuiet_maybe a6 (v := ?_) ?_
              rotate_left 1
              intro K hK
              refine ⟨by cases a6 <;> kernel_rfl, fun hb9 w9 hw9 => ?_, ?_⟩
              · subst hw9; go_simp; try with_reducible rfl
              go_simp
              refine hK _ ?_
              clear hK K
              refine wpQuiet_maybe a6 (v := ?_) ?_
              rotate_left 1
              intro K hK
              refine ⟨by cases a6 <;> kernel_rfl, fun hb9 w9 hw9 => ?_, ?_⟩
              · subst hw9; go_simp; try with_reducible rfl
              go_simp
              refine hK _ ?_
              clear hK K
              refine wpQuiet_maybe a6 (v := ?_) ?_
              rotate_left 1
              intro K hK
              refine ⟨by cases a6 <;> kernel_rfl, fun hb9 w9 hw9 => ?_, ?_⟩
              · subst hw9; go_simp; try with_reducible rfl
              go_simp
              refine hK _ ?_
              clear hK K
              refine wpQuiet_maybe a6 (v := ?_) ?_
              rotate_left 1
              intro K hK
              refine ⟨by cases a6 <;> kernel_rfl, fun hb9 w9 hw9 => ?_, ?_⟩
              · subst hw9; go_simp; try with_reducible rfl
              go_simp
              refine hK _ ?_
              clear hK K
              refine wpQuiet_val (v := .bool a7) ?_
              intro K hK
              refine ⟨by kernel_rfl, fun w9 hw9 => ?_, ?_⟩
              · subst hw9; cases a6 <;> (go_simp; first | done | (rw [← ha7]; rfl))
              go_simp
              refine hK _ ?_
              clear hK K
              refine wpQuiet_nil ?_
              clear hmv ha1 ha2 ha3 ha4 ha5 ha6 ha7 hb0 hb1 hb2 hb3 hb4 hb5 hb6 hb7 f0 f1' f2' f3 f4 f5 f6 f7 fd fr fe5 fe6 fe8
              rintro w17 rfl
              go_wp2_with fail
              with_reducible refine Calls.mono HJ.out ?_
              rintro e w6 ⟨rfl, h6⟩
              have H6 := Lib.hid h6
              clear h6
              go_wp2
              go_meet
              exact H6.out
            case rest =>
              obtain ⟨c, hc⟩ : ∃ c : Bool, (!((((F.fail fb).fail a7).again.length : Int) == (((F.fail fb).fail a7).nf : Int))) = c := ⟨_, rfl⟩
              have hlm : lastM l o f2 F2 = ((F.fail fb).fail a7).fail c := by
                unfold lastM
                simp only
                rw [← HF3.out, HFB.out, show (F2.post.args : List Int) = F.post.args by rw [HF3.out, fail_eq], HPB.out, hc]
              have hgk : ((G.fail fb).fail a7).fail c = { ((F.fail fb).fail a7).fail c with keep := (F.post, .slice (some ⟨gp, po, none⟩) 8 cp) :: F.keep } := by rw [← HG.out]; simp only [fail_eq]
              have hk0 : (((F.fail fb).fail a7).fail c).keep = F.keep := by simp only [fail_eq]
              have hgl : ((G.fail fb).fail a7).again = ((F.fail fb).fail a7).again ∧ ((G.fail fb).fail a7).nf = ((F.fail fb).fail a7).nf := by
                refine ⟨?_, ?_⟩ <;> (rw [← HG.out]; simp only [fail_eq])
              have hbw := HB3.out
              simp only [hlm] at hbw
              have HB4 := Lib.hid hbw
              obtain ⟨la, lc, lb, l1, l2, l3⟩ := hcut.lens
              rw [hgl.1] at l1
              rw [hgl.2] at l3
              have HJ := Lib.hid (hcut.drewD.fail c)
              have HGK := Lib.hid hgk
              have HK0 := Lib.hid hk0
              have HEX := Lib.hid (Ext.refl wc).drew
              obtain ⟨n1, hn1⟩ : ∃ x, ((F.fail fb).fail a7).again.length = x := ⟨_, rfl⟩
              obtain ⟨n2, hn2⟩ : ∃ x, ((F.fail fb).fail a7).nf = x := ⟨_, rfl⟩
              rw [hn1] at l1 hc
              rw [hn2] at l3 hc
              have l4 := HEX.out.cell l1
              have l5 := HEX.out.cell l2
              have l6 : ∀ ty, (Builtin.len_ #[75] ty #[.map (some lb)]).run Try.prog wc.drew = .ok (.int .i64 n2) wc.drew := by
                obtain ⟨_, _, lb', _, l8, l9⟩ := hcut.drewD.lens
                rw [l5] at l8
                cases l8
                rw [hgl.2, hn2] at l9
                exact l9
              have hcc : ((n1 : Int) != (n2 : Int)) = c := hc
              clear hlm hgk hk0 hgl hbw l1 l2 l3 hc hn1 hn2 hcut hb0 hb1 hb2 hb3 hb4 hb5 hb6 hb7 ha1 ha2 ha3 ha4 ha5 ha6 ha7 f0 f1' f2' f3 f4 f5 f6 f7 fd fr fe5 fe6 fe8
              go_upto_region 25 with fail
              refine wp_region_tail (fun w' => w' = wc.drew) 12 (by kernel_rfl) (by kernel_rfl) rfl ?_
              simp only [List.take_succ_cons, List.take_zero, List.drop_succ_cons, List.drop_zero]
              obtain ⟨W9, hW9⟩ : ∃ W9, wc.drew = W9 := ⟨_, rfl⟩
              rw [hW9] at HJ l4 l5 l6
              rw [hW9]
              clear hW9 HEX
              refine wpQuiet_val (v := ?_) ?_
              rotate_left 1
              intro K hK
              refine ⟨by kernel_rfl, fun w9 hw9 => ?_, ?_⟩
              · subst hw9; go_simp; try with_reducible rfl
              go_simp
              refine hK _ ?_
              clear hK K
              refine wpQuiet_val (v := ?_) ?_
              rotate_left 1
              intro K hK
              refine ⟨by kernel_rfl, fun w9 hw9 => ?_, ?_⟩
              · subst hw9; go_simp; try with_reducible rfl
              go_simp
              refine hK _ ?_
              clear hK K
              refine wpQuiet_val (v := ?_) ?_
              rotate_left 1
              intro K hK
              refine ⟨by kernel_rfl, fun w9 hw9 => ?_, ?_⟩
              · subst hw9; go_simp; try with_reducible rfl
              go_simp
              refine hK _ ?_
              clear hK K
              refine wpQuiet_val (v := ?_) ?_
              rotate_left 1
              intro K hK
              refine ⟨by kernel_rfl, fun w9 hw9 => ?_, ?_⟩
              · subst hw9; go_simp; try with_reducible rfl
              go_simp
              refine hK _ ?_
              clear hK K
              refine wpQuiet_val (v := ?_) ?_
              rotate_left 1
              intro K hK
              refine ⟨by kernel_rfl, fun w9 hw9 => ?_, ?_⟩
              · subst hw9; go_simp; try with_reducible rfl
              go_simp
              refine hK _ ?_
              clear hK K
              refine wpQuiet_val (v := ?_) ?_
              rotate_left 1
              intro K hK
              refine ⟨by kernel_rfl, fun w9 hw9 => ?_, ?_⟩
              · subst hw9; go_simp; try with_reducible rfl
              go_simp
              refine hK _ ?_
              clear hK K
              refine wpQuiet_val (v := ?_) ?_
              rotate_left 1
              intro K hK
              refine ⟨by kernel_rfl, fun w9 hw9 => ?_, ?_⟩
              · subst hw9; go_simp; try with_reducible rfl
              go_simp
              refine hK _ ?_
              clear hK K
              refine wpQuiet_val (v := ?_) ?_
              rotate_left 1
              intro K hK
              refine ⟨by kernel_rfl, fun w9 hw9 => ?_, ?_⟩
              · subst hw9; go_simp; try with_reducible rfl
              go_simp
              refine hK _ ?_
              clear hK K
              refine wpQuiet_val (v := ?_) ?_
              rotate_left 1
              intro K hK
              refine ⟨by kernel_rfl, fun w9 hw9 => ?_, ?_⟩
              · subst hw9; go_simp; try with_reducible rfl
              go_simp
              refine hK _ ?_
              clear hK K
              refine wpQuiet_val (v := ?_) ?_
              rotate_left 1
              intro K hK
              refine ⟨by kernel_rfl, fun w9 hw9 => ?_, ?_⟩
              · subst hw9; go_simp; try with_reducible rfl
              go_simp
              refine hK _ ?_
              clear hK K
              refine wpQuiet_val (v := ?_) ?_
              rotate_left 1
              intro K hK
              refine ⟨by kernel_rfl, fun w9 hw9 => ?_, ?_⟩
              · subst hw9; go_simp; try with_reducible rfl
              go_simp
              refine hK _ ?_
              clear hK K
              refine wpQuiet_val (v := ?_) ?_
              rotate_left 1
              intro K hK
              refine ⟨by kernel_rfl, fun w9 hw9 => ?_, ?_⟩
              · subst hw9; go_simp; try with_reducible rfl
              go_simp
              refine hK _ ?_
              clear hK K
              refine wpQuiet_nil ?_
              clear l4 l5 l6 hcc
              rintro w17 rfl
              go_wp2_with fail
              with_reducible refine Calls.mono HJ.out ?_
              rintro e w6 ⟨rfl, h6⟩
              have H6 := Lib.hid h6
              clear h6 HJ
              go_upto_region 26 with fail
              obtain ⟨-, -, -, c15⟩ := H6.out.cells
              obtain ⟨bd, hbd⟩ : ∃ x, (((G.fail fb).fail a7).fail c).bad = x := ⟨_, rfl⟩
              have hbd2 : (((F.fail fb).fail a7).fail c).bad = bd := by rw [← hbd, HGK.out]
              rw [hbd] at c15
              have HBD := Lib.hid hbd2
              clear hbd hbd2
              cases bd with
              | true =>
                go_wp2_with fail
                (try rw [Exit.noGoto_ret])
                go_ret2
                exact .inr (.inl ⟨HLE.out, ⟨_, by rw [HB4.out, HBD.out]; rfl⟩, rfl, H6.out.sat.r⟩)
              | false =>
                go_wp2_with fail
                (try rw [Exit.noGoto_ret])
                go_ret2
                refine .inr (.inr ⟨HLE.out, _, _, b, by rw [HB4.out, HBD.out]; rfl, rfl, ?_⟩)
                have h7 := H6.out.file.less
                rw [HGK.out] at h7
                exact h7.keep_less fun x hx => by rw [HK0.out] at hx; exact List.mem_cons_of_mem _ hx

end Go.Proofs.Ytjeinldhbajknaa
