/- The program's words of a step and its text. Itoa wants the table of powers of ten. -/
import Derived.Test.YtcdfomoglkhboaaGreatDoorTs
import Derived.Test.YtcdfomoglkhboaaGreatDoorKinds
import Derived.Test.YtcdfomoglkhboaaGreatDoorTxE
import Derived.Test.YtcdfomoglkhboaaGreatDoorCode
import Derived.Test.YtcdfomoglkhboaaGreatDoorLawInsOk
import Derived.Test.YtcdfomoglkhboaaGreatDoorShelf
namespace Go.Proofs.YtcdfomoglkhboaaGreatDoor
open Go.RowKit Go.Lib
set_option linter.unusedVariables false
set_option linter.unusedSimpArgs false
attribute [local go_sem] ext_cell ext_frozen ext_lt ext_le ext_le1 lt_s2 lt_s3 lt_s4 lt_s5 lt_s6 ext_lt1 ext_lt2 ext_lt3
attribute [local go_sem] ByteArray.mk_append_mk
attribute [local go_sem] asArith asNotArith asNilArith asAny asNotAny asNilAny asLoad asNotLoad asNilLoad asStore asNotStore asNilStore asIf asNotIf asNilIf asJump asNotJump asNilJump asCall asNotCall asNilCall asAssert asNotAssert asNilAssert asRet asNotRet asNilRet

/-- The table that Itoa reads. -/
def Tab (w : World) : Prop := Lib.TabIs Tryz.prog w "internal/strconv.uint64pow10" .u64 Lib.pow10Tab
theorem gTab : Tryz.prog.globalNamed "internal/strconv.uint64pow10" = some 1 := by kernel_rfl
theorem Tab.grew {w w' : World} (h : Tab w) (g : Grew w w') : Tab w' := by
  unfold Tab Lib.TabIs World.var? at *
  rw [gTab] at h ⊢
  simp only [Option.bind_some] at h ⊢
  have hlt : 1 < w.heap.size := by
    rcases Nat.lt_or_ge 1 w.heap.size with h' | h'
    · exact h'
    · rw [Array.getElem?_eq_none h'] at h; cases h
  rw [g.block _ hlt]
  exact h
theorem grew_grow (w : World) (k : Nat) (os : Array Obj) : Grew w (Go.Sort.grow (w.drewN k) os) :=
  ⟨rfl, rfl, rfl, by simp [Go.Sort.grow], fun j hj => by simp [Go.Sort.grow, Array.getElem?_append, hj]⟩
theorem implItoa (n : Int) (w : World) (h0 : -9223372036854775808 ≤ n) (h1 : n ≤ 9223372036854775807) (T : Tab w) :
    Calls Tryz.prog 27 #[.int .i64 n] w fun e w' => e = .returned (.string ⟨(itoa n).toArray⟩) ∧ Grew w w' :=
  (Tryz.strconv_Itoa n h0 h1 w T).mono fun e w' ⟨he, k, os, hw⟩ => ⟨he, by rw [hw]; exact grew_grow w k os⟩
theorem implNumText (n : Int) (w : World) (h : numOkB n = true) (T : Tab w) :
    Calls Tryz.prog 28 #[.int .i64 n] w fun e w' => e = .returned (.string ⟨(itoa n).toArray⟩) ∧ Grew w w' := by
  have hb := numOkB_iff.1 h
  have HCN : Hid (∀ w, Calls Tryz.prog 32 #[.int .i64 n] w fun e w' => e = .returned (.bool true) ∧ w = w') := Lib.hid fun w => bool_is (implNumOk n w) h
  have CI := Lib.hid fun w T => implItoa n w (by omega) (by omega) T
  have HT := Lib.hid T
  clear h hb T
  go_enter Tryz.func28, Tryz.ntmps28
  go_wp2_with (first | ((with_reducible refine (HCN.out _).mono ?_); rintro e w' ⟨rfl, rfl⟩) | ((with_reducible refine (CI.out _ HT.out).mono ?_); rintro e w' ⟨rfl, g'⟩; (first | obtain ⟨x, rfl⟩ := ext_cold g' | obtain ⟨x, rfl⟩ := ext_col g' | obtain ⟨x, rfl⟩ := ext_of g'); clear g'))
  go_ret
  exact ⟨rfl, gr⟩
def arithL : List (List UInt8) := [[], [97, 100, 100], [115, 117, 98], [109, 117, 108], [100, 105, 118]]
theorem implArith (w : World) : Calls Tryz.prog 88 #[] w fun e w' => ∃ v, e = .returned v ∧ RowS 0 5 5 arithL w' v ∧ Grew w w' := by
  go_enter Tryz.func88, Tryz.ntmps88
  go_wp2
  go_ret
  exact ⟨_, rfl, rowS_new, gr⟩
theorem implRels (w : World) : Calls Tryz.prog 95 #[] w fun e w' => ∃ v, e = .returned v ∧ RowS 0 5 5 relsL w' v ∧ Grew w w' := by
  go_enter Tryz.func95, Tryz.ntmps95
  go_wp2
  go_ret
  exact ⟨_, rfl, rowS_new, gr⟩
theorem rowS_newG {w W : World} {n : Nat} {xs : List (List UInt8)} {T : TypeId} {cs : Array Value} (g : Grew w W) (hcs : cs = (xs.map fun x => Value.string ⟨x.toArray⟩).toArray) : RowS w.heap.size n n xs (W.alloc (.cells cs T)) (.slice (some ⟨W.heap.size, 0, none⟩) n n) :=
  ⟨_, rfl, g.size, by simp, fun j x hx => row_cell hx hcs⟩
theorem rowS_newH {w W : World} {b n : Nat} {xs : List (List UInt8)} {T : TypeId} {cs : Array Value} (hb : b = W.heap.size) (g : Grew w W) (hcs : cs = (xs.map fun x => Value.string ⟨x.toArray⟩).toArray) : RowS w.heap.size n n xs (W.alloc (.cells cs T)) (.slice (some ⟨b, 0, none⟩) n n) :=
  hb ▸ rowS_newG g hcs
theorem w_build {P : Program} {ops : Array Oper} {Q : Exit → Act → World → Prop} {a0 : Act} {wo : World} {l : List Pg} {i : Nat} {o : Oper} (T : TypeId) (n : Nat) (parts : Array (Nat × Operand)) (hop : o.op = .buildSlice T n parts) (vs : Array (Nat × Value)) (cs : Array Value) (E : TypeId)
    (h : ∀ A W, GAt ops a0 wo l o A W → parts.map (fun x => (x.1, A.eval x.2)) = vs) (hb : ∀ W, (Instr.buildSlice T n vs).run P W = .ok (.slice (some ⟨W.heap.size, 0, none⟩) n n) (W.alloc (.cells cs E)))
    {B : Nat} {xs : List (List UInt8)} (hl : l.getD i pgT = pgS B n n xs) (hB : B ≤ wo.heap.size) (hcs : cs = (xs.map fun x => Value.string ⟨x.toArray⟩).toArray) : WStep P ops Q a0 wo l i o := by
  refine w_ex fun A W hA => ⟨.slice (some ⟨W.heap.size, 0, none⟩) n n, W.alloc (.cells cs E), ?_, ?_, grew_al (Below.refl _ _) _⟩
  · have h1 := h A W hA
    simp only [execOp, hop]
    have h1' : (Array.map (fun x => match x with | (i, x) => (i, A.eval x)) parts) = vs := h1
    rw [h1']
    simp only [Sem.run_bind, hb, Result.andThen_ok, Sem.run_pure]
  · rw [hl]
    exact ⟨_, rfl, Nat.le_trans hB hA.grew.size, by simp, fun j x hx => row_cell hx hcs⟩
theorem let_world {P : Program} {c : Code} {Q : Exit → Act → World → Prop} {a : Act} {W : World} (h : ∀ E, E = W → c.wp P Q a E) : c.wp P Q a W := h W rfl

set_option maxRecDepth 100000 in
set_option maxHeartbeats 4000000 in
theorem words1 (d a b rel lo hi tv procs size : Int) (w : World) (hok : insOkB ⟨(1 : Int), d, a, b, rel, lo, hi, tv⟩ procs size = true) (hto : tv ≤ 9223372036854775807) (T : Tab w) :
    Calls Tryz.prog 42 #[Ins.v ⟨(1 : Int), d, a, b, rel, lo, hi, tv⟩] w fun e w' => ∃ v, e = .returned v ∧ RowS w.heap.size 4 4 (wordsI ⟨(1 : Int), d, a, b, rel, lo, hi, tv⟩) w' v ∧ Grew w w' := by
  obtain ⟨-, vd, va, vb, hr, hl, h0⟩ := okFacts hok
  have CD := Lib.hid fun w => implVar d w vd
  have CA := Lib.hid fun w => implVar a w va
  have CB := Lib.hid fun w => implVar b w vb
  have HT := Lib.hid T
  clear vd va vb hok hto T hr hl h0
  have CO : Hid (∀ w, Calls Tryz.prog 47 #[Ins.v ⟨(1 : Int), d, a, b, rel, lo, hi, tv⟩] w fun e w' => e = .returned (.iface 143 (.agg #[.int .i64 (1 : Int), .int .i64 d, .int .i64 a, .int .i64 b])) ∧ Grew w w') := Lib.hid (fun w => codeOf ⟨(1 : Int), d, a, b, rel, lo, hi, tv⟩ w)
  go_enter Tryz.func42, Tryz.ntmps42
  go_wp2_with ((with_reducible refine (CO.out _).mono ?_); rintro e w' ⟨rfl, g'⟩; (first | obtain ⟨x, rfl⟩ := ext_cold g' | obtain ⟨x, rfl⟩ := ext_col g' | obtain ⟨x, rfl⟩ := ext_of g'); clear g')
  refine let_world ?_
  intro E hE
  obtain ⟨g, hg⟩ : ∃ g, g = (ext (w.alloc (.cells #[.int .i64 (1 : Int), .int .i64 d, .int .i64 a, .int .i64 b, .int .i64 rel, .int .i64 lo, .int .i64 hi, .int .i64 tv] 38)) x).heap.size := ⟨_, rfl⟩
  rw [← hg]
  have q0 : E.cell? ⟨g, 0, none⟩ = some (.int .i64 (1 : Int)) := by rw [hE, hg]; simp [go_sem]
  have q1 : E.cell? ⟨g, 1, none⟩ = some (.int .i64 d) := by rw [hE, hg]; simp [go_sem]
  have q2 : E.cell? ⟨g, 2, none⟩ = some (.int .i64 a) := by rw [hE, hg]; simp [go_sem]
  have q3 : E.cell? ⟨g, 3, none⟩ = some (.int .i64 b) := by rw [hE, hg]; simp [go_sem]
  have GE : Grew w E := by rw [hE]; exact gr
  have HGE := Lib.hid GE
  clear hE GE hg x
  refine region_w 137 [pgS (0) (5) (5) (arithL), pgV (.pointer (some ⟨g, 0, none⟩)), pgV (.int .i64 (1 : Int)), pgP (nameT (1 : Int)), pgV (.string ⟨(nameT (1 : Int) : List UInt8).toArray⟩), pgV (.pointer (some ⟨g, 1, none⟩)), pgV (.int .i64 d), pgV (.string ⟨(varT d : List UInt8).toArray⟩), pgV (.pointer (some ⟨g, 2, none⟩)), pgV (.int .i64 a), pgV (.string ⟨(varT a : List UInt8).toArray⟩), pgV (.pointer (some ⟨g, 3, none⟩)), pgV (.int .i64 b), pgV (.string ⟨(varT b : List UInt8).toArray⟩), pgS (w.heap.size) (4) (4) ([nameT (1 : Int), varT d, varT a, varT b]), pgS (w.heap.size) (4) (4) ([nameT (1 : Int), varT d, varT a, varT b])] (by kernel_rfl) rfl (by kernel_rfl) ⟨?_, ?_, ?_, ?_, ?_, ?_, ?_, ?_, ?_, ?_, ?_, ?_, ?_, ?_, ?_, ?_, trivial⟩ ?_
  · exact w_callX (fun A W h => by
    refine Eq.trans (b := .ok (.enter 88 #[]) W) (by kernel_rfl) ?_
    rfl) (fun W hW => implArith W)
  · exact w_vx (v := .pointer (some ⟨g, 0, none⟩)) rfl (fun A W h => by
    have e3 : A.eval (.tmp 3) = .pointer (some ⟨g, 0, none⟩) := (h.slot 3).trans rfl
    simp only [execOp, e3]
    first | (simp [go_sem]; done) | rfl | kernel_rfl)
  · exact w_vx (v := .int .i64 (1 : Int)) rfl (fun A W h => by
    have e18 : A.eval (.tmp 18) = .pointer (some ⟨g, 0, none⟩) := h.vb 1 18
    have k0 := gk h.grew q0
    simp only [execOp, e18]
    simp [go_sem, k0])
  · exact w_ex (fun A W h => by
    obtain ⟨y17, e17, hB17, hlt17, hc17⟩ := h.vb 0 17
    have e19 : A.eval (.tmp 19) = .int .i64 (1 : Int) := h.vb 2 19
    exact ⟨.pointer (some ⟨y17, 1, none⟩), W, by (simp only [execOp, e17, e19]; simp [go_sem] <;> (intro hge; omega)), ⟨_, rfl, hc17 1 _ rfl⟩, Below.refl _ _⟩)
  · exact w_vx (v := .string ⟨(nameT (1 : Int) : List UInt8).toArray⟩) rfl (fun A W h => by
    obtain ⟨y20, e20, hc20⟩ := h.vb 3 20
    simp only [execOp, e20]
    simp [go_sem, hc20])
  · exact w_vx (v := .pointer (some ⟨g, 1, none⟩)) rfl (fun A W h => by
    have e3 : A.eval (.tmp 3) = .pointer (some ⟨g, 0, none⟩) := (h.slot 3).trans rfl
    simp only [execOp, e3]
    first | (simp [go_sem]; done) | rfl | kernel_rfl)
  · exact w_vx (v := .int .i64 d) rfl (fun A W h => by
    have e22 : A.eval (.tmp 22) = .pointer (some ⟨g, 1, none⟩) := h.vb 5 22
    have k0 := gk h.grew q1
    simp only [execOp, e22]
    simp [go_sem, k0])
  · exact w_call (v := .string ⟨(varT d : List UInt8).toArray⟩) rfl (fun A W h => by
    have e23 : A.eval (.tmp 23) = .int .i64 d := h.vb 6 23
    refine Eq.trans (b := .ok (.enter 94 #[A.eval (.tmp 23)]) W) (by kernel_rfl) ?_
    rw [e23]) (fun W hW => same_grew (CD.out W))
  · exact w_vx (v := .pointer (some ⟨g, 2, none⟩)) rfl (fun A W h => by
    have e3 : A.eval (.tmp 3) = .pointer (some ⟨g, 0, none⟩) := (h.slot 3).trans rfl
    simp only [execOp, e3]
    first | (simp [go_sem]; done) | rfl | kernel_rfl)
  · exact w_vx (v := .int .i64 a) rfl (fun A W h => by
    have e25 : A.eval (.tmp 25) = .pointer (some ⟨g, 2, none⟩) := h.vb 8 25
    have k0 := gk h.grew q2
    simp only [execOp, e25]
    simp [go_sem, k0])
  · exact w_call (v := .string ⟨(varT a : List UInt8).toArray⟩) rfl (fun A W h => by
    have e26 : A.eval (.tmp 26) = .int .i64 a := h.vb 9 26
    refine Eq.trans (b := .ok (.enter 94 #[A.eval (.tmp 26)]) W) (by kernel_rfl) ?_
    rw [e26]) (fun W hW => same_grew (CA.out W))
  · exact w_vx (v := .pointer (some ⟨g, 3, none⟩)) rfl (fun A W h => by
    have e3 : A.eval (.tmp 3) = .pointer (some ⟨g, 0, none⟩) := (h.slot 3).trans rfl
    simp only [execOp, e3]
    first | (simp [go_sem]; done) | rfl | kernel_rfl)
  · exact w_vx (v := .int .i64 b) rfl (fun A W h => by
    have e28 : A.eval (.tmp 28) = .pointer (some ⟨g, 3, none⟩) := h.vb 11 28
    have k0 := gk h.grew q3
    simp only [execOp, e28]
    simp [go_sem, k0])
  · exact w_call (v := .string ⟨(varT b : List UInt8).toArray⟩) rfl (fun A W h => by
    have e29 : A.eval (.tmp 29) = .int .i64 b := h.vb 12 29
    refine Eq.trans (b := .ok (.enter 94 #[A.eval (.tmp 29)]) W) (by kernel_rfl) ?_
    rw [e29]) (fun W hW => same_grew (CB.out W))
  · exact w_build _ 4 _ rfl #[(0, .string ⟨(nameT (1 : Int) : List UInt8).toArray⟩), (1, .string ⟨(varT d : List UInt8).toArray⟩), (2, .string ⟨(varT a : List UInt8).toArray⟩), (3, .string ⟨(varT b : List UInt8).toArray⟩)] #[.string ⟨(nameT (1 : Int) : List UInt8).toArray⟩, .string ⟨(varT d : List UInt8).toArray⟩, .string ⟨(varT a : List UInt8).toArray⟩, .string ⟨(varT b : List UInt8).toArray⟩] 9 (fun A W h => by
    have e21 : A.eval (.tmp 21) = .string ⟨(nameT (1 : Int) : List UInt8).toArray⟩ := h.vb 4 21
    have e24 : A.eval (.tmp 24) = .string ⟨(varT d : List UInt8).toArray⟩ := h.vb 7 24
    have e27 : A.eval (.tmp 27) = .string ⟨(varT a : List UInt8).toArray⟩ := h.vb 10 27
    have e30 : A.eval (.tmp 30) = .string ⟨(varT b : List UInt8).toArray⟩ := h.vb 13 30
    simp only [List.map_toArray, List.map_cons, List.map_nil, evalK, e21, e24, e27, e30]) (fun W => by simp [go_sem]) rfl (HGE.out.size) rfl
  · exact w_ex (fun A W h => by
    obtain ⟨y31, e31, hB31, hlt31, hc31⟩ := h.vb 14 31
    exact ⟨_, W, by simp only [execOp, e31]; rfl, ⟨_, rfl, hB31, hlt31, hc31⟩, Below.refl _ _⟩)
  intro vs w9 g9 hR
  obtain ⟨z0, x0, zB0, zl0, zc0⟩ := hR 0 17 (by kernel_rfl)
  have x1 : vs 1 = .pointer (some ⟨g, 0, none⟩) := hR 1 18 (by kernel_rfl)
  have x2 : vs 2 = .int .i64 (1 : Int) := hR 2 19 (by kernel_rfl)
  obtain ⟨z3, x3, _⟩ := hR 3 20 (by kernel_rfl)
  have x4 : vs 4 = .string ⟨(nameT (1 : Int) : List UInt8).toArray⟩ := hR 4 21 (by kernel_rfl)
  have x5 : vs 5 = .pointer (some ⟨g, 1, none⟩) := hR 5 22 (by kernel_rfl)
  have x6 : vs 6 = .int .i64 d := hR 6 23 (by kernel_rfl)
  have x7 : vs 7 = .string ⟨(varT d : List UInt8).toArray⟩ := hR 7 24 (by kernel_rfl)
  have x8 : vs 8 = .pointer (some ⟨g, 2, none⟩) := hR 8 25 (by kernel_rfl)
  have x9 : vs 9 = .int .i64 a := hR 9 26 (by kernel_rfl)
  have x10 : vs 10 = .string ⟨(varT a : List UInt8).toArray⟩ := hR 10 27 (by kernel_rfl)
  have x11 : vs 11 = .pointer (some ⟨g, 3, none⟩) := hR 11 28 (by kernel_rfl)
  have x12 : vs 12 = .int .i64 b := hR 12 29 (by kernel_rfl)
  have x13 : vs 13 = .string ⟨(varT b : List UInt8).toArray⟩ := hR 13 30 (by kernel_rfl)
  obtain ⟨z14, x14, zB14, zl14, zc14⟩ := hR 14 31 (by kernel_rfl)
  obtain ⟨z15, x15, zB15, zl15, zc15⟩ := hR 15 2 (by kernel_rfl)
  simp only [putAll, Act.put, List.setIfInBounds_toArray, List.set_cons_zero, List.set_cons_succ, Nat.zero_add, Nat.reduceAdd, x0, x1, x2, x3, x4, x5, x6, x7, x8, x9, x10, x11, x12, x13, x14, x15]
  clear hR x0 x1 x2 x3 x4 x5 x6 x7 x8 x9 x10 x11 x12 x13 x14 x15
  clear q0 q1 q2 q3
  have HG9 := Lib.hid (grew_tr HGE.out g9)
  clear g9
  go_wp2
  go_ret
  exact ⟨_, rfl, ⟨z15, rfl, zB15, zl15, by simpa [wordsI, nameT, setT] using zc15⟩, HG9.out⟩

set_option maxRecDepth 100000 in
set_option maxHeartbeats 4000000 in
theorem words2 (d a b rel lo hi tv procs size : Int) (w : World) (hok : insOkB ⟨(2 : Int), d, a, b, rel, lo, hi, tv⟩ procs size = true) (hto : tv ≤ 9223372036854775807) (T : Tab w) :
    Calls Tryz.prog 42 #[Ins.v ⟨(2 : Int), d, a, b, rel, lo, hi, tv⟩] w fun e w' => ∃ v, e = .returned v ∧ RowS w.heap.size 4 4 (wordsI ⟨(2 : Int), d, a, b, rel, lo, hi, tv⟩) w' v ∧ Grew w w' := by
  obtain ⟨-, vd, va, vb, hr, hl, h0⟩ := okFacts hok
  have CD := Lib.hid fun w => implVar d w vd
  have CA := Lib.hid fun w => implVar a w va
  have CB := Lib.hid fun w => implVar b w vb
  have HT := Lib.hid T
  clear vd va vb hok hto T hr hl h0
  have CO : Hid (∀ w, Calls Tryz.prog 47 #[Ins.v ⟨(2 : Int), d, a, b, rel, lo, hi, tv⟩] w fun e w' => e = .returned (.iface 143 (.agg #[.int .i64 (2 : Int), .int .i64 d, .int .i64 a, .int .i64 b])) ∧ Grew w w') := Lib.hid (fun w => codeOf ⟨(2 : Int), d, a, b, rel, lo, hi, tv⟩ w)
  go_enter Tryz.func42, Tryz.ntmps42
  go_wp2_with ((with_reducible refine (CO.out _).mono ?_); rintro e w' ⟨rfl, g'⟩; (first | obtain ⟨x, rfl⟩ := ext_cold g' | obtain ⟨x, rfl⟩ := ext_col g' | obtain ⟨x, rfl⟩ := ext_of g'); clear g')
  refine let_world ?_
  intro E hE
  obtain ⟨g, hg⟩ : ∃ g, g = (ext (w.alloc (.cells #[.int .i64 (2 : Int), .int .i64 d, .int .i64 a, .int .i64 b, .int .i64 rel, .int .i64 lo, .int .i64 hi, .int .i64 tv] 38)) x).heap.size := ⟨_, rfl⟩
  rw [← hg]
  have q0 : E.cell? ⟨g, 0, none⟩ = some (.int .i64 (2 : Int)) := by rw [hE, hg]; simp [go_sem]
  have q1 : E.cell? ⟨g, 1, none⟩ = some (.int .i64 d) := by rw [hE, hg]; simp [go_sem]
  have q2 : E.cell? ⟨g, 2, none⟩ = some (.int .i64 a) := by rw [hE, hg]; simp [go_sem]
  have q3 : E.cell? ⟨g, 3, none⟩ = some (.int .i64 b) := by rw [hE, hg]; simp [go_sem]
  have GE : Grew w E := by rw [hE]; exact gr
  have HGE := Lib.hid GE
  clear hE GE hg x
  refine region_w 137 [pgS (0) (5) (5) (arithL), pgV (.pointer (some ⟨g, 0, none⟩)), pgV (.int .i64 (2 : Int)), pgP (nameT (2 : Int)), pgV (.string ⟨(nameT (2 : Int) : List UInt8).toArray⟩), pgV (.pointer (some ⟨g, 1, none⟩)), pgV (.int .i64 d), pgV (.string ⟨(varT d : List UInt8).toArray⟩), pgV (.pointer (some ⟨g, 2, none⟩)), pgV (.int .i64 a), pgV (.string ⟨(varT a : List UInt8).toArray⟩), pgV (.pointer (some ⟨g, 3, none⟩)), pgV (.int .i64 b), pgV (.string ⟨(varT b : List UInt8).toArray⟩), pgS (w.heap.size) (4) (4) ([nameT (2 : Int), varT d, varT a, varT b]), pgS (w.heap.size) (4) (4) ([nameT (2 : Int), varT d, varT a, varT b])] (by kernel_rfl) rfl (by kernel_rfl) ⟨?_, ?_, ?_, ?_, ?_, ?_, ?_, ?_, ?_, ?_, ?_, ?_, ?_, ?_, ?_, ?_, trivial⟩ ?_
  · exact w_callX (fun A W h => by
    refine Eq.trans (b := .ok (.enter 88 #[]) W) (by kernel_rfl) ?_
    rfl) (fun W hW => implArith W)
  · exact w_vx (v := .pointer (some ⟨g, 0, none⟩)) rfl (fun A W h => by
    have e3 : A.eval (.tmp 3) = .pointer (some ⟨g, 0, none⟩) := (h.slot 3).trans rfl
    simp only [execOp, e3]
    first | (simp [go_sem]; done) | rfl | kernel_rfl)
  · exact w_vx (v := .int .i64 (2 : Int)) rfl (fun A W h => by
    have e18 : A.eval (.tmp 18) = .pointer (some ⟨g, 0, none⟩) := h.vb 1 18
    have k0 := gk h.grew q0
    simp only [execOp, e18]
    simp [go_sem, k0])
  · exact w_ex (fun A W h => by
    obtain ⟨y17, e17, hB17, hlt17, hc17⟩ := h.vb 0 17
    have e19 : A.eval (.tmp 19) = .int .i64 (2 : Int) := h.vb 2 19
    exact ⟨.pointer (some ⟨y17, 2, none⟩), W, by (simp only [execOp, e17, e19]; simp [go_sem] <;> (intro hge; omega)), ⟨_, rfl, hc17 2 _ rfl⟩, Below.refl _ _⟩)
  · exact w_vx (v := .string ⟨(nameT (2 : Int) : List UInt8).toArray⟩) rfl (fun A W h => by
    obtain ⟨y20, e20, hc20⟩ := h.vb 3 20
    simp only [execOp, e20]
    simp [go_sem, hc20])
  · exact w_vx (v := .pointer (some ⟨g, 1, none⟩)) rfl (fun A W h => by
    have e3 : A.eval (.tmp 3) = .pointer (some ⟨g, 0, none⟩) := (h.slot 3).trans rfl
    simp only [execOp, e3]
    first | (simp [go_sem]; done) | rfl | kernel_rfl)
  · exact w_vx (v := .int .i64 d) rfl (fun A W h => by
    have e22 : A.eval (.tmp 22) = .pointer (some ⟨g, 1, none⟩) := h.vb 5 22
    have k0 := gk h.grew q1
    simp only [execOp, e22]
    simp [go_sem, k0])
  · exact w_call (v := .string ⟨(varT d : List UInt8).toArray⟩) rfl (fun A W h => by
    have e23 : A.eval (.tmp 23) = .int .i64 d := h.vb 6 23
    refine Eq.trans (b := .ok (.enter 94 #[A.eval (.tmp 23)]) W) (by kernel_rfl) ?_
    rw [e23]) (fun W hW => same_grew (CD.out W))
  · exact w_vx (v := .pointer (some ⟨g, 2, none⟩)) rfl (fun A W h => by
    have e3 : A.eval (.tmp 3) = .pointer (some ⟨g, 0, none⟩) := (h.slot 3).trans rfl
    simp only [execOp, e3]
    first | (simp [go_sem]; done) | rfl | kernel_rfl)
  · exact w_vx (v := .int .i64 a) rfl (fun A W h => by
    have e25 : A.eval (.tmp 25) = .pointer (some ⟨g, 2, none⟩) := h.vb 8 25
    have k0 := gk h.grew q2
    simp only [execOp, e25]
    simp [go_sem, k0])
  · exact w_call (v := .string ⟨(varT a : List UInt8).toArray⟩) rfl (fun A W h => by
    have e26 : A.eval (.tmp 26) = .int .i64 a := h.vb 9 26
    refine Eq.trans (b := .ok (.enter 94 #[A.eval (.tmp 26)]) W) (by kernel_rfl) ?_
    rw [e26]) (fun W hW => same_grew (CA.out W))
  · exact w_vx (v := .pointer (some ⟨g, 3, none⟩)) rfl (fun A W h => by
    have e3 : A.eval (.tmp 3) = .pointer (some ⟨g, 0, none⟩) := (h.slot 3).trans rfl
    simp only [execOp, e3]
    first | (simp [go_sem]; done) | rfl | kernel_rfl)
  · exact w_vx (v := .int .i64 b) rfl (fun A W h => by
    have e28 : A.eval (.tmp 28) = .pointer (some ⟨g, 3, none⟩) := h.vb 11 28
    have k0 := gk h.grew q3
    simp only [execOp, e28]
    simp [go_sem, k0])
  · exact w_call (v := .string ⟨(varT b : List UInt8).toArray⟩) rfl (fun A W h => by
    have e29 : A.eval (.tmp 29) = .int .i64 b := h.vb 12 29
    refine Eq.trans (b := .ok (.enter 94 #[A.eval (.tmp 29)]) W) (by kernel_rfl) ?_
    rw [e29]) (fun W hW => same_grew (CB.out W))
  · exact w_build _ 4 _ rfl #[(0, .string ⟨(nameT (2 : Int) : List UInt8).toArray⟩), (1, .string ⟨(varT d : List UInt8).toArray⟩), (2, .string ⟨(varT a : List UInt8).toArray⟩), (3, .string ⟨(varT b : List UInt8).toArray⟩)] #[.string ⟨(nameT (2 : Int) : List UInt8).toArray⟩, .string ⟨(varT d : List UInt8).toArray⟩, .string ⟨(varT a : List UInt8).toArray⟩, .string ⟨(varT b : List UInt8).toArray⟩] 9 (fun A W h => by
    have e21 : A.eval (.tmp 21) = .string ⟨(nameT (2 : Int) : List UInt8).toArray⟩ := h.vb 4 21
    have e24 : A.eval (.tmp 24) = .string ⟨(varT d : List UInt8).toArray⟩ := h.vb 7 24
    have e27 : A.eval (.tmp 27) = .string ⟨(varT a : List UInt8).toArray⟩ := h.vb 10 27
    have e30 : A.eval (.tmp 30) = .string ⟨(varT b : List UInt8).toArray⟩ := h.vb 13 30
    simp only [List.map_toArray, List.map_cons, List.map_nil, evalK, e21, e24, e27, e30]) (fun W => by simp [go_sem]) rfl (HGE.out.size) rfl
  · exact w_ex (fun A W h => by
    obtain ⟨y31, e31, hB31, hlt31, hc31⟩ := h.vb 14 31
    exact ⟨_, W, by simp only [execOp, e31]; rfl, ⟨_, rfl, hB31, hlt31, hc31⟩, Below.refl _ _⟩)
  intro vs w9 g9 hR
  obtain ⟨z0, x0, zB0, zl0, zc0⟩ := hR 0 17 (by kernel_rfl)
  have x1 : vs 1 = .pointer (some ⟨g, 0, none⟩) := hR 1 18 (by kernel_rfl)
  have x2 : vs 2 = .int .i64 (2 : Int) := hR 2 19 (by kernel_rfl)
  obtain ⟨z3, x3, _⟩ := hR 3 20 (by kernel_rfl)
  have x4 : vs 4 = .string ⟨(nameT (2 : Int) : List UInt8).toArray⟩ := hR 4 21 (by kernel_rfl)
  have x5 : vs 5 = .pointer (some ⟨g, 1, none⟩) := hR 5 22 (by kernel_rfl)
  have x6 : vs 6 = .int .i64 d := hR 6 23 (by kernel_rfl)
  have x7 : vs 7 = .string ⟨(varT d : List UInt8).toArray⟩ := hR 7 24 (by kernel_rfl)
  have x8 : vs 8 = .pointer (some ⟨g, 2, none⟩) := hR 8 25 (by kernel_rfl)
  have x9 : vs 9 = .int .i64 a := hR 9 26 (by kernel_rfl)
  have x10 : vs 10 = .string ⟨(varT a : List UInt8).toArray⟩ := hR 10 27 (by kernel_rfl)
  have x11 : vs 11 = .pointer (some ⟨g, 3, none⟩) := hR 11 28 (by kernel_rfl)
  have x12 : vs 12 = .int .i64 b := hR 12 29 (by kernel_rfl)
  have x13 : vs 13 = .string ⟨(varT b : List UInt8).toArray⟩ := hR 13 30 (by kernel_rfl)
  obtain ⟨z14, x14, zB14, zl14, zc14⟩ := hR 14 31 (by kernel_rfl)
  obtain ⟨z15, x15, zB15, zl15, zc15⟩ := hR 15 2 (by kernel_rfl)
  simp only [putAll, Act.put, List.setIfInBounds_toArray, List.set_cons_zero, List.set_cons_succ, Nat.zero_add, Nat.reduceAdd, x0, x1, x2, x3, x4, x5, x6, x7, x8, x9, x10, x11, x12, x13, x14, x15]
  clear hR x0 x1 x2 x3 x4 x5 x6 x7 x8 x9 x10 x11 x12 x13 x14 x15
  clear q0 q1 q2 q3
  have HG9 := Lib.hid (grew_tr HGE.out g9)
  clear g9
  go_wp2
  go_ret
  exact ⟨_, rfl, ⟨z15, rfl, zB15, zl15, by simpa [wordsI, nameT, setT] using zc15⟩, HG9.out⟩

set_option maxRecDepth 100000 in
set_option maxHeartbeats 4000000 in
theorem words3 (d a b rel lo hi tv procs size : Int) (w : World) (hok : insOkB ⟨(3 : Int), d, a, b, rel, lo, hi, tv⟩ procs size = true) (hto : tv ≤ 9223372036854775807) (T : Tab w) :
    Calls Tryz.prog 42 #[Ins.v ⟨(3 : Int), d, a, b, rel, lo, hi, tv⟩] w fun e w' => ∃ v, e = .returned v ∧ RowS w.heap.size 4 4 (wordsI ⟨(3 : Int), d, a, b, rel, lo, hi, tv⟩) w' v ∧ Grew w w' := by
  obtain ⟨-, vd, va, vb, hr, hl, h0⟩ := okFacts hok
  have CD := Lib.hid fun w => implVar d w vd
  have CA := Lib.hid fun w => implVar a w va
  have CB := Lib.hid fun w => implVar b w vb
  have HT := Lib.hid T
  clear vd va vb hok hto T hr hl h0
  have CO : Hid (∀ w, Calls Tryz.prog 47 #[Ins.v ⟨(3 : Int), d, a, b, rel, lo, hi, tv⟩] w fun e w' => e = .returned (.iface 143 (.agg #[.int .i64 (3 : Int), .int .i64 d, .int .i64 a, .int .i64 b])) ∧ Grew w w') := Lib.hid (fun w => codeOf ⟨(3 : Int), d, a, b, rel, lo, hi, tv⟩ w)
  go_enter Tryz.func42, Tryz.ntmps42
  go_wp2_with ((with_reducible refine (CO.out _).mono ?_); rintro e w' ⟨rfl, g'⟩; (first | obtain ⟨x, rfl⟩ := ext_cold g' | obtain ⟨x, rfl⟩ := ext_col g' | obtain ⟨x, rfl⟩ := ext_of g'); clear g')
  refine let_world ?_
  intro E hE
  obtain ⟨g, hg⟩ : ∃ g, g = (ext (w.alloc (.cells #[.int .i64 (3 : Int), .int .i64 d, .int .i64 a, .int .i64 b, .int .i64 rel, .int .i64 lo, .int .i64 hi, .int .i64 tv] 38)) x).heap.size := ⟨_, rfl⟩
  rw [← hg]
  have q0 : E.cell? ⟨g, 0, none⟩ = some (.int .i64 (3 : Int)) := by rw [hE, hg]; simp [go_sem]
  have q1 : E.cell? ⟨g, 1, none⟩ = some (.int .i64 d) := by rw [hE, hg]; simp [go_sem]
  have q2 : E.cell? ⟨g, 2, none⟩ = some (.int .i64 a) := by rw [hE, hg]; simp [go_sem]
  have q3 : E.cell? ⟨g, 3, none⟩ = some (.int .i64 b) := by rw [hE, hg]; simp [go_sem]
  have GE : Grew w E := by rw [hE]; exact gr
  have HGE := Lib.hid GE
  clear hE GE hg x
  refine region_w 137 [pgS (0) (5) (5) (arithL), pgV (.pointer (some ⟨g, 0, none⟩)), pgV (.int .i64 (3 : Int)), pgP (nameT (3 : Int)), pgV (.string ⟨(nameT (3 : Int) : List UInt8).toArray⟩), pgV (.pointer (some ⟨g, 1, none⟩)), pgV (.int .i64 d), pgV (.string ⟨(varT d : List UInt8).toArray⟩), pgV (.pointer (some ⟨g, 2, none⟩)), pgV (.int .i64 a), pgV (.string ⟨(varT a : List UInt8).toArray⟩), pgV (.pointer (some ⟨g, 3, none⟩)), pgV (.int .i64 b), pgV (.string ⟨(varT b : List UInt8).toArray⟩), pgS (w.heap.size) (4) (4) ([nameT (3 : Int), varT d, varT a, varT b]), pgS (w.heap.size) (4) (4) ([nameT (3 : Int), varT d, varT a, varT b])] (by kernel_rfl) rfl (by kernel_rfl) ⟨?_, ?_, ?_, ?_, ?_, ?_, ?_, ?_, ?_, ?_, ?_, ?_, ?_, ?_, ?_, ?_, trivial⟩ ?_
  · exact w_callX (fun A W h => by
    refine Eq.trans (b := .ok (.enter 88 #[]) W) (by kernel_rfl) ?_
    rfl) (fun W hW => implArith W)
  · exact w_vx (v := .pointer (some ⟨g, 0, none⟩)) rfl (fun A W h => by
    have e3 : A.eval (.tmp 3) = .pointer (some ⟨g, 0, none⟩) := (h.slot 3).trans rfl
    simp only [execOp, e3]
    first | (simp [go_sem]; done) | rfl | kernel_rfl)
  · exact w_vx (v := .int .i64 (3 : Int)) rfl (fun A W h => by
    have e18 : A.eval (.tmp 18) = .pointer (some ⟨g, 0, none⟩) := h.vb 1 18
    have k0 := gk h.grew q0
    simp only [execOp, e18]
    simp [go_sem, k0])
  · exact w_ex (fun A W h => by
    obtain ⟨y17, e17, hB17, hlt17, hc17⟩ := h.vb 0 17
    have e19 : A.eval (.tmp 19) = .int .i64 (3 : Int) := h.vb 2 19
    exact ⟨.pointer (some ⟨y17, 3, none⟩), W, by (simp only [execOp, e17, e19]; simp [go_sem] <;> (intro hge; omega)), ⟨_, rfl, hc17 3 _ rfl⟩, Below.refl _ _⟩)
  · exact w_vx (v := .string ⟨(nameT (3 : Int) : List UInt8).toArray⟩) rfl (fun A W h => by
    obtain ⟨y20, e20, hc20⟩ := h.vb 3 20
    simp only [execOp, e20]
    simp [go_sem, hc20])
  · exact w_vx (v := .pointer (some ⟨g, 1, none⟩)) rfl (fun A W h => by
    have e3 : A.eval (.tmp 3) = .pointer (some ⟨g, 0, none⟩) := (h.slot 3).trans rfl
    simp only [execOp, e3]
    first | (simp [go_sem]; done) | rfl | kernel_rfl)
  · exact w_vx (v := .int .i64 d) rfl (fun A W h => by
    have e22 : A.eval (.tmp 22) = .pointer (some ⟨g, 1, none⟩) := h.vb 5 22
    have k0 := gk h.grew q1
    simp only [execOp, e22]
    simp [go_sem, k0])
  · exact w_call (v := .string ⟨(varT d : List UInt8).toArray⟩) rfl (fun A W h => by
    have e23 : A.eval (.tmp 23) = .int .i64 d := h.vb 6 23
    refine Eq.trans (b := .ok (.enter 94 #[A.eval (.tmp 23)]) W) (by kernel_rfl) ?_
    rw [e23]) (fun W hW => same_grew (CD.out W))
  · exact w_vx (v := .pointer (some ⟨g, 2, none⟩)) rfl (fun A W h => by
    have e3 : A.eval (.tmp 3) = .pointer (some ⟨g, 0, none⟩) := (h.slot 3).trans rfl
    simp only [execOp, e3]
    first | (simp [go_sem]; done) | rfl | kernel_rfl)
  · exact w_vx (v := .int .i64 a) rfl (fun A W h => by
    have e25 : A.eval (.tmp 25) = .pointer (some ⟨g, 2, none⟩) := h.vb 8 25
    have k0 := gk h.grew q2
    simp only [execOp, e25]
    simp [go_sem, k0])
  · exact w_call (v := .string ⟨(varT a : List UInt8).toArray⟩) rfl (fun A W h => by
    have e26 : A.eval (.tmp 26) = .int .i64 a := h.vb 9 26
    refine Eq.trans (b := .ok (.enter 94 #[A.eval (.tmp 26)]) W) (by kernel_rfl) ?_
    rw [e26]) (fun W hW => same_grew (CA.out W))
  · exact w_vx (v := .pointer (some ⟨g, 3, none⟩)) rfl (fun A W h => by
    have e3 : A.eval (.tmp 3) = .pointer (some ⟨g, 0, none⟩) := (h.slot 3).trans rfl
    simp only [execOp, e3]
    first | (simp [go_sem]; done) | rfl | kernel_rfl)
  · exact w_vx (v := .int .i64 b) rfl (fun A W h => by
    have e28 : A.eval (.tmp 28) = .pointer (some ⟨g, 3, none⟩) := h.vb 11 28
    have k0 := gk h.grew q3
    simp only [execOp, e28]
    simp [go_sem, k0])
  · exact w_call (v := .string ⟨(varT b : List UInt8).toArray⟩) rfl (fun A W h => by
    have e29 : A.eval (.tmp 29) = .int .i64 b := h.vb 12 29
    refine Eq.trans (b := .ok (.enter 94 #[A.eval (.tmp 29)]) W) (by kernel_rfl) ?_
    rw [e29]) (fun W hW => same_grew (CB.out W))
  · exact w_build _ 4 _ rfl #[(0, .string ⟨(nameT (3 : Int) : List UInt8).toArray⟩), (1, .string ⟨(varT d : List UInt8).toArray⟩), (2, .string ⟨(varT a : List UInt8).toArray⟩), (3, .string ⟨(varT b : List UInt8).toArray⟩)] #[.string ⟨(nameT (3 : Int) : List UInt8).toArray⟩, .string ⟨(varT d : List UInt8).toArray⟩, .string ⟨(varT a : List UInt8).toArray⟩, .string ⟨(varT b : List UInt8).toArray⟩] 9 (fun A W h => by
    have e21 : A.eval (.tmp 21) = .string ⟨(nameT (3 : Int) : List UInt8).toArray⟩ := h.vb 4 21
    have e24 : A.eval (.tmp 24) = .string ⟨(varT d : List UInt8).toArray⟩ := h.vb 7 24
    have e27 : A.eval (.tmp 27) = .string ⟨(varT a : List UInt8).toArray⟩ := h.vb 10 27
    have e30 : A.eval (.tmp 30) = .string ⟨(varT b : List UInt8).toArray⟩ := h.vb 13 30
    simp only [List.map_toArray, List.map_cons, List.map_nil, evalK, e21, e24, e27, e30]) (fun W => by simp [go_sem]) rfl (HGE.out.size) rfl
  · exact w_ex (fun A W h => by
    obtain ⟨y31, e31, hB31, hlt31, hc31⟩ := h.vb 14 31
    exact ⟨_, W, by simp only [execOp, e31]; rfl, ⟨_, rfl, hB31, hlt31, hc31⟩, Below.refl _ _⟩)
  intro vs w9 g9 hR
  obtain ⟨z0, x0, zB0, zl0, zc0⟩ := hR 0 17 (by kernel_rfl)
  have x1 : vs 1 = .pointer (some ⟨g, 0, none⟩) := hR 1 18 (by kernel_rfl)
  have x2 : vs 2 = .int .i64 (3 : Int) := hR 2 19 (by kernel_rfl)
  obtain ⟨z3, x3, _⟩ := hR 3 20 (by kernel_rfl)
  have x4 : vs 4 = .string ⟨(nameT (3 : Int) : List UInt8).toArray⟩ := hR 4 21 (by kernel_rfl)
  have x5 : vs 5 = .pointer (some ⟨g, 1, none⟩) := hR 5 22 (by kernel_rfl)
  have x6 : vs 6 = .int .i64 d := hR 6 23 (by kernel_rfl)
  have x7 : vs 7 = .string ⟨(varT d : List UInt8).toArray⟩ := hR 7 24 (by kernel_rfl)
  have x8 : vs 8 = .pointer (some ⟨g, 2, none⟩) := hR 8 25 (by kernel_rfl)
  have x9 : vs 9 = .int .i64 a := hR 9 26 (by kernel_rfl)
  have x10 : vs 10 = .string ⟨(varT a : List UInt8).toArray⟩ := hR 10 27 (by kernel_rfl)
  have x11 : vs 11 = .pointer (some ⟨g, 3, none⟩) := hR 11 28 (by kernel_rfl)
  have x12 : vs 12 = .int .i64 b := hR 12 29 (by kernel_rfl)
  have x13 : vs 13 = .string ⟨(varT b : List UInt8).toArray⟩ := hR 13 30 (by kernel_rfl)
  obtain ⟨z14, x14, zB14, zl14, zc14⟩ := hR 14 31 (by kernel_rfl)
  obtain ⟨z15, x15, zB15, zl15, zc15⟩ := hR 15 2 (by kernel_rfl)
  simp only [putAll, Act.put, List.setIfInBounds_toArray, List.set_cons_zero, List.set_cons_succ, Nat.zero_add, Nat.reduceAdd, x0, x1, x2, x3, x4, x5, x6, x7, x8, x9, x10, x11, x12, x13, x14, x15]
  clear hR x0 x1 x2 x3 x4 x5 x6 x7 x8 x9 x10 x11 x12 x13 x14 x15
  clear q0 q1 q2 q3
  have HG9 := Lib.hid (grew_tr HGE.out g9)
  clear g9
  go_wp2
  go_ret
  exact ⟨_, rfl, ⟨z15, rfl, zB15, zl15, by simpa [wordsI, nameT, setT] using zc15⟩, HG9.out⟩

set_option maxRecDepth 100000 in
set_option maxHeartbeats 4000000 in
theorem words4 (d a b rel lo hi tv procs size : Int) (w : World) (hok : insOkB ⟨(4 : Int), d, a, b, rel, lo, hi, tv⟩ procs size = true) (hto : tv ≤ 9223372036854775807) (T : Tab w) :
    Calls Tryz.prog 42 #[Ins.v ⟨(4 : Int), d, a, b, rel, lo, hi, tv⟩] w fun e w' => ∃ v, e = .returned v ∧ RowS w.heap.size 4 4 (wordsI ⟨(4 : Int), d, a, b, rel, lo, hi, tv⟩) w' v ∧ Grew w w' := by
  obtain ⟨-, vd, va, vb, hr, hl, h0⟩ := okFacts hok
  have CD := Lib.hid fun w => implVar d w vd
  have CA := Lib.hid fun w => implVar a w va
  have CB := Lib.hid fun w => implVar b w vb
  have HT := Lib.hid T
  clear vd va vb hok hto T hr hl h0
  have CO : Hid (∀ w, Calls Tryz.prog 47 #[Ins.v ⟨(4 : Int), d, a, b, rel, lo, hi, tv⟩] w fun e w' => e = .returned (.iface 143 (.agg #[.int .i64 (4 : Int), .int .i64 d, .int .i64 a, .int .i64 b])) ∧ Grew w w') := Lib.hid (fun w => codeOf ⟨(4 : Int), d, a, b, rel, lo, hi, tv⟩ w)
  go_enter Tryz.func42, Tryz.ntmps42
  go_wp2_with ((with_reducible refine (CO.out _).mono ?_); rintro e w' ⟨rfl, g'⟩; (first | obtain ⟨x, rfl⟩ := ext_cold g' | obtain ⟨x, rfl⟩ := ext_col g' | obtain ⟨x, rfl⟩ := ext_of g'); clear g')
  refine let_world ?_
  intro E hE
  obtain ⟨g, hg⟩ : ∃ g, g = (ext (w.alloc (.cells #[.int .i64 (4 : Int), .int .i64 d, .int .i64 a, .int .i64 b, .int .i64 rel, .int .i64 lo, .int .i64 hi, .int .i64 tv] 38)) x).heap.size := ⟨_, rfl⟩
  rw [← hg]
  have q0 : E.cell? ⟨g, 0, none⟩ = some (.int .i64 (4 : Int)) := by rw [hE, hg]; simp [go_sem]
  have q1 : E.cell? ⟨g, 1, none⟩ = some (.int .i64 d) := by rw [hE, hg]; simp [go_sem]
  have q2 : E.cell? ⟨g, 2, none⟩ = some (.int .i64 a) := by rw [hE, hg]; simp [go_sem]
  have q3 : E.cell? ⟨g, 3, none⟩ = some (.int .i64 b) := by rw [hE, hg]; simp [go_sem]
  have GE : Grew w E := by rw [hE]; exact gr
  have HGE := Lib.hid GE
  clear hE GE hg x
  refine region_w 137 [pgS (0) (5) (5) (arithL), pgV (.pointer (some ⟨g, 0, none⟩)), pgV (.int .i64 (4 : Int)), pgP (nameT (4 : Int)), pgV (.string ⟨(nameT (4 : Int) : List UInt8).toArray⟩), pgV (.pointer (some ⟨g, 1, none⟩)), pgV (.int .i64 d), pgV (.string ⟨(varT d : List UInt8).toArray⟩), pgV (.pointer (some ⟨g, 2, none⟩)), pgV (.int .i64 a), pgV (.string ⟨(varT a : List UInt8).toArray⟩), pgV (.pointer (some ⟨g, 3, none⟩)), pgV (.int .i64 b), pgV (.string ⟨(varT b : List UInt8).toArray⟩), pgS (w.heap.size) (4) (4) ([nameT (4 : Int), varT d, varT a, varT b]), pgS (w.heap.size) (4) (4) ([nameT (4 : Int), varT d, varT a, varT b])] (by kernel_rfl) rfl (by kernel_rfl) ⟨?_, ?_, ?_, ?_, ?_, ?_, ?_, ?_, ?_, ?_, ?_, ?_, ?_, ?_, ?_, ?_, trivial⟩ ?_
  · exact w_callX (fun A W h => by
    refine Eq.trans (b := .ok (.enter 88 #[]) W) (by kernel_rfl) ?_
    rfl) (fun W hW => implArith W)
  · exact w_vx (v := .pointer (some ⟨g, 0, none⟩)) rfl (fun A W h => by
    have e3 : A.eval (.tmp 3) = .pointer (some ⟨g, 0, none⟩) := (h.slot 3).trans rfl
    simp only [execOp, e3]
    first | (simp [go_sem]; done) | rfl | kernel_rfl)
  · exact w_vx (v := .int .i64 (4 : Int)) rfl (fun A W h => by
    have e18 : A.eval (.tmp 18) = .pointer (some ⟨g, 0, none⟩) := h.vb 1 18
    have k0 := gk h.grew q0
    simp only [execOp, e18]
    simp [go_sem, k0])
  · exact w_ex (fun A W h => by
    obtain ⟨y17, e17, hB17, hlt17, hc17⟩ := h.vb 0 17
    have e19 : A.eval (.tmp 19) = .int .i64 (4 : Int) := h.vb 2 19
    exact ⟨.pointer (some ⟨y17, 4, none⟩), W, by (simp only [execOp, e17, e19]; simp [go_sem] <;> (intro hge; omega)), ⟨_, rfl, hc17 4 _ rfl⟩, Below.refl _ _⟩)
  · exact w_vx (v := .string ⟨(nameT (4 : Int) : List UInt8).toArray⟩) rfl (fun A W h => by
    obtain ⟨y20, e20, hc20⟩ := h.vb 3 20
    simp only [execOp, e20]
    simp [go_sem, hc20])
  · exact w_vx (v := .pointer (some ⟨g, 1, none⟩)) rfl (fun A W h => by
    have e3 : A.eval (.tmp 3) = .pointer (some ⟨g, 0, none⟩) := (h.slot 3).trans rfl
    simp only [execOp, e3]
    first | (simp [go_sem]; done) | rfl | kernel_rfl)
  · exact w_vx (v := .int .i64 d) rfl (fun A W h => by
    have e22 : A.eval (.tmp 22) = .pointer (some ⟨g, 1, none⟩) := h.vb 5 22
    have k0 := gk h.grew q1
    simp only [execOp, e22]
    simp [go_sem, k0])
  · exact w_call (v := .string ⟨(varT d : List UInt8).toArray⟩) rfl (fun A W h => by
    have e23 : A.eval (.tmp 23) = .int .i64 d := h.vb 6 23
    refine Eq.trans (b := .ok (.enter 94 #[A.eval (.tmp 23)]) W) (by kernel_rfl) ?_
    rw [e23]) (fun W hW => same_grew (CD.out W))
  · exact w_vx (v := .pointer (some ⟨g, 2, none⟩)) rfl (fun A W h => by
    have e3 : A.eval (.tmp 3) = .pointer (some ⟨g, 0, none⟩) := (h.slot 3).trans rfl
    simp only [execOp, e3]
    first | (simp [go_sem]; done) | rfl | kernel_rfl)
  · exact w_vx (v := .int .i64 a) rfl (fun A W h => by
    have e25 : A.eval (.tmp 25) = .pointer (some ⟨g, 2, none⟩) := h.vb 8 25
    have k0 := gk h.grew q2
    simp only [execOp, e25]
    simp [go_sem, k0])
  · exact w_call (v := .string ⟨(varT a : List UInt8).toArray⟩) rfl (fun A W h => by
    have e26 : A.eval (.tmp 26) = .int .i64 a := h.vb 9 26
    refine Eq.trans (b := .ok (.enter 94 #[A.eval (.tmp 26)]) W) (by kernel_rfl) ?_
    rw [e26]) (fun W hW => same_grew (CA.out W))
  · exact w_vx (v := .pointer (some ⟨g, 3, none⟩)) rfl (fun A W h => by
    have e3 : A.eval (.tmp 3) = .pointer (some ⟨g, 0, none⟩) := (h.slot 3).trans rfl
    simp only [execOp, e3]
    first | (simp [go_sem]; done) | rfl | kernel_rfl)
  · exact w_vx (v := .int .i64 b) rfl (fun A W h => by
    have e28 : A.eval (.tmp 28) = .pointer (some ⟨g, 3, none⟩) := h.vb 11 28
    have k0 := gk h.grew q3
    simp only [execOp, e28]
    simp [go_sem, k0])
  · exact w_call (v := .string ⟨(varT b : List UInt8).toArray⟩) rfl (fun A W h => by
    have e29 : A.eval (.tmp 29) = .int .i64 b := h.vb 12 29
    refine Eq.trans (b := .ok (.enter 94 #[A.eval (.tmp 29)]) W) (by kernel_rfl) ?_
    rw [e29]) (fun W hW => same_grew (CB.out W))
  · exact w_build _ 4 _ rfl #[(0, .string ⟨(nameT (4 : Int) : List UInt8).toArray⟩), (1, .string ⟨(varT d : List UInt8).toArray⟩), (2, .string ⟨(varT a : List UInt8).toArray⟩), (3, .string ⟨(varT b : List UInt8).toArray⟩)] #[.string ⟨(nameT (4 : Int) : List UInt8).toArray⟩, .string ⟨(varT d : List UInt8).toArray⟩, .string ⟨(varT a : List UInt8).toArray⟩, .string ⟨(varT b : List UInt8).toArray⟩] 9 (fun A W h => by
    have e21 : A.eval (.tmp 21) = .string ⟨(nameT (4 : Int) : List UInt8).toArray⟩ := h.vb 4 21
    have e24 : A.eval (.tmp 24) = .string ⟨(varT d : List UInt8).toArray⟩ := h.vb 7 24
    have e27 : A.eval (.tmp 27) = .string ⟨(varT a : List UInt8).toArray⟩ := h.vb 10 27
    have e30 : A.eval (.tmp 30) = .string ⟨(varT b : List UInt8).toArray⟩ := h.vb 13 30
    simp only [List.map_toArray, List.map_cons, List.map_nil, evalK, e21, e24, e27, e30]) (fun W => by simp [go_sem]) rfl (HGE.out.size) rfl
  · exact w_ex (fun A W h => by
    obtain ⟨y31, e31, hB31, hlt31, hc31⟩ := h.vb 14 31
    exact ⟨_, W, by simp only [execOp, e31]; rfl, ⟨_, rfl, hB31, hlt31, hc31⟩, Below.refl _ _⟩)
  intro vs w9 g9 hR
  obtain ⟨z0, x0, zB0, zl0, zc0⟩ := hR 0 17 (by kernel_rfl)
  have x1 : vs 1 = .pointer (some ⟨g, 0, none⟩) := hR 1 18 (by kernel_rfl)
  have x2 : vs 2 = .int .i64 (4 : Int) := hR 2 19 (by kernel_rfl)
  obtain ⟨z3, x3, _⟩ := hR 3 20 (by kernel_rfl)
  have x4 : vs 4 = .string ⟨(nameT (4 : Int) : List UInt8).toArray⟩ := hR 4 21 (by kernel_rfl)
  have x5 : vs 5 = .pointer (some ⟨g, 1, none⟩) := hR 5 22 (by kernel_rfl)
  have x6 : vs 6 = .int .i64 d := hR 6 23 (by kernel_rfl)
  have x7 : vs 7 = .string ⟨(varT d : List UInt8).toArray⟩ := hR 7 24 (by kernel_rfl)
  have x8 : vs 8 = .pointer (some ⟨g, 2, none⟩) := hR 8 25 (by kernel_rfl)
  have x9 : vs 9 = .int .i64 a := hR 9 26 (by kernel_rfl)
  have x10 : vs 10 = .string ⟨(varT a : List UInt8).toArray⟩ := hR 10 27 (by kernel_rfl)
  have x11 : vs 11 = .pointer (some ⟨g, 3, none⟩) := hR 11 28 (by kernel_rfl)
  have x12 : vs 12 = .int .i64 b := hR 12 29 (by kernel_rfl)
  have x13 : vs 13 = .string ⟨(varT b : List UInt8).toArray⟩ := hR 13 30 (by kernel_rfl)
  obtain ⟨z14, x14, zB14, zl14, zc14⟩ := hR 14 31 (by kernel_rfl)
  obtain ⟨z15, x15, zB15, zl15, zc15⟩ := hR 15 2 (by kernel_rfl)
  simp only [putAll, Act.put, List.setIfInBounds_toArray, List.set_cons_zero, List.set_cons_succ, Nat.zero_add, Nat.reduceAdd, x0, x1, x2, x3, x4, x5, x6, x7, x8, x9, x10, x11, x12, x13, x14, x15]
  clear hR x0 x1 x2 x3 x4 x5 x6 x7 x8 x9 x10 x11 x12 x13 x14 x15
  clear q0 q1 q2 q3
  have HG9 := Lib.hid (grew_tr HGE.out g9)
  clear g9
  go_wp2
  go_ret
  exact ⟨_, rfl, ⟨z15, rfl, zB15, zl15, by simpa [wordsI, nameT, setT] using zc15⟩, HG9.out⟩

set_option maxRecDepth 100000 in
set_option maxHeartbeats 4000000 in
theorem words5 (d a b rel lo hi tv procs size : Int) (w : World) (hok : insOkB ⟨(5 : Int), d, a, b, rel, lo, hi, tv⟩ procs size = true) (hto : tv ≤ 9223372036854775807) (T : Tab w) (hlh : ¬ lo = hi) :
    Calls Tryz.prog 42 #[Ins.v ⟨(5 : Int), d, a, b, rel, lo, hi, tv⟩] w fun e w' => ∃ v, e = .returned v ∧ RowS w.heap.size 4 4 (wordsI ⟨(5 : Int), d, a, b, rel, lo, hi, tv⟩) w' v ∧ Grew w w' := by
  obtain ⟨-, vd, va, vb, hr, hl, h0⟩ := okFacts hok
  have CD := Lib.hid fun w => implVar d w vd
  have CA := Lib.hid fun w => implVar a w va
  have CB := Lib.hid fun w => implVar b w vb
  have HT := Lib.hid T
  have hl : -32768 ≤ lo ∧ lo ≤ 32767 ∧ -32768 ≤ hi ∧ hi ≤ 32767 := hl rfl
  have CL := Lib.hid fun w T => implNumText lo w (numOkB_iff.2 ⟨by omega, by omega⟩) T
  have CH := Lib.hid fun w T => implNumText hi w (numOkB_iff.2 ⟨by omega, by omega⟩) T
  clear vd va vb hok hto T hr hl h0
  have CO : Hid (∀ w, Calls Tryz.prog 47 #[Ins.v ⟨(5 : Int), d, a, b, rel, lo, hi, tv⟩] w fun e w' => e = .returned (.iface 93 (.agg #[.int .i64 d, .int .i64 lo, .int .i64 hi])) ∧ Grew w w') := Lib.hid (fun w => codeOf ⟨(5 : Int), d, a, b, rel, lo, hi, tv⟩ w)
  go_enter Tryz.func42, Tryz.ntmps42
  go_wp2_with ((with_reducible refine (CO.out _).mono ?_); rintro e w' ⟨rfl, g'⟩; (first | obtain ⟨x, rfl⟩ := ext_cold g' | obtain ⟨x, rfl⟩ := ext_col g' | obtain ⟨x, rfl⟩ := ext_of g'); clear g')
  refine let_world ?_
  intro E hE
  obtain ⟨g, hg⟩ : ∃ g, g = (ext (w.alloc (.cells #[.int .i64 (5 : Int), .int .i64 d, .int .i64 a, .int .i64 b, .int .i64 rel, .int .i64 lo, .int .i64 hi, .int .i64 tv] 38)) x).heap.size := ⟨_, rfl⟩
  rw [← hg]
  have q0 : E.cell? ⟨g, 0, none⟩ = some (.int .i64 d) := by rw [hE, hg]; simp [go_sem]
  have q1 : E.cell? ⟨g, 1, none⟩ = some (.int .i64 lo) := by rw [hE, hg]; simp [go_sem]
  have q2 : E.cell? ⟨g, 2, none⟩ = some (.int .i64 hi) := by rw [hE, hg]; simp [go_sem]
  have GE : Grew w E := by rw [hE]; exact gr
  have HGE := Lib.hid GE
  clear hE GE hg x
  refine region_w 137 [pgV (.pointer (some ⟨g, 0, none⟩)), pgV (.int .i64 d), pgV (.string ⟨(varT d : List UInt8).toArray⟩), pgV (.pointer (some ⟨g, 1, none⟩)), pgV (.int .i64 lo), pgV (.string ⟨(itoa lo : List UInt8).toArray⟩), pgV (.pointer (some ⟨g, 2, none⟩)), pgV (.int .i64 hi), pgV (.string ⟨(itoa hi : List UInt8).toArray⟩), pgS (w.heap.size) (4) (4) ([[97, 110, 121], varT d, itoa lo, itoa hi]), pgS (w.heap.size) (4) (4) ([[97, 110, 121], varT d, itoa lo, itoa hi])] (by kernel_rfl) rfl (by kernel_rfl) ⟨?_, ?_, ?_, ?_, ?_, ?_, ?_, ?_, ?_, ?_, ?_, trivial⟩ ?_
  · exact w_vx (v := .pointer (some ⟨g, 0, none⟩)) rfl (fun A W h => by
    have e4 : A.eval (.tmp 4) = .pointer (some ⟨g, 0, none⟩) := (h.slot 4).trans rfl
    simp only [execOp, e4]
    first | (simp [go_sem]; done) | rfl | kernel_rfl)
  · exact w_vx (v := .int .i64 d) rfl (fun A W h => by
    have e47 : A.eval (.tmp 47) = .pointer (some ⟨g, 0, none⟩) := h.vb 0 47
    have k0 := gk h.grew q0
    simp only [execOp, e47]
    simp [go_sem, k0])
  · exact w_call (v := .string ⟨(varT d : List UInt8).toArray⟩) rfl (fun A W h => by
    have e48 : A.eval (.tmp 48) = .int .i64 d := h.vb 1 48
    refine Eq.trans (b := .ok (.enter 94 #[A.eval (.tmp 48)]) W) (by kernel_rfl) ?_
    rw [e48]) (fun W hW => same_grew (CD.out W))
  · exact w_vx (v := .pointer (some ⟨g, 1, none⟩)) rfl (fun A W h => by
    have e4 : A.eval (.tmp 4) = .pointer (some ⟨g, 0, none⟩) := (h.slot 4).trans rfl
    simp only [execOp, e4]
    first | (simp [go_sem]; done) | rfl | kernel_rfl)
  · exact w_vx (v := .int .i64 lo) rfl (fun A W h => by
    have e50 : A.eval (.tmp 50) = .pointer (some ⟨g, 1, none⟩) := h.vb 3 50
    have k0 := gk h.grew q1
    simp only [execOp, e50]
    simp [go_sem, k0])
  · exact w_call (v := .string ⟨(itoa lo : List UInt8).toArray⟩) rfl (fun A W h => by
    have e51 : A.eval (.tmp 51) = .int .i64 lo := h.vb 4 51
    refine Eq.trans (b := .ok (.enter 28 #[A.eval (.tmp 51)]) W) (by kernel_rfl) ?_
    rw [e51]) (fun W hW => CL.out W (HT.out.grew (grew_tr HGE.out hW)))
  · exact w_vx (v := .pointer (some ⟨g, 2, none⟩)) rfl (fun A W h => by
    have e4 : A.eval (.tmp 4) = .pointer (some ⟨g, 0, none⟩) := (h.slot 4).trans rfl
    simp only [execOp, e4]
    first | (simp [go_sem]; done) | rfl | kernel_rfl)
  · exact w_vx (v := .int .i64 hi) rfl (fun A W h => by
    have e53 : A.eval (.tmp 53) = .pointer (some ⟨g, 2, none⟩) := h.vb 6 53
    have k0 := gk h.grew q2
    simp only [execOp, e53]
    simp [go_sem, k0])
  · exact w_call (v := .string ⟨(itoa hi : List UInt8).toArray⟩) rfl (fun A W h => by
    have e54 : A.eval (.tmp 54) = .int .i64 hi := h.vb 7 54
    refine Eq.trans (b := .ok (.enter 28 #[A.eval (.tmp 54)]) W) (by kernel_rfl) ?_
    rw [e54]) (fun W hW => CH.out W (HT.out.grew (grew_tr HGE.out hW)))
  · exact w_build _ 4 _ rfl #[(0, .string ⟨([97, 110, 121] : List UInt8).toArray⟩), (1, .string ⟨(varT d : List UInt8).toArray⟩), (2, .string ⟨(itoa lo : List UInt8).toArray⟩), (3, .string ⟨(itoa hi : List UInt8).toArray⟩)] #[.string ⟨([97, 110, 121] : List UInt8).toArray⟩, .string ⟨(varT d : List UInt8).toArray⟩, .string ⟨(itoa lo : List UInt8).toArray⟩, .string ⟨(itoa hi : List UInt8).toArray⟩] 9 (fun A W h => by
    have e49 : A.eval (.tmp 49) = .string ⟨(varT d : List UInt8).toArray⟩ := h.vb 2 49
    have e52 : A.eval (.tmp 52) = .string ⟨(itoa lo : List UInt8).toArray⟩ := h.vb 5 52
    have e55 : A.eval (.tmp 55) = .string ⟨(itoa hi : List UInt8).toArray⟩ := h.vb 8 55
    simp only [List.map_toArray, List.map_cons, List.map_nil, evalK, e49, e52, e55]) (fun W => by simp [go_sem]) rfl (HGE.out.size) rfl
  · exact w_ex (fun A W h => by
    obtain ⟨y56, e56, hB56, hlt56, hc56⟩ := h.vb 9 56
    exact ⟨_, W, by simp only [execOp, e56]; rfl, ⟨_, rfl, hB56, hlt56, hc56⟩, Below.refl _ _⟩)
  intro vs w9 g9 hR
  have x0 : vs 0 = .pointer (some ⟨g, 0, none⟩) := hR 0 47 (by kernel_rfl)
  have x1 : vs 1 = .int .i64 d := hR 1 48 (by kernel_rfl)
  have x2 : vs 2 = .string ⟨(varT d : List UInt8).toArray⟩ := hR 2 49 (by kernel_rfl)
  have x3 : vs 3 = .pointer (some ⟨g, 1, none⟩) := hR 3 50 (by kernel_rfl)
  have x4 : vs 4 = .int .i64 lo := hR 4 51 (by kernel_rfl)
  have x5 : vs 5 = .string ⟨(itoa lo : List UInt8).toArray⟩ := hR 5 52 (by kernel_rfl)
  have x6 : vs 6 = .pointer (some ⟨g, 2, none⟩) := hR 6 53 (by kernel_rfl)
  have x7 : vs 7 = .int .i64 hi := hR 7 54 (by kernel_rfl)
  have x8 : vs 8 = .string ⟨(itoa hi : List UInt8).toArray⟩ := hR 8 55 (by kernel_rfl)
  obtain ⟨z9, x9, zB9, zl9, zc9⟩ := hR 9 56 (by kernel_rfl)
  obtain ⟨z10, x10, zB10, zl10, zc10⟩ := hR 10 2 (by kernel_rfl)
  simp only [putAll, Act.put, List.setIfInBounds_toArray, List.set_cons_zero, List.set_cons_succ, Nat.zero_add, Nat.reduceAdd, x0, x1, x2, x3, x4, x5, x6, x7, x8, x9, x10]
  clear hR x0 x1 x2 x3 x4 x5 x6 x7 x8 x9 x10
  clear q0 q1 q2
  have HG9 := Lib.hid (grew_tr HGE.out g9)
  clear g9
  go_wp2
  go_ret
  exact ⟨_, rfl, ⟨z10, rfl, zB10, zl10, by simpa [wordsI, nameT, setT, hlh] using zc10⟩, HG9.out⟩

set_option maxRecDepth 100000 in
set_option maxHeartbeats 4000000 in
theorem words5e (d a b rel lo tv procs size : Int) (w : World) (hok : insOkB ⟨(5 : Int), d, a, b, rel, lo, lo, tv⟩ procs size = true) (hto : tv ≤ 9223372036854775807) (T : Tab w) :
    Calls Tryz.prog 42 #[Ins.v ⟨(5 : Int), d, a, b, rel, lo, lo, tv⟩] w fun e w' => ∃ v, e = .returned v ∧ RowS w.heap.size 3 3 (wordsI ⟨(5 : Int), d, a, b, rel, lo, lo, tv⟩) w' v ∧ Grew w w' := by
  obtain ⟨-, vd, va, vb, hr, hl, h0⟩ := okFacts hok
  have CD := Lib.hid fun w => implVar d w vd
  have CA := Lib.hid fun w => implVar a w va
  have CB := Lib.hid fun w => implVar b w vb
  have HT := Lib.hid T
  have hl : -32768 ≤ lo ∧ lo ≤ 32767 ∧ -32768 ≤ lo ∧ lo ≤ 32767 := hl rfl
  have CL := Lib.hid fun w T => implNumText lo w (numOkB_iff.2 ⟨by omega, by omega⟩) T
  have CH := Lib.hid fun w T => implNumText lo w (numOkB_iff.2 ⟨by omega, by omega⟩) T
  clear vd va vb hok hto T hr hl h0
  have CO : Hid (∀ w, Calls Tryz.prog 47 #[Ins.v ⟨(5 : Int), d, a, b, rel, lo, lo, tv⟩] w fun e w' => e = .returned (.iface 93 (.agg #[.int .i64 d, .int .i64 lo, .int .i64 lo])) ∧ Grew w w') := Lib.hid (fun w => codeOf ⟨(5 : Int), d, a, b, rel, lo, lo, tv⟩ w)
  go_enter Tryz.func42, Tryz.ntmps42
  go_wp2_with ((with_reducible refine (CO.out _).mono ?_); rintro e w' ⟨rfl, g'⟩; (first | obtain ⟨x, rfl⟩ := ext_cold g' | obtain ⟨x, rfl⟩ := ext_col g' | obtain ⟨x, rfl⟩ := ext_of g'); clear g')
  refine let_world ?_
  intro E hE
  obtain ⟨g, hg⟩ : ∃ g, g = (ext (w.alloc (.cells #[.int .i64 (5 : Int), .int .i64 d, .int .i64 a, .int .i64 b, .int .i64 rel, .int .i64 lo, .int .i64 lo, .int .i64 tv] 38)) x).heap.size := ⟨_, rfl⟩
  rw [← hg]
  have q0 : E.cell? ⟨g, 0, none⟩ = some (.int .i64 d) := by rw [hE, hg]; simp [go_sem]
  have q1 : E.cell? ⟨g, 1, none⟩ = some (.int .i64 lo) := by rw [hE, hg]; simp [go_sem]
  have q2 : E.cell? ⟨g, 2, none⟩ = some (.int .i64 lo) := by rw [hE, hg]; simp [go_sem]
  have GE : Grew w E := by rw [hE]; exact gr
  have HGE := Lib.hid GE
  clear hE GE hg x
  refine region_w 137 [pgV (.pointer (some ⟨g, 0, none⟩)), pgV (.int .i64 d), pgV (.string ⟨(varT d : List UInt8).toArray⟩), pgV (.pointer (some ⟨g, 1, none⟩)), pgV (.int .i64 lo), pgV (.string ⟨(itoa lo : List UInt8).toArray⟩), pgS (w.heap.size) (3) (3) ([[115, 101, 116], varT d, itoa lo]), pgS (w.heap.size) (3) (3) ([[115, 101, 116], varT d, itoa lo])] (by kernel_rfl) rfl (by kernel_rfl) ⟨?_, ?_, ?_, ?_, ?_, ?_, ?_, ?_, trivial⟩ ?_
  · exact w_vx (v := .pointer (some ⟨g, 0, none⟩)) rfl (fun A W h => by
    have e4 : A.eval (.tmp 4) = .pointer (some ⟨g, 0, none⟩) := (h.slot 4).trans rfl
    simp only [execOp, e4]
    first | (simp [go_sem]; done) | rfl | kernel_rfl)
  · exact w_vx (v := .int .i64 d) rfl (fun A W h => by
    have e40 : A.eval (.tmp 40) = .pointer (some ⟨g, 0, none⟩) := h.vb 0 40
    have k0 := gk h.grew q0
    simp only [execOp, e40]
    simp [go_sem, k0])
  · exact w_call (v := .string ⟨(varT d : List UInt8).toArray⟩) rfl (fun A W h => by
    have e41 : A.eval (.tmp 41) = .int .i64 d := h.vb 1 41
    refine Eq.trans (b := .ok (.enter 94 #[A.eval (.tmp 41)]) W) (by kernel_rfl) ?_
    rw [e41]) (fun W hW => same_grew (CD.out W))
  · exact w_vx (v := .pointer (some ⟨g, 1, none⟩)) rfl (fun A W h => by
    have e4 : A.eval (.tmp 4) = .pointer (some ⟨g, 0, none⟩) := (h.slot 4).trans rfl
    simp only [execOp, e4]
    first | (simp [go_sem]; done) | rfl | kernel_rfl)
  · exact w_vx (v := .int .i64 lo) rfl (fun A W h => by
    have e43 : A.eval (.tmp 43) = .pointer (some ⟨g, 1, none⟩) := h.vb 3 43
    have k0 := gk h.grew q1
    simp only [execOp, e43]
    simp [go_sem, k0])
  · exact w_call (v := .string ⟨(itoa lo : List UInt8).toArray⟩) rfl (fun A W h => by
    have e44 : A.eval (.tmp 44) = .int .i64 lo := h.vb 4 44
    refine Eq.trans (b := .ok (.enter 28 #[A.eval (.tmp 44)]) W) (by kernel_rfl) ?_
    rw [e44]) (fun W hW => CL.out W (HT.out.grew (grew_tr HGE.out hW)))
  · exact w_build _ 3 _ rfl #[(0, .string ⟨([115, 101, 116] : List UInt8).toArray⟩), (1, .string ⟨(varT d : List UInt8).toArray⟩), (2, .string ⟨(itoa lo : List UInt8).toArray⟩)] #[.string ⟨([115, 101, 116] : List UInt8).toArray⟩, .string ⟨(varT d : List UInt8).toArray⟩, .string ⟨(itoa lo : List UInt8).toArray⟩] 9 (fun A W h => by
    have e42 : A.eval (.tmp 42) = .string ⟨(varT d : List UInt8).toArray⟩ := h.vb 2 42
    have e45 : A.eval (.tmp 45) = .string ⟨(itoa lo : List UInt8).toArray⟩ := h.vb 5 45
    simp only [List.map_toArray, List.map_cons, List.map_nil, evalK, e42, e45]) (fun W => by simp [go_sem]) rfl (HGE.out.size) rfl
  · exact w_ex (fun A W h => by
    obtain ⟨y46, e46, hB46, hlt46, hc46⟩ := h.vb 6 46
    exact ⟨_, W, by simp only [execOp, e46]; rfl, ⟨_, rfl, hB46, hlt46, hc46⟩, Below.refl _ _⟩)
  intro vs w9 g9 hR
  have x0 : vs 0 = .pointer (some ⟨g, 0, none⟩) := hR 0 40 (by kernel_rfl)
  have x1 : vs 1 = .int .i64 d := hR 1 41 (by kernel_rfl)
  have x2 : vs 2 = .string ⟨(varT d : List UInt8).toArray⟩ := hR 2 42 (by kernel_rfl)
  have x3 : vs 3 = .pointer (some ⟨g, 1, none⟩) := hR 3 43 (by kernel_rfl)
  have x4 : vs 4 = .int .i64 lo := hR 4 44 (by kernel_rfl)
  have x5 : vs 5 = .string ⟨(itoa lo : List UInt8).toArray⟩ := hR 5 45 (by kernel_rfl)
  obtain ⟨z6, x6, zB6, zl6, zc6⟩ := hR 6 46 (by kernel_rfl)
  obtain ⟨z7, x7, zB7, zl7, zc7⟩ := hR 7 2 (by kernel_rfl)
  simp only [putAll, Act.put, List.setIfInBounds_toArray, List.set_cons_zero, List.set_cons_succ, Nat.zero_add, Nat.reduceAdd, x0, x1, x2, x3, x4, x5, x6, x7]
  clear hR x0 x1 x2 x3 x4 x5 x6 x7
  clear q0 q1 q2
  have HG9 := Lib.hid (grew_tr HGE.out g9)
  clear g9
  go_wp2
  go_ret
  exact ⟨_, rfl, ⟨z7, rfl, zB7, zl7, by simpa [wordsI, nameT, setT] using zc7⟩, HG9.out⟩

set_option maxRecDepth 100000 in
set_option maxHeartbeats 4000000 in
theorem words6 (d a b rel lo hi tv procs size : Int) (w : World) (hok : insOkB ⟨(6 : Int), d, a, b, rel, lo, hi, tv⟩ procs size = true) (hto : tv ≤ 9223372036854775807) (T : Tab w) :
    Calls Tryz.prog 42 #[Ins.v ⟨(6 : Int), d, a, b, rel, lo, hi, tv⟩] w fun e w' => ∃ v, e = .returned v ∧ RowS w.heap.size 3 3 (wordsI ⟨(6 : Int), d, a, b, rel, lo, hi, tv⟩) w' v ∧ Grew w w' := by
  obtain ⟨-, vd, va, vb, hr, hl, h0⟩ := okFacts hok
  have CD := Lib.hid fun w => implVar d w vd
  have CA := Lib.hid fun w => implVar a w va
  have CB := Lib.hid fun w => implVar b w vb
  have HT := Lib.hid T
  clear vd va vb hok hto T hr hl h0
  have CO : Hid (∀ w, Calls Tryz.prog 47 #[Ins.v ⟨(6 : Int), d, a, b, rel, lo, hi, tv⟩] w fun e w' => e = .returned (.iface 137 (.agg #[.int .i64 d, .int .i64 a])) ∧ Grew w w') := Lib.hid (fun w => codeOf ⟨(6 : Int), d, a, b, rel, lo, hi, tv⟩ w)
  go_enter Tryz.func42, Tryz.ntmps42
  go_wp2_with ((with_reducible refine (CO.out _).mono ?_); rintro e w' ⟨rfl, g'⟩; (first | obtain ⟨x, rfl⟩ := ext_cold g' | obtain ⟨x, rfl⟩ := ext_col g' | obtain ⟨x, rfl⟩ := ext_of g'); clear g')
  refine let_world ?_
  intro E hE
  obtain ⟨g, hg⟩ : ∃ g, g = (ext (w.alloc (.cells #[.int .i64 (6 : Int), .int .i64 d, .int .i64 a, .int .i64 b, .int .i64 rel, .int .i64 lo, .int .i64 hi, .int .i64 tv] 38)) x).heap.size := ⟨_, rfl⟩
  rw [← hg]
  have q0 : E.cell? ⟨g, 0, none⟩ = some (.int .i64 d) := by rw [hE, hg]; simp [go_sem]
  have q1 : E.cell? ⟨g, 1, none⟩ = some (.int .i64 a) := by rw [hE, hg]; simp [go_sem]
  have GE : Grew w E := by rw [hE]; exact gr
  have HGE := Lib.hid GE
  clear hE GE hg x
  refine region_w 137 [pgV (.pointer (some ⟨g, 0, none⟩)), pgV (.int .i64 d), pgV (.string ⟨(varT d : List UInt8).toArray⟩), pgV (.pointer (some ⟨g, 1, none⟩)), pgV (.int .i64 a), pgV (.string ⟨(varT a : List UInt8).toArray⟩), pgS (w.heap.size) (3) (3) ([[108, 111, 97, 100], varT d, varT a]), pgS (w.heap.size) (3) (3) ([[108, 111, 97, 100], varT d, varT a])] (by kernel_rfl) rfl (by kernel_rfl) ⟨?_, ?_, ?_, ?_, ?_, ?_, ?_, ?_, trivial⟩ ?_
  · exact w_vx (v := .pointer (some ⟨g, 0, none⟩)) rfl (fun A W h => by
    have e5 : A.eval (.tmp 5) = .pointer (some ⟨g, 0, none⟩) := (h.slot 5).trans rfl
    simp only [execOp, e5]
    first | (simp [go_sem]; done) | rfl | kernel_rfl)
  · exact w_vx (v := .int .i64 d) rfl (fun A W h => by
    have e60 : A.eval (.tmp 60) = .pointer (some ⟨g, 0, none⟩) := h.vb 0 60
    have k0 := gk h.grew q0
    simp only [execOp, e60]
    simp [go_sem, k0])
  · exact w_call (v := .string ⟨(varT d : List UInt8).toArray⟩) rfl (fun A W h => by
    have e61 : A.eval (.tmp 61) = .int .i64 d := h.vb 1 61
    refine Eq.trans (b := .ok (.enter 94 #[A.eval (.tmp 61)]) W) (by kernel_rfl) ?_
    rw [e61]) (fun W hW => same_grew (CD.out W))
  · exact w_vx (v := .pointer (some ⟨g, 1, none⟩)) rfl (fun A W h => by
    have e5 : A.eval (.tmp 5) = .pointer (some ⟨g, 0, none⟩) := (h.slot 5).trans rfl
    simp only [execOp, e5]
    first | (simp [go_sem]; done) | rfl | kernel_rfl)
  · exact w_vx (v := .int .i64 a) rfl (fun A W h => by
    have e63 : A.eval (.tmp 63) = .pointer (some ⟨g, 1, none⟩) := h.vb 3 63
    have k0 := gk h.grew q1
    simp only [execOp, e63]
    simp [go_sem, k0])
  · exact w_call (v := .string ⟨(varT a : List UInt8).toArray⟩) rfl (fun A W h => by
    have e64 : A.eval (.tmp 64) = .int .i64 a := h.vb 4 64
    refine Eq.trans (b := .ok (.enter 94 #[A.eval (.tmp 64)]) W) (by kernel_rfl) ?_
    rw [e64]) (fun W hW => same_grew (CA.out W))
  · exact w_build _ 3 _ rfl #[(0, .string ⟨([108, 111, 97, 100] : List UInt8).toArray⟩), (1, .string ⟨(varT d : List UInt8).toArray⟩), (2, .string ⟨(varT a : List UInt8).toArray⟩)] #[.string ⟨([108, 111, 97, 100] : List UInt8).toArray⟩, .string ⟨(varT d : List UInt8).toArray⟩, .string ⟨(varT a : List UInt8).toArray⟩] 9 (fun A W h => by
    have e62 : A.eval (.tmp 62) = .string ⟨(varT d : List UInt8).toArray⟩ := h.vb 2 62
    have e65 : A.eval (.tmp 65) = .string ⟨(varT a : List UInt8).toArray⟩ := h.vb 5 65
    simp only [List.map_toArray, List.map_cons, List.map_nil, evalK, e62, e65]) (fun W => by simp [go_sem]) rfl (HGE.out.size) rfl
  · exact w_ex (fun A W h => by
    obtain ⟨y66, e66, hB66, hlt66, hc66⟩ := h.vb 6 66
    exact ⟨_, W, by simp only [execOp, e66]; rfl, ⟨_, rfl, hB66, hlt66, hc66⟩, Below.refl _ _⟩)
  intro vs w9 g9 hR
  have x0 : vs 0 = .pointer (some ⟨g, 0, none⟩) := hR 0 60 (by kernel_rfl)
  have x1 : vs 1 = .int .i64 d := hR 1 61 (by kernel_rfl)
  have x2 : vs 2 = .string ⟨(varT d : List UInt8).toArray⟩ := hR 2 62 (by kernel_rfl)
  have x3 : vs 3 = .pointer (some ⟨g, 1, none⟩) := hR 3 63 (by kernel_rfl)
  have x4 : vs 4 = .int .i64 a := hR 4 64 (by kernel_rfl)
  have x5 : vs 5 = .string ⟨(varT a : List UInt8).toArray⟩ := hR 5 65 (by kernel_rfl)
  obtain ⟨z6, x6, zB6, zl6, zc6⟩ := hR 6 66 (by kernel_rfl)
  obtain ⟨z7, x7, zB7, zl7, zc7⟩ := hR 7 2 (by kernel_rfl)
  simp only [putAll, Act.put, List.setIfInBounds_toArray, List.set_cons_zero, List.set_cons_succ, Nat.zero_add, Nat.reduceAdd, x0, x1, x2, x3, x4, x5, x6, x7]
  clear hR x0 x1 x2 x3 x4 x5 x6 x7
  clear q0 q1
  have HG9 := Lib.hid (grew_tr HGE.out g9)
  clear g9
  go_wp2
  go_ret
  exact ⟨_, rfl, ⟨z7, rfl, zB7, zl7, by simpa [wordsI, nameT, setT] using zc7⟩, HG9.out⟩

set_option maxRecDepth 100000 in
set_option maxHeartbeats 4000000 in
theorem words7 (d a b rel lo hi tv procs size : Int) (w : World) (hok : insOkB ⟨(7 : Int), d, a, b, rel, lo, hi, tv⟩ procs size = true) (hto : tv ≤ 9223372036854775807) (T : Tab w) :
    Calls Tryz.prog 42 #[Ins.v ⟨(7 : Int), d, a, b, rel, lo, hi, tv⟩] w fun e w' => ∃ v, e = .returned v ∧ RowS w.heap.size 3 3 (wordsI ⟨(7 : Int), d, a, b, rel, lo, hi, tv⟩) w' v ∧ Grew w w' := by
  obtain ⟨-, vd, va, vb, hr, hl, h0⟩ := okFacts hok
  have CD := Lib.hid fun w => implVar d w vd
  have CA := Lib.hid fun w => implVar a w va
  have CB := Lib.hid fun w => implVar b w vb
  have HT := Lib.hid T
  clear vd va vb hok hto T hr hl h0
  have CO : Hid (∀ w, Calls Tryz.prog 47 #[Ins.v ⟨(7 : Int), d, a, b, rel, lo, hi, tv⟩] w fun e w' => e = .returned (.iface 139 (.agg #[.int .i64 a, .int .i64 b])) ∧ Grew w w') := Lib.hid (fun w => codeOf ⟨(7 : Int), d, a, b, rel, lo, hi, tv⟩ w)
  go_enter Tryz.func42, Tryz.ntmps42
  go_wp2_with ((with_reducible refine (CO.out _).mono ?_); rintro e w' ⟨rfl, g'⟩; (first | obtain ⟨x, rfl⟩ := ext_cold g' | obtain ⟨x, rfl⟩ := ext_col g' | obtain ⟨x, rfl⟩ := ext_of g'); clear g')
  refine let_world ?_
  intro E hE
  obtain ⟨g, hg⟩ : ∃ g, g = (ext (w.alloc (.cells #[.int .i64 (7 : Int), .int .i64 d, .int .i64 a, .int .i64 b, .int .i64 rel, .int .i64 lo, .int .i64 hi, .int .i64 tv] 38)) x).heap.size := ⟨_, rfl⟩
  rw [← hg]
  have q0 : E.cell? ⟨g, 0, none⟩ = some (.int .i64 a) := by rw [hE, hg]; simp [go_sem]
  have q1 : E.cell? ⟨g, 1, none⟩ = some (.int .i64 b) := by rw [hE, hg]; simp [go_sem]
  have GE : Grew w E := by rw [hE]; exact gr
  have HGE := Lib.hid GE
  clear hE GE hg x
  refine region_w 137 [pgV (.pointer (some ⟨g, 0, none⟩)), pgV (.int .i64 a), pgV (.string ⟨(varT a : List UInt8).toArray⟩), pgV (.pointer (some ⟨g, 1, none⟩)), pgV (.int .i64 b), pgV (.string ⟨(varT b : List UInt8).toArray⟩), pgS (w.heap.size) (3) (3) ([[115, 116, 111, 114, 101], varT a, varT b]), pgS (w.heap.size) (3) (3) ([[115, 116, 111, 114, 101], varT a, varT b])] (by kernel_rfl) rfl (by kernel_rfl) ⟨?_, ?_, ?_, ?_, ?_, ?_, ?_, ?_, trivial⟩ ?_
  · exact w_vx (v := .pointer (some ⟨g, 0, none⟩)) rfl (fun A W h => by
    have e6 : A.eval (.tmp 6) = .pointer (some ⟨g, 0, none⟩) := (h.slot 6).trans rfl
    simp only [execOp, e6]
    first | (simp [go_sem]; done) | rfl | kernel_rfl)
  · exact w_vx (v := .int .i64 a) rfl (fun A W h => by
    have e70 : A.eval (.tmp 70) = .pointer (some ⟨g, 0, none⟩) := h.vb 0 70
    have k0 := gk h.grew q0
    simp only [execOp, e70]
    simp [go_sem, k0])
  · exact w_call (v := .string ⟨(varT a : List UInt8).toArray⟩) rfl (fun A W h => by
    have e71 : A.eval (.tmp 71) = .int .i64 a := h.vb 1 71
    refine Eq.trans (b := .ok (.enter 94 #[A.eval (.tmp 71)]) W) (by kernel_rfl) ?_
    rw [e71]) (fun W hW => same_grew (CA.out W))
  · exact w_vx (v := .pointer (some ⟨g, 1, none⟩)) rfl (fun A W h => by
    have e6 : A.eval (.tmp 6) = .pointer (some ⟨g, 0, none⟩) := (h.slot 6).trans rfl
    simp only [execOp, e6]
    first | (simp [go_sem]; done) | rfl | kernel_rfl)
  · exact w_vx (v := .int .i64 b) rfl (fun A W h => by
    have e73 : A.eval (.tmp 73) = .pointer (some ⟨g, 1, none⟩) := h.vb 3 73
    have k0 := gk h.grew q1
    simp only [execOp, e73]
    simp [go_sem, k0])
  · exact w_call (v := .string ⟨(varT b : List UInt8).toArray⟩) rfl (fun A W h => by
    have e74 : A.eval (.tmp 74) = .int .i64 b := h.vb 4 74
    refine Eq.trans (b := .ok (.enter 94 #[A.eval (.tmp 74)]) W) (by kernel_rfl) ?_
    rw [e74]) (fun W hW => same_grew (CB.out W))
  · exact w_build _ 3 _ rfl #[(0, .string ⟨([115, 116, 111, 114, 101] : List UInt8).toArray⟩), (1, .string ⟨(varT a : List UInt8).toArray⟩), (2, .string ⟨(varT b : List UInt8).toArray⟩)] #[.string ⟨([115, 116, 111, 114, 101] : List UInt8).toArray⟩, .string ⟨(varT a : List UInt8).toArray⟩, .string ⟨(varT b : List UInt8).toArray⟩] 9 (fun A W h => by
    have e72 : A.eval (.tmp 72) = .string ⟨(varT a : List UInt8).toArray⟩ := h.vb 2 72
    have e75 : A.eval (.tmp 75) = .string ⟨(varT b : List UInt8).toArray⟩ := h.vb 5 75
    simp only [List.map_toArray, List.map_cons, List.map_nil, evalK, e72, e75]) (fun W => by simp [go_sem]) rfl (HGE.out.size) rfl
  · exact w_ex (fun A W h => by
    obtain ⟨y76, e76, hB76, hlt76, hc76⟩ := h.vb 6 76
    exact ⟨_, W, by simp only [execOp, e76]; rfl, ⟨_, rfl, hB76, hlt76, hc76⟩, Below.refl _ _⟩)
  intro vs w9 g9 hR
  have x0 : vs 0 = .pointer (some ⟨g, 0, none⟩) := hR 0 70 (by kernel_rfl)
  have x1 : vs 1 = .int .i64 a := hR 1 71 (by kernel_rfl)
  have x2 : vs 2 = .string ⟨(varT a : List UInt8).toArray⟩ := hR 2 72 (by kernel_rfl)
  have x3 : vs 3 = .pointer (some ⟨g, 1, none⟩) := hR 3 73 (by kernel_rfl)
  have x4 : vs 4 = .int .i64 b := hR 4 74 (by kernel_rfl)
  have x5 : vs 5 = .string ⟨(varT b : List UInt8).toArray⟩ := hR 5 75 (by kernel_rfl)
  obtain ⟨z6, x6, zB6, zl6, zc6⟩ := hR 6 76 (by kernel_rfl)
  obtain ⟨z7, x7, zB7, zl7, zc7⟩ := hR 7 2 (by kernel_rfl)
  simp only [putAll, Act.put, List.setIfInBounds_toArray, List.set_cons_zero, List.set_cons_succ, Nat.zero_add, Nat.reduceAdd, x0, x1, x2, x3, x4, x5, x6, x7]
  clear hR x0 x1 x2 x3 x4 x5 x6 x7
  clear q0 q1
  have HG9 := Lib.hid (grew_tr HGE.out g9)
  clear g9
  go_wp2
  go_ret
  exact ⟨_, rfl, ⟨z7, rfl, zB7, zl7, by simpa [wordsI, nameT, setT] using zc7⟩, HG9.out⟩

set_option maxRecDepth 100000 in
set_option maxHeartbeats 4000000 in
theorem words8 (d a b rel lo hi tv procs size : Int) (w : World) (hok : insOkB ⟨(8 : Int), d, a, b, rel, lo, hi, tv⟩ procs size = true) (hto : tv ≤ 9223372036854775807) (T : Tab w) :
    Calls Tryz.prog 42 #[Ins.v ⟨(8 : Int), d, a, b, rel, lo, hi, tv⟩] w fun e w' => ∃ v, e = .returned v ∧ RowS w.heap.size 5 5 (wordsI ⟨(8 : Int), d, a, b, rel, lo, hi, tv⟩) w' v ∧ Grew w w' := by
  obtain ⟨-, vd, va, vb, hr, hl, h0⟩ := okFacts hok
  have CD := Lib.hid fun w => implVar d w vd
  have CA := Lib.hid fun w => implVar a w va
  have CB := Lib.hid fun w => implVar b w vb
  have HT := Lib.hid T
  have h0 : 0 ≤ tv := h0 (by simp)
  have CT := Lib.hid fun w T => implItoa tv w (by omega) (by omega) T
  have hr : rel = 1 ∨ rel = 2 ∨ rel = 3 ∨ rel = 4 := hr (by simp)
  have HRE := Lib.hid (relsL_at hr)
  obtain ⟨rn, hrn, hrl⟩ : ∃ rn : Nat, rel = rn ∧ rn < 5 := ⟨rel.toNat, by omega, by omega⟩
  subst hrn
  clear vd va vb hok hto T hr hl h0
  have CO : Hid (∀ w, Calls Tryz.prog 47 #[Ins.v ⟨(8 : Int), d, a, b, (rn : Int), lo, hi, tv⟩] w fun e w' => e = .returned (.iface 98 (.agg #[.int .i64 (rn : Int), .int .i64 a, .int .i64 b, .int .i64 tv])) ∧ Grew w w') := Lib.hid (fun w => codeOf ⟨(8 : Int), d, a, b, (rn : Int), lo, hi, tv⟩ w)
  go_enter Tryz.func42, Tryz.ntmps42
  go_wp2_with ((with_reducible refine (CO.out _).mono ?_); rintro e w' ⟨rfl, g'⟩; (first | obtain ⟨x, rfl⟩ := ext_cold g' | obtain ⟨x, rfl⟩ := ext_col g' | obtain ⟨x, rfl⟩ := ext_of g'); clear g')
  refine let_world ?_
  intro E hE
  obtain ⟨g, hg⟩ : ∃ g, g = (ext (w.alloc (.cells #[.int .i64 (8 : Int), .int .i64 d, .int .i64 a, .int .i64 b, .int .i64 (rn : Int), .int .i64 lo, .int .i64 hi, .int .i64 tv] 38)) x).heap.size := ⟨_, rfl⟩
  rw [← hg]
  have q0 : E.cell? ⟨g, 0, none⟩ = some (.int .i64 (rn : Int)) := by rw [hE, hg]; simp [go_sem]
  have q1 : E.cell? ⟨g, 1, none⟩ = some (.int .i64 a) := by rw [hE, hg]; simp [go_sem]
  have q2 : E.cell? ⟨g, 2, none⟩ = some (.int .i64 b) := by rw [hE, hg]; simp [go_sem]
  have q3 : E.cell? ⟨g, 3, none⟩ = some (.int .i64 tv) := by rw [hE, hg]; simp [go_sem]
  have GE : Grew w E := by rw [hE]; exact gr
  have HGE := Lib.hid GE
  clear hE GE hg x
  refine region_w 137 [pgV (.pointer (some ⟨g, 1, none⟩)), pgV (.int .i64 a), pgV (.string ⟨(varT a : List UInt8).toArray⟩), pgS (0) (5) (5) (relsL), pgV (.pointer (some ⟨g, 0, none⟩)), pgV (.int .i64 (rn : Int)), pgP (relT rn), pgV (.string ⟨(relT rn : List UInt8).toArray⟩), pgV (.pointer (some ⟨g, 2, none⟩)), pgV (.int .i64 b), pgV (.string ⟨(varT b : List UInt8).toArray⟩), pgV (.pointer (some ⟨g, 3, none⟩)), pgV (.int .i64 tv), pgV (.string ⟨(itoa tv : List UInt8).toArray⟩), pgS (w.heap.size) (5) (5) ([[105, 102], varT a, relT rn, varT b, itoa tv]), pgS (w.heap.size) (5) (5) ([[105, 102], varT a, relT rn, varT b, itoa tv])] (by kernel_rfl) rfl (by kernel_rfl) ⟨?_, ?_, ?_, ?_, ?_, ?_, ?_, ?_, ?_, ?_, ?_, ?_, ?_, ?_, ?_, ?_, trivial⟩ ?_
  · exact w_vx (v := .pointer (some ⟨g, 1, none⟩)) rfl (fun A W h => by
    have e7 : A.eval (.tmp 7) = .pointer (some ⟨g, 0, none⟩) := (h.slot 7).trans rfl
    simp only [execOp, e7]
    first | (simp [go_sem]; done) | rfl | kernel_rfl)
  · exact w_vx (v := .int .i64 a) rfl (fun A W h => by
    have e80 : A.eval (.tmp 80) = .pointer (some ⟨g, 1, none⟩) := h.vb 0 80
    have k0 := gk h.grew q1
    simp only [execOp, e80]
    simp [go_sem, k0])
  · exact w_call (v := .string ⟨(varT a : List UInt8).toArray⟩) rfl (fun A W h => by
    have e81 : A.eval (.tmp 81) = .int .i64 a := h.vb 1 81
    refine Eq.trans (b := .ok (.enter 94 #[A.eval (.tmp 81)]) W) (by kernel_rfl) ?_
    rw [e81]) (fun W hW => same_grew (CA.out W))
  · exact w_callX (fun A W h => by
    refine Eq.trans (b := .ok (.enter 95 #[]) W) (by kernel_rfl) ?_
    rfl) (fun W hW => implRels W)
  · exact w_vx (v := .pointer (some ⟨g, 0, none⟩)) rfl (fun A W h => by
    have e7 : A.eval (.tmp 7) = .pointer (some ⟨g, 0, none⟩) := (h.slot 7).trans rfl
    simp only [execOp, e7]
    first | (simp [go_sem]; done) | rfl | kernel_rfl)
  · exact w_vx (v := .int .i64 (rn : Int)) rfl (fun A W h => by
    have e84 : A.eval (.tmp 84) = .pointer (some ⟨g, 0, none⟩) := h.vb 4 84
    have k0 := gk h.grew q0
    simp only [execOp, e84]
    simp [go_sem, k0])
  · exact w_ex (fun A W h => by
    obtain ⟨y83, e83, hB83, hlt83, hc83⟩ := h.vb 3 83
    have e85 : A.eval (.tmp 85) = .int .i64 (rn : Int) := h.vb 5 85
    exact ⟨.pointer (some ⟨y83, rn, none⟩), W, by (simp only [execOp, e83, e85]; simp [go_sem] <;> (intro hge; omega)), ⟨_, rfl, hc83 rn _ HRE.out⟩, Below.refl _ _⟩)
  · exact w_vx (v := .string ⟨(relT rn : List UInt8).toArray⟩) rfl (fun A W h => by
    obtain ⟨y86, e86, hc86⟩ := h.vb 6 86
    simp only [execOp, e86]
    simp [go_sem, hc86])
  · exact w_vx (v := .pointer (some ⟨g, 2, none⟩)) rfl (fun A W h => by
    have e7 : A.eval (.tmp 7) = .pointer (some ⟨g, 0, none⟩) := (h.slot 7).trans rfl
    simp only [execOp, e7]
    first | (simp [go_sem]; done) | rfl | kernel_rfl)
  · exact w_vx (v := .int .i64 b) rfl (fun A W h => by
    have e88 : A.eval (.tmp 88) = .pointer (some ⟨g, 2, none⟩) := h.vb 8 88
    have k0 := gk h.grew q2
    simp only [execOp, e88]
    simp [go_sem, k0])
  · exact w_call (v := .string ⟨(varT b : List UInt8).toArray⟩) rfl (fun A W h => by
    have e89 : A.eval (.tmp 89) = .int .i64 b := h.vb 9 89
    refine Eq.trans (b := .ok (.enter 94 #[A.eval (.tmp 89)]) W) (by kernel_rfl) ?_
    rw [e89]) (fun W hW => same_grew (CB.out W))
  · exact w_vx (v := .pointer (some ⟨g, 3, none⟩)) rfl (fun A W h => by
    have e7 : A.eval (.tmp 7) = .pointer (some ⟨g, 0, none⟩) := (h.slot 7).trans rfl
    simp only [execOp, e7]
    first | (simp [go_sem]; done) | rfl | kernel_rfl)
  · exact w_vx (v := .int .i64 tv) rfl (fun A W h => by
    have e91 : A.eval (.tmp 91) = .pointer (some ⟨g, 3, none⟩) := h.vb 11 91
    have k0 := gk h.grew q3
    simp only [execOp, e91]
    simp [go_sem, k0])
  · exact w_call (v := .string ⟨(itoa tv : List UInt8).toArray⟩) rfl (fun A W h => by
    have e92 : A.eval (.tmp 92) = .int .i64 tv := h.vb 12 92
    refine Eq.trans (b := .ok (.enter 27 #[A.eval (.tmp 92)]) W) (by kernel_rfl) ?_
    rw [e92]) (fun W hW => CT.out W (HT.out.grew (grew_tr HGE.out hW)))
  · exact w_build _ 5 _ rfl #[(0, .string ⟨([105, 102] : List UInt8).toArray⟩), (1, .string ⟨(varT a : List UInt8).toArray⟩), (2, .string ⟨(relT rn : List UInt8).toArray⟩), (3, .string ⟨(varT b : List UInt8).toArray⟩), (4, .string ⟨(itoa tv : List UInt8).toArray⟩)] #[.string ⟨([105, 102] : List UInt8).toArray⟩, .string ⟨(varT a : List UInt8).toArray⟩, .string ⟨(relT rn : List UInt8).toArray⟩, .string ⟨(varT b : List UInt8).toArray⟩, .string ⟨(itoa tv : List UInt8).toArray⟩] 9 (fun A W h => by
    have e82 : A.eval (.tmp 82) = .string ⟨(varT a : List UInt8).toArray⟩ := h.vb 2 82
    have e87 : A.eval (.tmp 87) = .string ⟨(relT rn : List UInt8).toArray⟩ := h.vb 7 87
    have e90 : A.eval (.tmp 90) = .string ⟨(varT b : List UInt8).toArray⟩ := h.vb 10 90
    have e93 : A.eval (.tmp 93) = .string ⟨(itoa tv : List UInt8).toArray⟩ := h.vb 13 93
    simp only [List.map_toArray, List.map_cons, List.map_nil, evalK, e82, e87, e90, e93]) (fun W => by simp [go_sem]) rfl (HGE.out.size) rfl
  · exact w_ex (fun A W h => by
    obtain ⟨y94, e94, hB94, hlt94, hc94⟩ := h.vb 14 94
    exact ⟨_, W, by simp only [execOp, e94]; rfl, ⟨_, rfl, hB94, hlt94, hc94⟩, Below.refl _ _⟩)
  intro vs w9 g9 hR
  have x0 : vs 0 = .pointer (some ⟨g, 1, none⟩) := hR 0 80 (by kernel_rfl)
  have x1 : vs 1 = .int .i64 a := hR 1 81 (by kernel_rfl)
  have x2 : vs 2 = .string ⟨(varT a : List UInt8).toArray⟩ := hR 2 82 (by kernel_rfl)
  obtain ⟨z3, x3, zB3, zl3, zc3⟩ := hR 3 83 (by kernel_rfl)
  have x4 : vs 4 = .pointer (some ⟨g, 0, none⟩) := hR 4 84 (by kernel_rfl)
  have x5 : vs 5 = .int .i64 (rn : Int) := hR 5 85 (by kernel_rfl)
  obtain ⟨z6, x6, _⟩ := hR 6 86 (by kernel_rfl)
  have x7 : vs 7 = .string ⟨(relT rn : List UInt8).toArray⟩ := hR 7 87 (by kernel_rfl)
  have x8 : vs 8 = .pointer (some ⟨g, 2, none⟩) := hR 8 88 (by kernel_rfl)
  have x9 : vs 9 = .int .i64 b := hR 9 89 (by kernel_rfl)
  have x10 : vs 10 = .string ⟨(varT b : List UInt8).toArray⟩ := hR 10 90 (by kernel_rfl)
  have x11 : vs 11 = .pointer (some ⟨g, 3, none⟩) := hR 11 91 (by kernel_rfl)
  have x12 : vs 12 = .int .i64 tv := hR 12 92 (by kernel_rfl)
  have x13 : vs 13 = .string ⟨(itoa tv : List UInt8).toArray⟩ := hR 13 93 (by kernel_rfl)
  obtain ⟨z14, x14, zB14, zl14, zc14⟩ := hR 14 94 (by kernel_rfl)
  obtain ⟨z15, x15, zB15, zl15, zc15⟩ := hR 15 2 (by kernel_rfl)
  simp only [putAll, Act.put, List.setIfInBounds_toArray, List.set_cons_zero, List.set_cons_succ, Nat.zero_add, Nat.reduceAdd, x0, x1, x2, x3, x4, x5, x6, x7, x8, x9, x10, x11, x12, x13, x14, x15]
  clear hR x0 x1 x2 x3 x4 x5 x6 x7 x8 x9 x10 x11 x12 x13 x14 x15
  clear q0 q1 q2 q3
  have HG9 := Lib.hid (grew_tr HGE.out g9)
  clear g9
  go_wp2
  go_ret
  exact ⟨_, rfl, ⟨z15, rfl, zB15, zl15, by simpa [wordsI, nameT, setT] using zc15⟩, HG9.out⟩

set_option maxRecDepth 100000 in
set_option maxHeartbeats 4000000 in
theorem words9 (d a b rel lo hi tv procs size : Int) (w : World) (hok : insOkB ⟨(9 : Int), d, a, b, rel, lo, hi, tv⟩ procs size = true) (hto : tv ≤ 9223372036854775807) (T : Tab w) :
    Calls Tryz.prog 42 #[Ins.v ⟨(9 : Int), d, a, b, rel, lo, hi, tv⟩] w fun e w' => ∃ v, e = .returned v ∧ RowS w.heap.size 2 2 (wordsI ⟨(9 : Int), d, a, b, rel, lo, hi, tv⟩) w' v ∧ Grew w w' := by
  obtain ⟨-, vd, va, vb, hr, hl, h0⟩ := okFacts hok
  have CD := Lib.hid fun w => implVar d w vd
  have CA := Lib.hid fun w => implVar a w va
  have CB := Lib.hid fun w => implVar b w vb
  have HT := Lib.hid T
  have h0 : 0 ≤ tv := h0 (by simp)
  have CT := Lib.hid fun w T => implItoa tv w (by omega) (by omega) T
  clear vd va vb hok hto T hr hl h0
  have CO : Hid (∀ w, Calls Tryz.prog 47 #[Ins.v ⟨(9 : Int), d, a, b, rel, lo, hi, tv⟩] w fun e w' => e = .returned (.iface 101 (.agg #[.int .i64 tv])) ∧ Grew w w') := Lib.hid (fun w => codeOf ⟨(9 : Int), d, a, b, rel, lo, hi, tv⟩ w)
  go_enter Tryz.func42, Tryz.ntmps42
  go_wp2_with ((with_reducible refine (CO.out _).mono ?_); rintro e w' ⟨rfl, g'⟩; (first | obtain ⟨x, rfl⟩ := ext_cold g' | obtain ⟨x, rfl⟩ := ext_col g' | obtain ⟨x, rfl⟩ := ext_of g'); clear g')
  go_wp2_with ((with_reducible refine (CT.out _ (HT.out.grew (gr))).mono ?_); rintro e w' ⟨rfl, g'⟩; (first | obtain ⟨y, rfl⟩ := ext_cold g' | obtain ⟨y, rfl⟩ := ext_col g' | obtain ⟨y, rfl⟩ := ext_of g'); clear g')
  go_ret
  exact ⟨.slice (some ⟨_, 0, none⟩) 2 2, rfl, rowS_newH (by simp) (gr) (by simp [wordsI, nameT, setT]), gr⟩

set_option maxRecDepth 100000 in
set_option maxHeartbeats 4000000 in
theorem words10 (d a b rel lo hi tv procs size : Int) (w : World) (hok : insOkB ⟨(10 : Int), d, a, b, rel, lo, hi, tv⟩ procs size = true) (hto : tv ≤ 9223372036854775807) (T : Tab w) :
    Calls Tryz.prog 42 #[Ins.v ⟨(10 : Int), d, a, b, rel, lo, hi, tv⟩] w fun e w' => ∃ v, e = .returned v ∧ RowS w.heap.size 4 4 (wordsI ⟨(10 : Int), d, a, b, rel, lo, hi, tv⟩) w' v ∧ Grew w w' := by
  obtain ⟨-, vd, va, vb, hr, hl, h0⟩ := okFacts hok
  have CD := Lib.hid fun w => implVar d w vd
  have CA := Lib.hid fun w => implVar a w va
  have CB := Lib.hid fun w => implVar b w vb
  have HT := Lib.hid T
  have h0 : 0 ≤ tv := h0 (by simp)
  have CT := Lib.hid fun w T => implItoa tv w (by omega) (by omega) T
  clear vd va vb hok hto T hr hl h0
  have CO : Hid (∀ w, Calls Tryz.prog 47 #[Ins.v ⟨(10 : Int), d, a, b, rel, lo, hi, tv⟩] w fun e w' => e = .returned (.iface 103 (.agg #[.int .i64 d, .int .i64 a, .int .i64 tv])) ∧ Grew w w') := Lib.hid (fun w => codeOf ⟨(10 : Int), d, a, b, rel, lo, hi, tv⟩ w)
  go_enter Tryz.func42, Tryz.ntmps42
  go_wp2_with ((with_reducible refine (CO.out _).mono ?_); rintro e w' ⟨rfl, g'⟩; (first | obtain ⟨x, rfl⟩ := ext_cold g' | obtain ⟨x, rfl⟩ := ext_col g' | obtain ⟨x, rfl⟩ := ext_of g'); clear g')
  refine let_world ?_
  intro E hE
  obtain ⟨g, hg⟩ : ∃ g, g = (ext (w.alloc (.cells #[.int .i64 (10 : Int), .int .i64 d, .int .i64 a, .int .i64 b, .int .i64 rel, .int .i64 lo, .int .i64 hi, .int .i64 tv] 38)) x).heap.size := ⟨_, rfl⟩
  rw [← hg]
  have q0 : E.cell? ⟨g, 0, none⟩ = some (.int .i64 d) := by rw [hE, hg]; simp [go_sem]
  have q1 : E.cell? ⟨g, 1, none⟩ = some (.int .i64 a) := by rw [hE, hg]; simp [go_sem]
  have q2 : E.cell? ⟨g, 2, none⟩ = some (.int .i64 tv) := by rw [hE, hg]; simp [go_sem]
  have GE : Grew w E := by rw [hE]; exact gr
  have HGE := Lib.hid GE
  clear hE GE hg x
  refine region_w 137 [pgV (.pointer (some ⟨g, 0, none⟩)), pgV (.int .i64 d), pgV (.string ⟨(varT d : List UInt8).toArray⟩), pgV (.pointer (some ⟨g, 2, none⟩)), pgV (.int .i64 tv), pgV (.string ⟨(itoa tv : List UInt8).toArray⟩), pgV (.pointer (some ⟨g, 1, none⟩)), pgV (.int .i64 a), pgV (.string ⟨(varT a : List UInt8).toArray⟩), pgS (w.heap.size) (4) (4) ([[99, 97, 108, 108], varT d, itoa tv, varT a]), pgS (w.heap.size) (4) (4) ([[99, 97, 108, 108], varT d, itoa tv, varT a])] (by kernel_rfl) rfl (by kernel_rfl) ⟨?_, ?_, ?_, ?_, ?_, ?_, ?_, ?_, ?_, ?_, ?_, trivial⟩ ?_
  · exact w_vx (v := .pointer (some ⟨g, 0, none⟩)) rfl (fun A W h => by
    have e9 : A.eval (.tmp 9) = .pointer (some ⟨g, 0, none⟩) := (h.slot 9).trans rfl
    simp only [execOp, e9]
    first | (simp [go_sem]; done) | rfl | kernel_rfl)
  · exact w_vx (v := .int .i64 d) rfl (fun A W h => by
    have e105 : A.eval (.tmp 105) = .pointer (some ⟨g, 0, none⟩) := h.vb 0 105
    have k0 := gk h.grew q0
    simp only [execOp, e105]
    simp [go_sem, k0])
  · exact w_call (v := .string ⟨(varT d : List UInt8).toArray⟩) rfl (fun A W h => by
    have e106 : A.eval (.tmp 106) = .int .i64 d := h.vb 1 106
    refine Eq.trans (b := .ok (.enter 94 #[A.eval (.tmp 106)]) W) (by kernel_rfl) ?_
    rw [e106]) (fun W hW => same_grew (CD.out W))
  · exact w_vx (v := .pointer (some ⟨g, 2, none⟩)) rfl (fun A W h => by
    have e9 : A.eval (.tmp 9) = .pointer (some ⟨g, 0, none⟩) := (h.slot 9).trans rfl
    simp only [execOp, e9]
    first | (simp [go_sem]; done) | rfl | kernel_rfl)
  · exact w_vx (v := .int .i64 tv) rfl (fun A W h => by
    have e108 : A.eval (.tmp 108) = .pointer (some ⟨g, 2, none⟩) := h.vb 3 108
    have k0 := gk h.grew q2
    simp only [execOp, e108]
    simp [go_sem, k0])
  · exact w_call (v := .string ⟨(itoa tv : List UInt8).toArray⟩) rfl (fun A W h => by
    have e109 : A.eval (.tmp 109) = .int .i64 tv := h.vb 4 109
    refine Eq.trans (b := .ok (.enter 27 #[A.eval (.tmp 109)]) W) (by kernel_rfl) ?_
    rw [e109]) (fun W hW => CT.out W (HT.out.grew (grew_tr HGE.out hW)))
  · exact w_vx (v := .pointer (some ⟨g, 1, none⟩)) rfl (fun A W h => by
    have e9 : A.eval (.tmp 9) = .pointer (some ⟨g, 0, none⟩) := (h.slot 9).trans rfl
    simp only [execOp, e9]
    first | (simp [go_sem]; done) | rfl | kernel_rfl)
  · exact w_vx (v := .int .i64 a) rfl (fun A W h => by
    have e111 : A.eval (.tmp 111) = .pointer (some ⟨g, 1, none⟩) := h.vb 6 111
    have k0 := gk h.grew q1
    simp only [execOp, e111]
    simp [go_sem, k0])
  · exact w_call (v := .string ⟨(varT a : List UInt8).toArray⟩) rfl (fun A W h => by
    have e112 : A.eval (.tmp 112) = .int .i64 a := h.vb 7 112
    refine Eq.trans (b := .ok (.enter 94 #[A.eval (.tmp 112)]) W) (by kernel_rfl) ?_
    rw [e112]) (fun W hW => same_grew (CA.out W))
  · exact w_build _ 4 _ rfl #[(0, .string ⟨([99, 97, 108, 108] : List UInt8).toArray⟩), (1, .string ⟨(varT d : List UInt8).toArray⟩), (2, .string ⟨(itoa tv : List UInt8).toArray⟩), (3, .string ⟨(varT a : List UInt8).toArray⟩)] #[.string ⟨([99, 97, 108, 108] : List UInt8).toArray⟩, .string ⟨(varT d : List UInt8).toArray⟩, .string ⟨(itoa tv : List UInt8).toArray⟩, .string ⟨(varT a : List UInt8).toArray⟩] 9 (fun A W h => by
    have e107 : A.eval (.tmp 107) = .string ⟨(varT d : List UInt8).toArray⟩ := h.vb 2 107
    have e110 : A.eval (.tmp 110) = .string ⟨(itoa tv : List UInt8).toArray⟩ := h.vb 5 110
    have e113 : A.eval (.tmp 113) = .string ⟨(varT a : List UInt8).toArray⟩ := h.vb 8 113
    simp only [List.map_toArray, List.map_cons, List.map_nil, evalK, e107, e110, e113]) (fun W => by simp [go_sem]) rfl (HGE.out.size) rfl
  · exact w_ex (fun A W h => by
    obtain ⟨y114, e114, hB114, hlt114, hc114⟩ := h.vb 9 114
    exact ⟨_, W, by simp only [execOp, e114]; rfl, ⟨_, rfl, hB114, hlt114, hc114⟩, Below.refl _ _⟩)
  intro vs w9 g9 hR
  have x0 : vs 0 = .pointer (some ⟨g, 0, none⟩) := hR 0 105 (by kernel_rfl)
  have x1 : vs 1 = .int .i64 d := hR 1 106 (by kernel_rfl)
  have x2 : vs 2 = .string ⟨(varT d : List UInt8).toArray⟩ := hR 2 107 (by kernel_rfl)
  have x3 : vs 3 = .pointer (some ⟨g, 2, none⟩) := hR 3 108 (by kernel_rfl)
  have x4 : vs 4 = .int .i64 tv := hR 4 109 (by kernel_rfl)
  have x5 : vs 5 = .string ⟨(itoa tv : List UInt8).toArray⟩ := hR 5 110 (by kernel_rfl)
  have x6 : vs 6 = .pointer (some ⟨g, 1, none⟩) := hR 6 111 (by kernel_rfl)
  have x7 : vs 7 = .int .i64 a := hR 7 112 (by kernel_rfl)
  have x8 : vs 8 = .string ⟨(varT a : List UInt8).toArray⟩ := hR 8 113 (by kernel_rfl)
  obtain ⟨z9, x9, zB9, zl9, zc9⟩ := hR 9 114 (by kernel_rfl)
  obtain ⟨z10, x10, zB10, zl10, zc10⟩ := hR 10 2 (by kernel_rfl)
  simp only [putAll, Act.put, List.setIfInBounds_toArray, List.set_cons_zero, List.set_cons_succ, Nat.zero_add, Nat.reduceAdd, x0, x1, x2, x3, x4, x5, x6, x7, x8, x9, x10]
  clear hR x0 x1 x2 x3 x4 x5 x6 x7 x8 x9 x10
  clear q0 q1 q2
  have HG9 := Lib.hid (grew_tr HGE.out g9)
  clear g9
  go_wp2
  go_ret
  exact ⟨_, rfl, ⟨z10, rfl, zB10, zl10, by simpa [wordsI, nameT, setT] using zc10⟩, HG9.out⟩

set_option maxRecDepth 100000 in
set_option maxHeartbeats 4000000 in
theorem words11 (d a b rel lo hi tv procs size : Int) (w : World) (hok : insOkB ⟨(11 : Int), d, a, b, rel, lo, hi, tv⟩ procs size = true) (hto : tv ≤ 9223372036854775807) (T : Tab w) :
    Calls Tryz.prog 42 #[Ins.v ⟨(11 : Int), d, a, b, rel, lo, hi, tv⟩] w fun e w' => ∃ v, e = .returned v ∧ RowS w.heap.size 4 4 (wordsI ⟨(11 : Int), d, a, b, rel, lo, hi, tv⟩) w' v ∧ Grew w w' := by
  obtain ⟨-, vd, va, vb, hr, hl, h0⟩ := okFacts hok
  have CD := Lib.hid fun w => implVar d w vd
  have CA := Lib.hid fun w => implVar a w va
  have CB := Lib.hid fun w => implVar b w vb
  have HT := Lib.hid T
  have hr : rel = 1 ∨ rel = 2 ∨ rel = 3 ∨ rel = 4 := hr (by simp)
  have HRE := Lib.hid (relsL_at hr)
  obtain ⟨rn, hrn, hrl⟩ : ∃ rn : Nat, rel = rn ∧ rn < 5 := ⟨rel.toNat, by omega, by omega⟩
  subst hrn
  clear vd va vb hok hto T hr hl h0
  have CO : Hid (∀ w, Calls Tryz.prog 47 #[Ins.v ⟨(11 : Int), d, a, b, (rn : Int), lo, hi, tv⟩] w fun e w' => e = .returned (.iface 105 (.agg #[.int .i64 (rn : Int), .int .i64 a, .int .i64 b])) ∧ Grew w w') := Lib.hid (fun w => codeOf ⟨(11 : Int), d, a, b, (rn : Int), lo, hi, tv⟩ w)
  go_enter Tryz.func42, Tryz.ntmps42
  go_wp2_with ((with_reducible refine (CO.out _).mono ?_); rintro e w' ⟨rfl, g'⟩; (first | obtain ⟨x, rfl⟩ := ext_cold g' | obtain ⟨x, rfl⟩ := ext_col g' | obtain ⟨x, rfl⟩ := ext_of g'); clear g')
  refine let_world ?_
  intro E hE
  obtain ⟨g, hg⟩ : ∃ g, g = (ext (w.alloc (.cells #[.int .i64 (11 : Int), .int .i64 d, .int .i64 a, .int .i64 b, .int .i64 (rn : Int), .int .i64 lo, .int .i64 hi, .int .i64 tv] 38)) x).heap.size := ⟨_, rfl⟩
  rw [← hg]
  have q0 : E.cell? ⟨g, 0, none⟩ = some (.int .i64 (rn : Int)) := by rw [hE, hg]; simp [go_sem]
  have q1 : E.cell? ⟨g, 1, none⟩ = some (.int .i64 a) := by rw [hE, hg]; simp [go_sem]
  have q2 : E.cell? ⟨g, 2, none⟩ = some (.int .i64 b) := by rw [hE, hg]; simp [go_sem]
  have GE : Grew w E := by rw [hE]; exact gr
  have HGE := Lib.hid GE
  clear hE GE hg x
  refine region_w 137 [pgV (.pointer (some ⟨g, 1, none⟩)), pgV (.int .i64 a), pgV (.string ⟨(varT a : List UInt8).toArray⟩), pgS (0) (5) (5) (relsL), pgV (.pointer (some ⟨g, 0, none⟩)), pgV (.int .i64 (rn : Int)), pgP (relT rn), pgV (.string ⟨(relT rn : List UInt8).toArray⟩), pgV (.pointer (some ⟨g, 2, none⟩)), pgV (.int .i64 b), pgV (.string ⟨(varT b : List UInt8).toArray⟩), pgS (w.heap.size) (4) (4) ([[97, 115, 115, 101, 114, 116], varT a, relT rn, varT b]), pgS (w.heap.size) (4) (4) ([[97, 115, 115, 101, 114, 116], varT a, relT rn, varT b])] (by kernel_rfl) rfl (by kernel_rfl) ⟨?_, ?_, ?_, ?_, ?_, ?_, ?_, ?_, ?_, ?_, ?_, ?_, ?_, trivial⟩ ?_
  · exact w_vx (v := .pointer (some ⟨g, 1, none⟩)) rfl (fun A W h => by
    have e10 : A.eval (.tmp 10) = .pointer (some ⟨g, 0, none⟩) := (h.slot 10).trans rfl
    simp only [execOp, e10]
    first | (simp [go_sem]; done) | rfl | kernel_rfl)
  · exact w_vx (v := .int .i64 a) rfl (fun A W h => by
    have e118 : A.eval (.tmp 118) = .pointer (some ⟨g, 1, none⟩) := h.vb 0 118
    have k0 := gk h.grew q1
    simp only [execOp, e118]
    simp [go_sem, k0])
  · exact w_call (v := .string ⟨(varT a : List UInt8).toArray⟩) rfl (fun A W h => by
    have e119 : A.eval (.tmp 119) = .int .i64 a := h.vb 1 119
    refine Eq.trans (b := .ok (.enter 94 #[A.eval (.tmp 119)]) W) (by kernel_rfl) ?_
    rw [e119]) (fun W hW => same_grew (CA.out W))
  · exact w_callX (fun A W h => by
    refine Eq.trans (b := .ok (.enter 95 #[]) W) (by kernel_rfl) ?_
    rfl) (fun W hW => implRels W)
  · exact w_vx (v := .pointer (some ⟨g, 0, none⟩)) rfl (fun A W h => by
    have e10 : A.eval (.tmp 10) = .pointer (some ⟨g, 0, none⟩) := (h.slot 10).trans rfl
    simp only [execOp, e10]
    first | (simp [go_sem]; done) | rfl | kernel_rfl)
  · exact w_vx (v := .int .i64 (rn : Int)) rfl (fun A W h => by
    have e122 : A.eval (.tmp 122) = .pointer (some ⟨g, 0, none⟩) := h.vb 4 122
    have k0 := gk h.grew q0
    simp only [execOp, e122]
    simp [go_sem, k0])
  · exact w_ex (fun A W h => by
    obtain ⟨y121, e121, hB121, hlt121, hc121⟩ := h.vb 3 121
    have e123 : A.eval (.tmp 123) = .int .i64 (rn : Int) := h.vb 5 123
    exact ⟨.pointer (some ⟨y121, rn, none⟩), W, by (simp only [execOp, e121, e123]; simp [go_sem] <;> (intro hge; omega)), ⟨_, rfl, hc121 rn _ HRE.out⟩, Below.refl _ _⟩)
  · exact w_vx (v := .string ⟨(relT rn : List UInt8).toArray⟩) rfl (fun A W h => by
    obtain ⟨y124, e124, hc124⟩ := h.vb 6 124
    simp only [execOp, e124]
    simp [go_sem, hc124])
  · exact w_vx (v := .pointer (some ⟨g, 2, none⟩)) rfl (fun A W h => by
    have e10 : A.eval (.tmp 10) = .pointer (some ⟨g, 0, none⟩) := (h.slot 10).trans rfl
    simp only [execOp, e10]
    first | (simp [go_sem]; done) | rfl | kernel_rfl)
  · exact w_vx (v := .int .i64 b) rfl (fun A W h => by
    have e126 : A.eval (.tmp 126) = .pointer (some ⟨g, 2, none⟩) := h.vb 8 126
    have k0 := gk h.grew q2
    simp only [execOp, e126]
    simp [go_sem, k0])
  · exact w_call (v := .string ⟨(varT b : List UInt8).toArray⟩) rfl (fun A W h => by
    have e127 : A.eval (.tmp 127) = .int .i64 b := h.vb 9 127
    refine Eq.trans (b := .ok (.enter 94 #[A.eval (.tmp 127)]) W) (by kernel_rfl) ?_
    rw [e127]) (fun W hW => same_grew (CB.out W))
  · exact w_build _ 4 _ rfl #[(0, .string ⟨([97, 115, 115, 101, 114, 116] : List UInt8).toArray⟩), (1, .string ⟨(varT a : List UInt8).toArray⟩), (2, .string ⟨(relT rn : List UInt8).toArray⟩), (3, .string ⟨(varT b : List UInt8).toArray⟩)] #[.string ⟨([97, 115, 115, 101, 114, 116] : List UInt8).toArray⟩, .string ⟨(varT a : List UInt8).toArray⟩, .string ⟨(relT rn : List UInt8).toArray⟩, .string ⟨(varT b : List UInt8).toArray⟩] 9 (fun A W h => by
    have e120 : A.eval (.tmp 120) = .string ⟨(varT a : List UInt8).toArray⟩ := h.vb 2 120
    have e125 : A.eval (.tmp 125) = .string ⟨(relT rn : List UInt8).toArray⟩ := h.vb 7 125
    have e128 : A.eval (.tmp 128) = .string ⟨(varT b : List UInt8).toArray⟩ := h.vb 10 128
    simp only [List.map_toArray, List.map_cons, List.map_nil, evalK, e120, e125, e128]) (fun W => by simp [go_sem]) rfl (HGE.out.size) rfl
  · exact w_ex (fun A W h => by
    obtain ⟨y129, e129, hB129, hlt129, hc129⟩ := h.vb 11 129
    exact ⟨_, W, by simp only [execOp, e129]; rfl, ⟨_, rfl, hB129, hlt129, hc129⟩, Below.refl _ _⟩)
  intro vs w9 g9 hR
  have x0 : vs 0 = .pointer (some ⟨g, 1, none⟩) := hR 0 118 (by kernel_rfl)
  have x1 : vs 1 = .int .i64 a := hR 1 119 (by kernel_rfl)
  have x2 : vs 2 = .string ⟨(varT a : List UInt8).toArray⟩ := hR 2 120 (by kernel_rfl)
  obtain ⟨z3, x3, zB3, zl3, zc3⟩ := hR 3 121 (by kernel_rfl)
  have x4 : vs 4 = .pointer (some ⟨g, 0, none⟩) := hR 4 122 (by kernel_rfl)
  have x5 : vs 5 = .int .i64 (rn : Int) := hR 5 123 (by kernel_rfl)
  obtain ⟨z6, x6, _⟩ := hR 6 124 (by kernel_rfl)
  have x7 : vs 7 = .string ⟨(relT rn : List UInt8).toArray⟩ := hR 7 125 (by kernel_rfl)
  have x8 : vs 8 = .pointer (some ⟨g, 2, none⟩) := hR 8 126 (by kernel_rfl)
  have x9 : vs 9 = .int .i64 b := hR 9 127 (by kernel_rfl)
  have x10 : vs 10 = .string ⟨(varT b : List UInt8).toArray⟩ := hR 10 128 (by kernel_rfl)
  obtain ⟨z11, x11, zB11, zl11, zc11⟩ := hR 11 129 (by kernel_rfl)
  obtain ⟨z12, x12, zB12, zl12, zc12⟩ := hR 12 2 (by kernel_rfl)
  simp only [putAll, Act.put, List.setIfInBounds_toArray, List.set_cons_zero, List.set_cons_succ, Nat.zero_add, Nat.reduceAdd, x0, x1, x2, x3, x4, x5, x6, x7, x8, x9, x10, x11, x12]
  clear hR x0 x1 x2 x3 x4 x5 x6 x7 x8 x9 x10 x11 x12
  clear q0 q1 q2
  have HG9 := Lib.hid (grew_tr HGE.out g9)
  clear g9
  go_wp2
  go_ret
  exact ⟨_, rfl, ⟨z12, rfl, zB12, zl12, by simpa [wordsI, nameT, setT] using zc12⟩, HG9.out⟩

set_option maxRecDepth 100000 in
set_option maxHeartbeats 4000000 in
theorem words12 (d a b rel lo hi tv procs size : Int) (w : World) (hok : insOkB ⟨(12 : Int), d, a, b, rel, lo, hi, tv⟩ procs size = true) (hto : tv ≤ 9223372036854775807) (T : Tab w) :
    Calls Tryz.prog 42 #[Ins.v ⟨(12 : Int), d, a, b, rel, lo, hi, tv⟩] w fun e w' => ∃ v, e = .returned v ∧ RowS w.heap.size 2 2 (wordsI ⟨(12 : Int), d, a, b, rel, lo, hi, tv⟩) w' v ∧ Grew w w' := by
  obtain ⟨-, vd, va, vb, hr, hl, h0⟩ := okFacts hok
  have CD := Lib.hid fun w => implVar d w vd
  have CA := Lib.hid fun w => implVar a w va
  have CB := Lib.hid fun w => implVar b w vb
  have HT := Lib.hid T
  clear vd va vb hok hto T hr hl h0
  have CO : Hid (∀ w, Calls Tryz.prog 47 #[Ins.v ⟨(12 : Int), d, a, b, rel, lo, hi, tv⟩] w fun e w' => e = .returned (.iface 141 (.agg #[.int .i64 a])) ∧ Grew w w') := Lib.hid (fun w => codeOf ⟨(12 : Int), d, a, b, rel, lo, hi, tv⟩ w)
  go_enter Tryz.func42, Tryz.ntmps42
  go_wp2_with ((with_reducible refine (CO.out _).mono ?_); rintro e w' ⟨rfl, g'⟩; (first | obtain ⟨x, rfl⟩ := ext_cold g' | obtain ⟨x, rfl⟩ := ext_col g' | obtain ⟨x, rfl⟩ := ext_of g'); clear g')
  go_wp2_with ((with_reducible refine (CA.out _).mono ?_); rintro e w' ⟨rfl, rfl⟩)
  go_ret
  exact ⟨.slice (some ⟨_, 0, none⟩) 2 2, rfl, rowS_newH (by simp) (gr) (by simp [wordsI, nameT, setT]), gr⟩

set_option maxRecDepth 100000 in
theorem implTextF (i : Ins) (procs size : Int) (w : World) (hok : insOkB i procs size = false) :
    Calls Tryz.prog 19 #[i.v, .int .i64 procs, .int .i64 size] w fun e w' => e = .returned (.string ⟨([] : List UInt8).toArray⟩) ∧ Grew w w' := by
  obtain ⟨op, d, a, b, rel, lo, hi, tv⟩ := i
  have CO := fun w => implInsOk ⟨op, d, a, b, rel, lo, hi, tv⟩ procs size w
  rw [hok] at CO
  have HCO := Lib.hid CO
  clear CO hok
  go_enter Tryz.func19, Tryz.ntmps19
  go_wp2_with ((with_reducible refine (HCO.out _).mono ?_); rintro e w' ⟨rfl, g'⟩; (first | obtain ⟨x, rfl⟩ := ext_cold g' | obtain ⟨x, rfl⟩ := ext_col g' | obtain ⟨x, rfl⟩ := ext_of g'); clear g')
  go_ret
  exact ⟨rfl, gr⟩
theorem wordsOf (i : Ins) (procs size : Int) (w : World) (hok : insOkB i procs size = true) (hto : i.to ≤ 9223372036854775807) (T : Tab w) :
    Calls Tryz.prog 42 #[i.v] w fun e w' => ∃ v, e = .returned v ∧ RowS w.heap.size (wordsI i).length (wordsI i).length (wordsI i) w' v ∧ Grew w w' := by
  obtain ⟨op, d, a, b, rel, lo, hi, tv⟩ := i
  have ho : 1 ≤ op ∧ op ≤ 12 := by
    have h := (okFacts hok).1
    simp only [headB, Bool.and_eq_true, decide_eq_true_eq] at h
    exact h.1
  have : op = 1 ∨ op = 2 ∨ op = 3 ∨ op = 4 ∨ op = 5 ∨ op = 6 ∨ op = 7 ∨ op = 8 ∨ op = 9 ∨ op = 10 ∨ op = 11 ∨ op = 12 := by omega
  rcases this with rfl | rfl | rfl | rfl | rfl | rfl | rfl | rfl | rfl | rfl | rfl | rfl
  · exact words1 d a b rel lo hi tv procs size w hok hto T
  · exact words2 d a b rel lo hi tv procs size w hok hto T
  · exact words3 d a b rel lo hi tv procs size w hok hto T
  · exact words4 d a b rel lo hi tv procs size w hok hto T
  · by_cases hlh : lo = hi
    · subst hlh
      rw [show (wordsI ⟨(5 : Int), d, a, b, rel, lo, lo, tv⟩).length = 3 by simp [wordsI]]
      exact words5e d a b rel lo tv procs size w hok hto T
    · rw [show (wordsI ⟨(5 : Int), d, a, b, rel, lo, hi, tv⟩).length = 4 by simp [wordsI, hlh]]
      exact words5 d a b rel lo hi tv procs size w hok hto T hlh
  · exact words6 d a b rel lo hi tv procs size w hok hto T
  · exact words7 d a b rel lo hi tv procs size w hok hto T
  · exact words8 d a b rel lo hi tv procs size w hok hto T
  · exact words9 d a b rel lo hi tv procs size w hok hto T
  · exact words10 d a b rel lo hi tv procs size w hok hto T
  · exact words11 d a b rel lo hi tv procs size w hok hto T
  · exact words12 d a b rel lo hi tv procs size w hok hto T
theorem textI_len {i : Ins} {procs size : Int} (hok : insOkB i procs size = true) (hto : i.to ≤ 9223372036854775807) : (textI i).length ≤ 100 := by
  obtain ⟨op, d, a, b, rel, lo, hi, tv⟩ := i
  obtain ⟨hh, -, -, -, -, hl, h0⟩ := okFacts hok
  have hl : op = 5 → -32768 ≤ lo ∧ lo ≤ 32767 ∧ -32768 ≤ hi ∧ hi ≤ 32767 := hl
  have h0 : op = 8 ∨ op = 9 ∨ op = 10 → 0 ≤ tv := h0
  have hto : tv ≤ 9223372036854775807 := hto
  have ho : op = 5 ∨ op ≠ 5 := by omega
  have hv : ∀ k, (varT k).length = 1 := fun _ => rfl
  have hr := relT_le rel
  have no := nameT_len op
  have ht : op = 8 ∨ op = 9 ∨ op = 10 → (itoa tv).length ≤ 20 := fun h => itoa_len (by have := h0 h; omega) (by omega)
  have hlo : op = 5 → (itoa lo).length ≤ 20 ∧ (itoa hi).length ≤ 20 := fun h => by
    have := hl h
    exact ⟨itoa_len (by omega) (by omega), itoa_len (by omega) (by omega)⟩
  have n5 : (nameT 5).length = 3 := rfl
  have n6 : (nameT 6).length = 4 := rfl
  have n7 : (nameT 7).length = 5 := rfl
  have n8 : (nameT 8).length = 2 := rfl
  have n9 : (nameT 9).length = 4 := rfl
  have n10 : (nameT 10).length = 4 := rfl
  have n11 : (nameT 11).length = 6 := rfl
  have n12 : (nameT 12).length = 3 := rfl
  have ns : setT.length = 3 := rfl
  unfold textI wordsI
  simp only
  repeat' split
  all_goals
    simp only [join_length, lens, List.map_cons, List.map_nil, List.sum_cons, List.sum_nil, List.length_cons, List.length_nil, hv]
    omega
/-- The program's text of a step. -/
theorem implInsText (i : Ins) (procs size : Int) (w : World) (hto : i.to ≤ 9223372036854775807) (T : Tab w) :
    Calls Tryz.prog 19 #[i.v, .int .i64 procs, .int .i64 size] w fun e w' => e = .returned (.string ⟨(textB i procs size).toArray⟩) ∧ Grew w w' := by
  cases hok : insOkB i procs size
  · have e : textB i procs size = [] := by unfold textB; rw [hok]; rfl
    rw [e]
    exact implTextF i procs size w hok
  · have e : textB i procs size = textI i := by unfold textB; rw [hok]; rfl
    rw [e]
    have hlen := textI_len hok hto
    have CO := fun w => implInsOk i procs size w
    rw [hok] at CO
    have HCO := Lib.hid CO
    have CW := Lib.hid fun w T => wordsOf i procs size w hok hto T
    have HT := Lib.hid T
    have HL := Lib.hid hlen
    have HN := Lib.hid (show (wordsI i).length ≤ 5 by
      unfold wordsI
      repeat' split
      all_goals simp)
    have ex : ∀ l : List (List UInt8), (l.map fun x => (⟨x.toArray⟩ : ByteArray)).map (·.data.toList) = l := fun l => by simp [List.map_map, Function.comp_def]
    have HX := Lib.hid ex
    have HE : Hid (join (wordsI i) [32] = textI i) := Lib.hid rfl
    generalize wordsI i = ws at *
    generalize textI i = tx at *
    obtain ⟨op, d, a, b, rel, lo, hi, tv⟩ := i
    clear CO hok hto T e hlen ex
    go_enter Tryz.func19, Tryz.ntmps19
    go_wp2_with ((with_reducible refine (HCO.out _).mono ?_); rintro e w' ⟨rfl, g'⟩; (first | obtain ⟨x, rfl⟩ := ext_cold g' | obtain ⟨x, rfl⟩ := ext_col g' | obtain ⟨x, rfl⟩ := ext_of g'); clear g')
    refine Calls.mono (CW.out _ (HT.out.grew (gr))) ?_
    rintro e w' ⟨v, rfl, ⟨t, rfl, hB, hlt, hc⟩, g⟩
    obtain ⟨y, rfl⟩ := ext_col g
    clear g CW HCO
    have CJ := Tryz.strings_Join t 0 ws.length (ws.map fun x => ⟨x.toArray⟩) ⟨#[32]⟩ _ (fun j x hx => by
      simp only [List.getElem?_map, Option.map_eq_some_iff] at hx
      obtain ⟨u, hu, rfl⟩ := hx
      rw [Nat.zero_add]
      exact hc j u hu) hlt (by rw [List.length_map]; have := HN.out; omega) (by rw [List.length_map]; exact Nat.le_refl _) (by rw [HX.out]; show (join ws [32]).length ≤ _; rw [HE.out]; have := HL.out; omega)
    rw [HX.out, List.length_map] at CJ
    have HJ := Lib.hid CJ
    clear CJ hc
    go_wp2_with ((with_reducible refine HJ.out.mono ?_); rintro e w' ⟨rfl, g'⟩; obtain ⟨z, rfl⟩ := ext_col g'; clear g')
    go_ret
    exact ⟨rt HE.out, gr⟩
end Go.Proofs.YtcdfomoglkhboaaGreatDoor
