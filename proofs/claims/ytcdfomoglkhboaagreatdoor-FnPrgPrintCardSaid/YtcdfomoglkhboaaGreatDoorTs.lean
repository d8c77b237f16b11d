/- The reference's text of a step, each kind by itself. No condition. -/
import Derived.Test.YtcdfomoglkhboaaGreatDoorRgw
import Derived.Test.YtcdfomoglkhboaaGreatDoorInsOk
import Derived.Test.YtcdfomoglkhboaaGreatDoorTxD
namespace Go.Proofs.YtcdfomoglkhboaaGreatDoor
open Go.RowKit Go.Lib
set_option linter.unusedVariables false
set_option linter.unusedSimpArgs false
attribute [local go_sem] ext_cell ext_frozen ext_lt ext_le ext_le1 lt_s2 lt_s3 lt_s4 lt_s5 lt_s6 ext_lt1 ext_lt2 ext_lt3
attribute [local go_sem] ByteArray.mk_append_mk

def namesL : List (List UInt8) := [[], [97, 100, 100], [115, 117, 98], [109, 117, 108], [100, 105, 118], [97, 110, 121], [108, 111, 97, 100], [115, 116, 111, 114, 101], [105, 102], [106, 117, 109, 112], [99, 97, 108, 108], [97, 115, 115, 101, 114, 116], [114, 101, 116]]
def relsL : List (List UInt8) := [[], [60], [60, 61], [61], [33, 61]]
theorem rt {x y : List UInt8} (h : x = y) : Ending.returned (.string ⟨x.toArray⟩) = .returned (.string ⟨y.toArray⟩) := by rw [h]
/-- A row of constants. -/
theorem rowS_new {W : World} {n : Nat} {xs : List (List UInt8)} {T : TypeId} {cs : Array Value} (hcs : cs = (xs.map fun x => Value.string ⟨x.toArray⟩).toArray := by rfl) : RowS 0 n n xs (W.alloc (.cells cs T)) (.slice (some ⟨W.heap.size, 0, none⟩) n n) :=
  ⟨_, rfl, Nat.zero_le _, by simp, fun j x hx => row_cell hx hcs⟩
theorem specNames (w : World) : Calls Tryz.prog 44 #[] w fun e w' => ∃ v, e = .returned v ∧ RowS 0 13 13 namesL w' v ∧ Grew w w' := by
  go_enter Tryz.func44, Tryz.ntmps44
  go_wp2
  go_ret
  exact ⟨_, rfl, rowS_new, gr⟩
theorem specRels (w : World) : Calls Tryz.prog 46 #[] w fun e w' => ∃ v, e = .returned v ∧ RowS 0 5 5 relsL w' v ∧ Grew w w' := by
  go_enter Tryz.func46, Tryz.ntmps46
  go_wp2
  go_ret
  exact ⟨_, rfl, rowS_new, gr⟩
/-- What is known of a step that is ok. -/
theorem okFacts {i : Ins} {procs size : Int} (h : insOkB i procs size = true) : headB i = true ∧ varB i.d = true ∧ varB i.a = true ∧ varB i.b = true ∧ (i.op = 8 ∨ i.op = 11 → i.rel = 1 ∨ i.rel = 2 ∨ i.rel = 3 ∨ i.rel = 4) ∧
    (i.op = 5 → -32768 ≤ i.lo ∧ i.lo ≤ 32767 ∧ -32768 ≤ i.hi ∧ i.hi ≤ 32767) ∧ (i.op = 8 ∨ i.op = 9 ∨ i.op = 10 → 0 ≤ i.to) := by
  obtain ⟨op, d, a, b, rel, lo, hi, tv⟩ := i
  have h' := h
  simp only [insOkB, headB, Bool.and_eq_true, decide_eq_true_eq] at h
  obtain ⟨⟨⟨h1, h2⟩, hf, hd, ha, hb⟩, ht⟩ := h
  simp only [insOkB, Bool.and_eq_true] at h'
  refine ⟨h'.1, hd, ha, hb, fun e => ?_, fun e => ?_, fun e => ?_⟩
  · rcases e with e | e <;>
      · simp only at e
        simp only [tailB, e] at ht
        simp at ht
        simp only
        omega
  · simp only at e
    simp only [tailB, e] at ht
    have := itvOkB_num (by simpa using ht)
    have e1 := numOkB_iff.1 this.1
    have e2 := numOkB_iff.1 this.2
    exact ⟨e1.1, e1.2, e2.1, e2.2⟩
  · rcases e with e | e | e <;>
      · simp only at e
        simp only [tailB, e] at ht
        simp at ht
        simp only
        omega
theorem itoa_len {n : Int} (h1 : -9223372036854775808 < n) (h2 : n < 9223372036854775808) : (itoa n).length ≤ 20 := by
  unfold itoa
  split
  · have := dec_len n.natAbs (by omega)
    rw [List.length_cons]; omega
  · have := dec_len n.toNat (by omega)
    omega
theorem relT_le (r : Int) : (relT r).length ≤ 2 := by
  unfold relT
  repeat' split
  all_goals simp
theorem relsL_at {r : Int} (h : r = 1 ∨ r = 2 ∨ r = 3 ∨ r = 4) : relsL[r.toNat]? = some (relT r) := by
  rcases h with rfl | rfl | rfl | rfl <;> rfl
theorem varT_one (k : Int) : (varT k).length = 1 := rfl

set_option maxRecDepth 100000 in
set_option maxHeartbeats 4000000 in
theorem specText1 (d a b rel lo hi tv procs size : Int) (w : World) (hok : insOkB ⟨(1 : Int), d, a, b, rel, lo, hi, tv⟩ procs size = true) (hto : tv ≤ 9223372036854775807) :
    Calls Tryz.prog 21 #[Ins.v ⟨(1 : Int), d, a, b, rel, lo, hi, tv⟩, .int .i64 procs, .int .i64 size] w fun e w' => e = .returned (.string ⟨(textI ⟨(1 : Int), d, a, b, rel, lo, hi, tv⟩).toArray⟩) ∧ Grew w w' := by
  have CO := fun w => specInsOk ⟨(1 : Int), d, a, b, rel, lo, hi, tv⟩ procs size w
  rw [hok] at CO
  have CO := Lib.hid CO
  obtain ⟨-, vd, va, vb, hr, hl, h0⟩ := okFacts hok
  have CD := Lib.hid fun w => specVar d w vd
  have CA := Lib.hid fun w => specVar a w va
  have CB := Lib.hid fun w => specVar b w vb
  have ld := varT_one d
  have la := varT_one a
  have lb := varT_one b
  have ln : (nameT (1 : Int)).length = 3 := rfl
  clear h0 hl hr
  clear vd va vb hok hto
  go_enter Tryz.func21, Tryz.ntmps21
  go_wp2_with ((with_reducible refine (CO.out _).mono ?_); rintro e w' ⟨rfl, g'⟩; (first | obtain ⟨x, rfl⟩ := ext_cold g' | obtain ⟨x, rfl⟩ := ext_col g' | obtain ⟨x, rfl⟩ := ext_of g'); clear g')
  have q0 : (ext (w.alloc (.cells #[.int .i64 ((1 : Int)), .int .i64 (d), .int .i64 (a), .int .i64 (b), .int .i64 (rel), .int .i64 (lo), .int .i64 (hi), .int .i64 (tv)] 38)) x).cell? ⟨w.heap.size, 0, none⟩ = some (.int .i64 ((1 : Int))) := by simp [go_sem]
  have q1 : (ext (w.alloc (.cells #[.int .i64 ((1 : Int)), .int .i64 (d), .int .i64 (a), .int .i64 (b), .int .i64 (rel), .int .i64 (lo), .int .i64 (hi), .int .i64 (tv)] 38)) x).cell? ⟨w.heap.size, 1, none⟩ = some (.int .i64 (d)) := by simp [go_sem]
  have q2 : (ext (w.alloc (.cells #[.int .i64 ((1 : Int)), .int .i64 (d), .int .i64 (a), .int .i64 (b), .int .i64 (rel), .int .i64 (lo), .int .i64 (hi), .int .i64 (tv)] 38)) x).cell? ⟨w.heap.size, 2, none⟩ = some (.int .i64 (a)) := by simp [go_sem]
  have q3 : (ext (w.alloc (.cells #[.int .i64 ((1 : Int)), .int .i64 (d), .int .i64 (a), .int .i64 (b), .int .i64 (rel), .int .i64 (lo), .int .i64 (hi), .int .i64 (tv)] 38)) x).cell? ⟨w.heap.size, 3, none⟩ = some (.int .i64 (b)) := by simp [go_sem]
  have q4 : (ext (w.alloc (.cells #[.int .i64 ((1 : Int)), .int .i64 (d), .int .i64 (a), .int .i64 (b), .int .i64 (rel), .int .i64 (lo), .int .i64 (hi), .int .i64 (tv)] 38)) x).cell? ⟨w.heap.size, 4, none⟩ = some (.int .i64 (rel)) := by simp [go_sem]
  have q5 : (ext (w.alloc (.cells #[.int .i64 ((1 : Int)), .int .i64 (d), .int .i64 (a), .int .i64 (b), .int .i64 (rel), .int .i64 (lo), .int .i64 (hi), .int .i64 (tv)] 38)) x).cell? ⟨w.heap.size, 5, none⟩ = some (.int .i64 (lo)) := by simp [go_sem]
  have q6 : (ext (w.alloc (.cells #[.int .i64 ((1 : Int)), .int .i64 (d), .int .i64 (a), .int .i64 (b), .int .i64 (rel), .int .i64 (lo), .int .i64 (hi), .int .i64 (tv)] 38)) x).cell? ⟨w.heap.size, 6, none⟩ = some (.int .i64 (hi)) := by simp [go_sem]
  have q7 : (ext (w.alloc (.cells #[.int .i64 ((1 : Int)), .int .i64 (d), .int .i64 (a), .int .i64 (b), .int .i64 (rel), .int .i64 (lo), .int .i64 (hi), .int .i64 (tv)] 38)) x).cell? ⟨w.heap.size, 7, none⟩ = some (.int .i64 (tv)) := by simp [go_sem]
  refine region_w 141 [pgS (0) (13) (13) (namesL), pgV (.pointer (some ⟨w.heap.size, 0, none⟩)), pgV (.int .i64 ((1 : Int))), pgP (nameT (1 : Int)), pgV (.string ⟨(nameT (1 : Int) : List UInt8).toArray⟩), pgV (.string ⟨(nameT (1 : Int) : List UInt8).toArray⟩)] (by kernel_rfl) rfl (by kernel_rfl) ⟨?_, ?_, ?_, ?_, ?_, ?_, trivial⟩ ?_
  · exact w_callX (fun A W h => by
    refine Eq.trans (b := .ok (.enter 44 #[]) W) (by kernel_rfl) ?_
    rfl) (fun W hW => specNames W)
  · exact w_vx (v := .pointer (some ⟨w.heap.size, 0, none⟩)) rfl (fun A W h => by
    have e3 : A.eval (.tmp 3) = .pointer (some ⟨w.heap.size, 0, none⟩) := (h.slot 3).trans rfl
    simp only [execOp, e3]
    first | (simp [go_sem]; done) | rfl | kernel_rfl)
  · exact w_vx (v := .int .i64 ((1 : Int))) rfl (fun A W h => by
    have e17 : A.eval (.tmp 17) = .pointer (some ⟨w.heap.size, 0, none⟩) := h.vb 1 17
    have k0 := gk h.grew q0
    simp only [execOp, e17]
    simp [go_sem, k0])
  · exact w_ex (fun A W h => by
    obtain ⟨y16, e16, hB16, hlt16, hc16⟩ := h.vb 0 16
    have e18 : A.eval (.tmp 18) = .int .i64 ((1 : Int)) := h.vb 2 18
    exact ⟨.pointer (some ⟨y16, 1, none⟩), W, by (simp only [execOp, e16, e18]; simp [go_sem] <;> (intro hge; omega)), ⟨_, rfl, hc16 1 _ rfl⟩, Below.refl _ _⟩)
  · exact w_vx (v := .string ⟨(nameT (1 : Int) : List UInt8).toArray⟩) rfl (fun A W h => by
    obtain ⟨y19, e19, hc19⟩ := h.vb 3 19
    simp only [execOp, e19]
    simp [go_sem, hc19])
  · exact w_vx (v := .string ⟨(nameT (1 : Int) : List UInt8).toArray⟩) rfl (fun A W h => by
    have e20 : A.eval (.tmp 20) = .string ⟨(nameT (1 : Int) : List UInt8).toArray⟩ := h.vb 4 20
    simp only [execOp, e20]
    first | (simp [go_sem]; done) | rfl | kernel_rfl)
  intro vs w9 g9 hR
  obtain ⟨z0, x0, zB0, zl0, zc0⟩ := hR 0 16 (by kernel_rfl)
  have x1 : vs 1 = .pointer (some ⟨w.heap.size, 0, none⟩) := hR 1 17 (by kernel_rfl)
  have x2 : vs 2 = .int .i64 ((1 : Int)) := hR 2 18 (by kernel_rfl)
  obtain ⟨z3, x3, _⟩ := hR 3 19 (by kernel_rfl)
  have x4 : vs 4 = .string ⟨(nameT (1 : Int) : List UInt8).toArray⟩ := hR 4 20 (by kernel_rfl)
  have x5 : vs 5 = .string ⟨(nameT (1 : Int) : List UInt8).toArray⟩ := hR 5 7 (by kernel_rfl)
  simp only [putAll, Act.put, List.setIfInBounds_toArray, List.set_cons_zero, List.set_cons_succ, Nat.zero_add, Nat.reduceAdd, x0, x1, x2, x3, x4, x5]
  clear hR x0 x1 x2 x3 x4 x5
  obtain ⟨x3, rfl⟩ := ext_col g9
  clear g9 q0 q1 q2 q3 q4 q5 q6 q7
  go_wp2_with (first | ((with_reducible refine (CA.out _).mono ?_); rintro e w' ⟨rfl, g'⟩; (first | obtain ⟨xa, rfl⟩ := ext_cold g' | obtain ⟨xa, rfl⟩ := ext_col g' | obtain ⟨xa, rfl⟩ := ext_of g'); clear g') | ((with_reducible refine (CB.out _).mono ?_); rintro e w' ⟨rfl, g'⟩; (first | obtain ⟨xb, rfl⟩ := ext_cold g' | obtain ⟨xb, rfl⟩ := ext_col g' | obtain ⟨xb, rfl⟩ := ext_of g'); clear g') | ((with_reducible refine (CD.out _).mono ?_); rintro e w' ⟨rfl, g'⟩; (first | obtain ⟨xd, rfl⟩ := ext_cold g' | obtain ⟨xd, rfl⟩ := ext_col g' | obtain ⟨xd, rfl⟩ := ext_of g'); clear g'))
  go_ret
  exact ⟨rt (by simp [textI, wordsI, join_cons, joinTail, nameT, setT]), gr⟩

set_option maxRecDepth 100000 in
set_option maxHeartbeats 4000000 in
theorem specText2 (d a b rel lo hi tv procs size : Int) (w : World) (hok : insOkB ⟨(2 : Int), d, a, b, rel, lo, hi, tv⟩ procs size = true) (hto : tv ≤ 9223372036854775807) :
    Calls Tryz.prog 21 #[Ins.v ⟨(2 : Int), d, a, b, rel, lo, hi, tv⟩, .int .i64 procs, .int .i64 size] w fun e w' => e = .returned (.string ⟨(textI ⟨(2 : Int), d, a, b, rel, lo, hi, tv⟩).toArray⟩) ∧ Grew w w' := by
  have CO := fun w => specInsOk ⟨(2 : Int), d, a, b, rel, lo, hi, tv⟩ procs size w
  rw [hok] at CO
  have CO := Lib.hid CO
  obtain ⟨-, vd, va, vb, hr, hl, h0⟩ := okFacts hok
  have CD := Lib.hid fun w => specVar d w vd
  have CA := Lib.hid fun w => specVar a w va
  have CB := Lib.hid fun w => specVar b w vb
  have ld := varT_one d
  have la := varT_one a
  have lb := varT_one b
  have ln : (nameT (2 : Int)).length = 3 := rfl
  clear h0 hl hr
  clear vd va vb hok hto
  go_enter Tryz.func21, Tryz.ntmps21
  go_wp2_with ((with_reducible refine (CO.out _).mono ?_); rintro e w' ⟨rfl, g'⟩; (first | obtain ⟨x, rfl⟩ := ext_cold g' | obtain ⟨x, rfl⟩ := ext_col g' | obtain ⟨x, rfl⟩ := ext_of g'); clear g')
  have q0 : (ext (w.alloc (.cells #[.int .i64 ((2 : Int)), .int .i64 (d), .int .i64 (a), .int .i64 (b), .int .i64 (rel), .int .i64 (lo), .int .i64 (hi), .int .i64 (tv)] 38)) x).cell? ⟨w.heap.size, 0, none⟩ = some (.int .i64 ((2 : Int))) := by simp [go_sem]
  have q1 : (ext (w.alloc (.cells #[.int .i64 ((2 : Int)), .int .i64 (d), .int .i64 (a), .int .i64 (b), .int .i64 (rel), .int .i64 (lo), .int .i64 (hi), .int .i64 (tv)] 38)) x).cell? ⟨w.heap.size, 1, none⟩ = some (.int .i64 (d)) := by simp [go_sem]
  have q2 : (ext (w.alloc (.cells #[.int .i64 ((2 : Int)), .int .i64 (d), .int .i64 (a), .int .i64 (b), .int .i64 (rel), .int .i64 (lo), .int .i64 (hi), .int .i64 (tv)] 38)) x).cell? ⟨w.heap.size, 2, none⟩ = some (.int .i64 (a)) := by simp [go_sem]
  have q3 : (ext (w.alloc (.cells #[.int .i64 ((2 : Int)), .int .i64 (d), .int .i64 (a), .int .i64 (b), .int .i64 (rel), .int .i64 (lo), .int .i64 (hi), .int .i64 (tv)] 38)) x).cell? ⟨w.heap.size, 3, none⟩ = some (.int .i64 (b)) := by simp [go_sem]
  have q4 : (ext (w.alloc (.cells #[.int .i64 ((2 : Int)), .int .i64 (d), .int .i64 (a), .int .i64 (b), .int .i64 (rel), .int .i64 (lo), .int .i64 (hi), .int .i64 (tv)] 38)) x).cell? ⟨w.heap.size, 4, none⟩ = some (.int .i64 (rel)) := by simp [go_sem]
  have q5 : (ext (w.alloc (.cells #[.int .i64 ((2 : Int)), .int .i64 (d), .int .i64 (a), .int .i64 (b), .int .i64 (rel), .int .i64 (lo), .int .i64 (hi), .int .i64 (tv)] 38)) x).cell? ⟨w.heap.size, 5, none⟩ = some (.int .i64 (lo)) := by simp [go_sem]
  have q6 : (ext (w.alloc (.cells #[.int .i64 ((2 : Int)), .int .i64 (d), .int .i64 (a), .int .i64 (b), .int .i64 (rel), .int .i64 (lo), .int .i64 (hi), .int .i64 (tv)] 38)) x).cell? ⟨w.heap.size, 6, none⟩ = some (.int .i64 (hi)) := by simp [go_sem]
  have q7 : (ext (w.alloc (.cells #[.int .i64 ((2 : Int)), .int .i64 (d), .int .i64 (a), .int .i64 (b), .int .i64 (rel), .int .i64 (lo), .int .i64 (hi), .int .i64 (tv)] 38)) x).cell? ⟨w.heap.size, 7, none⟩ = some (.int .i64 (tv)) := by simp [go_sem]
  refine region_w 141 [pgS (0) (13) (13) (namesL), pgV (.pointer (some ⟨w.heap.size, 0, none⟩)), pgV (.int .i64 ((2 : Int))), pgP (nameT (2 : Int)), pgV (.string ⟨(nameT (2 : Int) : List UInt8).toArray⟩), pgV (.string ⟨(nameT (2 : Int) : List UInt8).toArray⟩)] (by kernel_rfl) rfl (by kernel_rfl) ⟨?_, ?_, ?_, ?_, ?_, ?_, trivial⟩ ?_
  · exact w_callX (fun A W h => by
    refine Eq.trans (b := .ok (.enter 44 #[]) W) (by kernel_rfl) ?_
    rfl) (fun W hW => specNames W)
  · exact w_vx (v := .pointer (some ⟨w.heap.size, 0, none⟩)) rfl (fun A W h => by
    have e3 : A.eval (.tmp 3) = .pointer (some ⟨w.heap.size, 0, none⟩) := (h.slot 3).trans rfl
    simp only [execOp, e3]
    first | (simp [go_sem]; done) | rfl | kernel_rfl)
  · exact w_vx (v := .int .i64 ((2 : Int))) rfl (fun A W h => by
    have e17 : A.eval (.tmp 17) = .pointer (some ⟨w.heap.size, 0, none⟩) := h.vb 1 17
    have k0 := gk h.grew q0
    simp only [execOp, e17]
    simp [go_sem, k0])
  · exact w_ex (fun A W h => by
    obtain ⟨y16, e16, hB16, hlt16, hc16⟩ := h.vb 0 16
    have e18 : A.eval (.tmp 18) = .int .i64 ((2 : Int)) := h.vb 2 18
    exact ⟨.pointer (some ⟨y16, 2, none⟩), W, by (simp only [execOp, e16, e18]; simp [go_sem] <;> (intro hge; omega)), ⟨_, rfl, hc16 2 _ rfl⟩, Below.refl _ _⟩)
  · exact w_vx (v := .string ⟨(nameT (2 : Int) : List UInt8).toArray⟩) rfl (fun A W h => by
    obtain ⟨y19, e19, hc19⟩ := h.vb 3 19
    simp only [execOp, e19]
    simp [go_sem, hc19])
  · exact w_vx (v := .string ⟨(nameT (2 : Int) : List UInt8).toArray⟩) rfl (fun A W h => by
    have e20 : A.eval (.tmp 20) = .string ⟨(nameT (2 : Int) : List UInt8).toArray⟩ := h.vb 4 20
    simp only [execOp, e20]
    first | (simp [go_sem]; done) | rfl | kernel_rfl)
  intro vs w9 g9 hR
  obtain ⟨z0, x0, zB0, zl0, zc0⟩ := hR 0 16 (by kernel_rfl)
  have x1 : vs 1 = .pointer (some ⟨w.heap.size, 0, none⟩) := hR 1 17 (by kernel_rfl)
  have x2 : vs 2 = .int .i64 ((2 : Int)) := hR 2 18 (by kernel_rfl)
  obtain ⟨z3, x3, _⟩ := hR 3 19 (by kernel_rfl)
  have x4 : vs 4 = .string ⟨(nameT (2 : Int) : List UInt8).toArray⟩ := hR 4 20 (by kernel_rfl)
  have x5 : vs 5 = .string ⟨(nameT (2 : Int) : List UInt8).toArray⟩ := hR 5 7 (by kernel_rfl)
  simp only [putAll, Act.put, List.setIfInBounds_toArray, List.set_cons_zero, List.set_cons_succ, Nat.zero_add, Nat.reduceAdd, x0, x1, x2, x3, x4, x5]
  clear hR x0 x1 x2 x3 x4 x5
  obtain ⟨x3, rfl⟩ := ext_col g9
  clear g9 q0 q1 q2 q3 q4 q5 q6 q7
  go_wp2_with (first | ((with_reducible refine (CA.out _).mono ?_); rintro e w' ⟨rfl, g'⟩; (first | obtain ⟨xa, rfl⟩ := ext_cold g' | obtain ⟨xa, rfl⟩ := ext_col g' | obtain ⟨xa, rfl⟩ := ext_of g'); clear g') | ((with_reducible refine (CB.out _).mono ?_); rintro e w' ⟨rfl, g'⟩; (first | obtain ⟨xb, rfl⟩ := ext_cold g' | obtain ⟨xb, rfl⟩ := ext_col g' | obtain ⟨xb, rfl⟩ := ext_of g'); clear g') | ((with_reducible refine (CD.out _).mono ?_); rintro e w' ⟨rfl, g'⟩; (first | obtain ⟨xd, rfl⟩ := ext_cold g' | obtain ⟨xd, rfl⟩ := ext_col g' | obtain ⟨xd, rfl⟩ := ext_of g'); clear g'))
  go_ret
  exact ⟨rt (by simp [textI, wordsI, join_cons, joinTail, nameT, setT]), gr⟩

set_option maxRecDepth 100000 in
set_option maxHeartbeats 4000000 in
theorem specText3 (d a b rel lo hi tv procs size : Int) (w : World) (hok : insOkB ⟨(3 : Int), d, a, b, rel, lo, hi, tv⟩ procs size = true) (hto : tv ≤ 9223372036854775807) :
    Calls Tryz.prog 21 #[Ins.v ⟨(3 : Int), d, a, b, rel, lo, hi, tv⟩, .int .i64 procs, .int .i64 size] w fun e w' => e = .returned (.string ⟨(textI ⟨(3 : Int), d, a, b, rel, lo, hi, tv⟩).toArray⟩) ∧ Grew w w' := by
  have CO := fun w => specInsOk ⟨(3 : Int), d, a, b, rel, lo, hi, tv⟩ procs size w
  rw [hok] at CO
  have CO := Lib.hid CO
  obtain ⟨-, vd, va, vb, hr, hl, h0⟩ := okFacts hok
  have CD := Lib.hid fun w => specVar d w vd
  have CA := Lib.hid fun w => specVar a w va
  have CB := Lib.hid fun w => specVar b w vb
  have ld := varT_one d
  have la := varT_one a
  have lb := varT_one b
  have ln : (nameT (3 : Int)).length = 3 := rfl
  clear h0 hl hr
  clear vd va vb hok hto
  go_enter Tryz.func21, Tryz.ntmps21
  go_wp2_with ((with_reducible refine (CO.out _).mono ?_); rintro e w' ⟨rfl, g'⟩; (first | obtain ⟨x, rfl⟩ := ext_cold g' | obtain ⟨x, rfl⟩ := ext_col g' | obtain ⟨x, rfl⟩ := ext_of g'); clear g')
  have q0 : (ext (w.alloc (.cells #[.int .i64 ((3 : Int)), .int .i64 (d), .int .i64 (a), .int .i64 (b), .int .i64 (rel), .int .i64 (lo), .int .i64 (hi), .int .i64 (tv)] 38)) x).cell? ⟨w.heap.size, 0, none⟩ = some (.int .i64 ((3 : Int))) := by simp [go_sem]
  have q1 : (ext (w.alloc (.cells #[.int .i64 ((3 : Int)), .int .i64 (d), .int .i64 (a), .int .i64 (b), .int .i64 (rel), .int .i64 (lo), .int .i64 (hi), .int .i64 (tv)] 38)) x).cell? ⟨w.heap.size, 1, none⟩ = some (.int .i64 (d)) := by simp [go_sem]
  have q2 : (ext (w.alloc (.cells #[.int .i64 ((3 : Int)), .int .i64 (d), .int .i64 (a), .int .i64 (b), .int .i64 (rel), .int .i64 (lo), .int .i64 (hi), .int .i64 (tv)] 38)) x).cell? ⟨w.heap.size, 2, none⟩ = some (.int .i64 (a)) := by simp [go_sem]
  have q3 : (ext (w.alloc (.cells #[.int .i64 ((3 : Int)), .int .i64 (d), .int .i64 (a), .int .i64 (b), .int .i64 (rel), .int .i64 (lo), .int .i64 (hi), .int .i64 (tv)] 38)) x).cell? ⟨w.heap.size, 3, none⟩ = some (.int .i64 (b)) := by simp [go_sem]
  have q4 : (ext (w.alloc (.cells #[.int .i64 ((3 : Int)), .int .i64 (d), .int .i64 (a), .int .i64 (b), .int .i64 (rel), .int .i64 (lo), .int .i64 (hi), .int .i64 (tv)] 38)) x).cell? ⟨w.heap.size, 4, none⟩ = some (.int .i64 (rel)) := by simp [go_sem]
  have q5 : (ext (w.alloc (.cells #[.int .i64 ((3 : Int)), .int .i64 (d), .int .i64 (a), .int .i64 (b), .int .i64 (rel), .int .i64 (lo), .int .i64 (hi), .int .i64 (tv)] 38)) x).cell? ⟨w.heap.size, 5, none⟩ = some (.int .i64 (lo)) := by simp [go_sem]
  have q6 : (ext (w.alloc (.cells #[.int .i64 ((3 : Int)), .int .i64 (d), .int .i64 (a), .int .i64 (b), .int .i64 (rel), .int .i64 (lo), .int .i64 (hi), .int .i64 (tv)] 38)) x).cell? ⟨w.heap.size, 6, none⟩ = some (.int .i64 (hi)) := by simp [go_sem]
  have q7 : (ext (w.alloc (.cells #[.int .i64 ((3 : Int)), .int .i64 (d), .int .i64 (a), .int .i64 (b), .int .i64 (rel), .int .i64 (lo), .int .i64 (hi), .int .i64 (tv)] 38)) x).cell? ⟨w.heap.size, 7, none⟩ = some (.int .i64 (tv)) := by simp [go_sem]
  refine region_w 141 [pgS (0) (13) (13) (namesL), pgV (.pointer (some ⟨w.heap.size, 0, none⟩)), pgV (.int .i64 ((3 : Int))), pgP (nameT (3 : Int)), pgV (.string ⟨(nameT (3 : Int) : List UInt8).toArray⟩), pgV (.string ⟨(nameT (3 : Int) : List UInt8).toArray⟩)] (by kernel_rfl) rfl (by kernel_rfl) ⟨?_, ?_, ?_, ?_, ?_, ?_, trivial⟩ ?_
  · exact w_callX (fun A W h => by
    refine Eq.trans (b := .ok (.enter 44 #[]) W) (by kernel_rfl) ?_
    rfl) (fun W hW => specNames W)
  · exact w_vx (v := .pointer (some ⟨w.heap.size, 0, none⟩)) rfl (fun A W h => by
    have e3 : A.eval (.tmp 3) = .pointer (some ⟨w.heap.size, 0, none⟩) := (h.slot 3).trans rfl
    simp only [execOp, e3]
    first | (simp [go_sem]; done) | rfl | kernel_rfl)
  · exact w_vx (v := .int .i64 ((3 : Int))) rfl (fun A W h => by
    have e17 : A.eval (.tmp 17) = .pointer (some ⟨w.heap.size, 0, none⟩) := h.vb 1 17
    have k0 := gk h.grew q0
    simp only [execOp, e17]
    simp [go_sem, k0])
  · exact w_ex (fun A W h => by
    obtain ⟨y16, e16, hB16, hlt16, hc16⟩ := h.vb 0 16
    have e18 : A.eval (.tmp 18) = .int .i64 ((3 : Int)) := h.vb 2 18
    exact ⟨.pointer (some ⟨y16, 3, none⟩), W, by (simp only [execOp, e16, e18]; simp [go_sem] <;> (intro hge; omega)), ⟨_, rfl, hc16 3 _ rfl⟩, Below.refl _ _⟩)
  · exact w_vx (v := .string ⟨(nameT (3 : Int) : List UInt8).toArray⟩) rfl (fun A W h => by
    obtain ⟨y19, e19, hc19⟩ := h.vb 3 19
    simp only [execOp, e19]
    simp [go_sem, hc19])
  · exact w_vx (v := .string ⟨(nameT (3 : Int) : List UInt8).toArray⟩) rfl (fun A W h => by
    have e20 : A.eval (.tmp 20) = .string ⟨(nameT (3 : Int) : List UInt8).toArray⟩ := h.vb 4 20
    simp only [execOp, e20]
    first | (simp [go_sem]; done) | rfl | kernel_rfl)
  intro vs w9 g9 hR
  obtain ⟨z0, x0, zB0, zl0, zc0⟩ := hR 0 16 (by kernel_rfl)
  have x1 : vs 1 = .pointer (some ⟨w.heap.size, 0, none⟩) := hR 1 17 (by kernel_rfl)
  have x2 : vs 2 = .int .i64 ((3 : Int)) := hR 2 18 (by kernel_rfl)
  obtain ⟨z3, x3, _⟩ := hR 3 19 (by kernel_rfl)
  have x4 : vs 4 = .string ⟨(nameT (3 : Int) : List UInt8).toArray⟩ := hR 4 20 (by kernel_rfl)
  have x5 : vs 5 = .string ⟨(nameT (3 : Int) : List UInt8).toArray⟩ := hR 5 7 (by kernel_rfl)
  simp only [putAll, Act.put, List.setIfInBounds_toArray, List.set_cons_zero, List.set_cons_succ, Nat.zero_add, Nat.reduceAdd, x0, x1, x2, x3, x4, x5]
  clear hR x0 x1 x2 x3 x4 x5
  obtain ⟨x3, rfl⟩ := ext_col g9
  clear g9 q0 q1 q2 q3 q4 q5 q6 q7
  go_wp2_with (first | ((with_reducible refine (CA.out _).mono ?_); rintro e w' ⟨rfl, g'⟩; (first | obtain ⟨xa, rfl⟩ := ext_cold g' | obtain ⟨xa, rfl⟩ := ext_col g' | obtain ⟨xa, rfl⟩ := ext_of g'); clear g') | ((with_reducible refine (CB.out _).mono ?_); rintro e w' ⟨rfl, g'⟩; (first | obtain ⟨xb, rfl⟩ := ext_cold g' | obtain ⟨xb, rfl⟩ := ext_col g' | obtain ⟨xb, rfl⟩ := ext_of g'); clear g') | ((with_reducible refine (CD.out _).mono ?_); rintro e w' ⟨rfl, g'⟩; (first | obtain ⟨xd, rfl⟩ := ext_cold g' | obtain ⟨xd, rfl⟩ := ext_col g' | obtain ⟨xd, rfl⟩ := ext_of g'); clear g'))
  go_ret
  exact ⟨rt (by simp [textI, wordsI, join_cons, joinTail, nameT, setT]), gr⟩

set_option maxRecDepth 100000 in
set_option maxHeartbeats 4000000 in
theorem specText4 (d a b rel lo hi tv procs size : Int) (w : World) (hok : insOkB ⟨(4 : Int), d, a, b, rel, lo, hi, tv⟩ procs size = true) (hto : tv ≤ 9223372036854775807) :
    Calls Tryz.prog 21 #[Ins.v ⟨(4 : Int), d, a, b, rel, lo, hi, tv⟩, .int .i64 procs, .int .i64 size] w fun e w' => e = .returned (.string ⟨(textI ⟨(4 : Int), d, a, b, rel, lo, hi, tv⟩).toArray⟩) ∧ Grew w w' := by
  have CO := fun w => specInsOk ⟨(4 : Int), d, a, b, rel, lo, hi, tv⟩ procs size w
  rw [hok] at CO
  have CO := Lib.hid CO
  obtain ⟨-, vd, va, vb, hr, hl, h0⟩ := okFacts hok
  have CD := Lib.hid fun w => specVar d w vd
  have CA := Lib.hid fun w => specVar a w va
  have CB := Lib.hid fun w => specVar b w vb
  have ld := varT_one d
  have la := varT_one a
  have lb := varT_one b
  have ln : (nameT (4 : Int)).length = 3 := rfl
  clear h0 hl hr
  clear vd va vb hok hto
  go_enter Tryz.func21, Tryz.ntmps21
  go_wp2_with ((with_reducible refine (CO.out _).mono ?_); rintro e w' ⟨rfl, g'⟩; (first | obtain ⟨x, rfl⟩ := ext_cold g' | obtain ⟨x, rfl⟩ := ext_col g' | obtain ⟨x, rfl⟩ := ext_of g'); clear g')
  have q0 : (ext (w.alloc (.cells #[.int .i64 ((4 : Int)), .int .i64 (d), .int .i64 (a), .int .i64 (b), .int .i64 (rel), .int .i64 (lo), .int .i64 (hi), .int .i64 (tv)] 38)) x).cell? ⟨w.heap.size, 0, none⟩ = some (.int .i64 ((4 : Int))) := by simp [go_sem]
  have q1 : (ext (w.alloc (.cells #[.int .i64 ((4 : Int)), .int .i64 (d), .int .i64 (a), .int .i64 (b), .int .i64 (rel), .int .i64 (lo), .int .i64 (hi), .int .i64 (tv)] 38)) x).cell? ⟨w.heap.size, 1, none⟩ = some (.int .i64 (d)) := by simp [go_sem]
  have q2 : (ext (w.alloc (.cells #[.int .i64 ((4 : Int)), .int .i64 (d), .int .i64 (a), .int .i64 (b), .int .i64 (rel), .int .i64 (lo), .int .i64 (hi), .int .i64 (tv)] 38)) x).cell? ⟨w.heap.size, 2, none⟩ = some (.int .i64 (a)) := by simp [go_sem]
  have q3 : (ext (w.alloc (.cells #[.int .i64 ((4 : Int)), .int .i64 (d), .int .i64 (a), .int .i64 (b), .int .i64 (rel), .int .i64 (lo), .int .i64 (hi), .int .i64 (tv)] 38)) x).cell? ⟨w.heap.size, 3, none⟩ = some (.int .i64 (b)) := by simp [go_sem]
  have q4 : (ext (w.alloc (.cells #[.int .i64 ((4 : Int)), .int .i64 (d), .int .i64 (a), .int .i64 (b), .int .i64 (rel), .int .i64 (lo), .int .i64 (hi), .int .i64 (tv)] 38)) x).cell? ⟨w.heap.size, 4, none⟩ = some (.int .i64 (rel)) := by simp [go_sem]
  have q5 : (ext (w.alloc (.cells #[.int .i64 ((4 : Int)), .int .i64 (d), .int .i64 (a), .int .i64 (b), .int .i64 (rel), .int .i64 (lo), .int .i64 (hi), .int .i64 (tv)] 38)) x).cell? ⟨w.heap.size, 5, none⟩ = some (.int .i64 (lo)) := by simp [go_sem]
  have q6 : (ext (w.alloc (.cells #[.int .i64 ((4 : Int)), .int .i64 (d), .int .i64 (a), .int .i64 (b), .int .i64 (rel), .int .i64 (lo), .int .i64 (hi), .int .i64 (tv)] 38)) x).cell? ⟨w.heap.size, 6, none⟩ = some (.int .i64 (hi)) := by simp [go_sem]
  have q7 : (ext (w.alloc (.cells #[.int .i64 ((4 : Int)), .int .i64 (d), .int .i64 (a), .int .i64 (b), .int .i64 (rel), .int .i64 (lo), .int .i64 (hi), .int .i64 (tv)] 38)) x).cell? ⟨w.heap.size, 7, none⟩ = some (.int .i64 (tv)) := by simp [go_sem]
  refine region_w 141 [pgS (0) (13) (13) (namesL), pgV (.pointer (some ⟨w.heap.size, 0, none⟩)), pgV (.int .i64 ((4 : Int))), pgP (nameT (4 : Int)), pgV (.string ⟨(nameT (4 : Int) : List UInt8).toArray⟩), pgV (.string ⟨(nameT (4 : Int) : List UInt8).toArray⟩)] (by kernel_rfl) rfl (by kernel_rfl) ⟨?_, ?_, ?_, ?_, ?_, ?_, trivial⟩ ?_
  · exact w_callX (fun A W h => by
    refine Eq.trans (b := .ok (.enter 44 #[]) W) (by kernel_rfl) ?_
    rfl) (fun W hW => specNames W)
  · exact w_vx (v := .pointer (some ⟨w.heap.size, 0, none⟩)) rfl (fun A W h => by
    have e3 : A.eval (.tmp 3) = .pointer (some ⟨w.heap.size, 0, none⟩) := (h.slot 3).trans rfl
    simp only [execOp, e3]
    first | (simp [go_sem]; done) | rfl | kernel_rfl)
  · exact w_vx (v := .int .i64 ((4 : Int))) rfl (fun A W h => by
    have e17 : A.eval (.tmp 17) = .pointer (some ⟨w.heap.size, 0, none⟩) := h.vb 1 17
    have k0 := gk h.grew q0
    simp only [execOp, e17]
    simp [go_sem, k0])
  · exact w_ex (fun A W h => by
    obtain ⟨y16, e16, hB16, hlt16, hc16⟩ := h.vb 0 16
    have e18 : A.eval (.tmp 18) = .int .i64 ((4 : Int)) := h.vb 2 18
    exact ⟨.pointer (some ⟨y16, 4, none⟩), W, by (simp only [execOp, e16, e18]; simp [go_sem] <;> (intro hge; omega)), ⟨_, rfl, hc16 4 _ rfl⟩, Below.refl _ _⟩)
  · exact w_vx (v := .string ⟨(nameT (4 : Int) : List UInt8).toArray⟩) rfl (fun A W h => by
    obtain ⟨y19, e19, hc19⟩ := h.vb 3 19
    simp only [execOp, e19]
    simp [go_sem, hc19])
  · exact w_vx (v := .string ⟨(nameT (4 : Int) : List UInt8).toArray⟩) rfl (fun A W h => by
    have e20 : A.eval (.tmp 20) = .string ⟨(nameT (4 : Int) : List UInt8).toArray⟩ := h.vb 4 20
    simp only [execOp, e20]
    first | (simp [go_sem]; done) | rfl | kernel_rfl)
  intro vs w9 g9 hR
  obtain ⟨z0, x0, zB0, zl0, zc0⟩ := hR 0 16 (by kernel_rfl)
  have x1 : vs 1 = .pointer (some ⟨w.heap.size, 0, none⟩) := hR 1 17 (by kernel_rfl)
  have x2 : vs 2 = .int .i64 ((4 : Int)) := hR 2 18 (by kernel_rfl)
  obtain ⟨z3, x3, _⟩ := hR 3 19 (by kernel_rfl)
  have x4 : vs 4 = .string ⟨(nameT (4 : Int) : List UInt8).toArray⟩ := hR 4 20 (by kernel_rfl)
  have x5 : vs 5 = .string ⟨(nameT (4 : Int) : List UInt8).toArray⟩ := hR 5 7 (by kernel_rfl)
  simp only [putAll, Act.put, List.setIfInBounds_toArray, List.set_cons_zero, List.set_cons_succ, Nat.zero_add, Nat.reduceAdd, x0, x1, x2, x3, x4, x5]
  clear hR x0 x1 x2 x3 x4 x5
  obtain ⟨x3, rfl⟩ := ext_col g9
  clear g9 q0 q1 q2 q3 q4 q5 q6 q7
  go_wp2_with (first | ((with_reducible refine (CA.out _).mono ?_); rintro e w' ⟨rfl, g'⟩; (first | obtain ⟨xa, rfl⟩ := ext_cold g' | obtain ⟨xa, rfl⟩ := ext_col g' | obtain ⟨xa, rfl⟩ := ext_of g'); clear g') | ((with_reducible refine (CB.out _).mono ?_); rintro e w' ⟨rfl, g'⟩; (first | obtain ⟨xb, rfl⟩ := ext_cold g' | obtain ⟨xb, rfl⟩ := ext_col g' | obtain ⟨xb, rfl⟩ := ext_of g'); clear g') | ((with_reducible refine (CD.out _).mono ?_); rintro e w' ⟨rfl, g'⟩; (first | obtain ⟨xd, rfl⟩ := ext_cold g' | obtain ⟨xd, rfl⟩ := ext_col g' | obtain ⟨xd, rfl⟩ := ext_of g'); clear g'))
  go_ret
  exact ⟨rt (by simp [textI, wordsI, join_cons, joinTail, nameT, setT]), gr⟩

set_option maxRecDepth 100000 in
set_option maxHeartbeats 4000000 in
theorem specText5 (d a b rel lo hi tv procs size : Int) (w : World) (hok : insOkB ⟨(5 : Int), d, a, b, rel, lo, hi, tv⟩ procs size = true) (hto : tv ≤ 9223372036854775807) :
    Calls Tryz.prog 21 #[Ins.v ⟨(5 : Int), d, a, b, rel, lo, hi, tv⟩, .int .i64 procs, .int .i64 size] w fun e w' => e = .returned (.string ⟨(textI ⟨(5 : Int), d, a, b, rel, lo, hi, tv⟩).toArray⟩) ∧ Grew w w' := by
  have CO := fun w => specInsOk ⟨(5 : Int), d, a, b, rel, lo, hi, tv⟩ procs size w
  rw [hok] at CO
  have CO := Lib.hid CO
  obtain ⟨-, vd, va, vb, hr, hl, h0⟩ := okFacts hok
  have CD := Lib.hid fun w => specVar d w vd
  have CA := Lib.hid fun w => specVar a w va
  have CB := Lib.hid fun w => specVar b w vb
  have ld := varT_one d
  have la := varT_one a
  have lb := varT_one b
  have ln : (nameT (5 : Int)).length = 3 := rfl
  have hl : -32768 ≤ lo ∧ lo ≤ 32767 ∧ -32768 ≤ hi ∧ hi ≤ 32767 := hl rfl
  have CL := Lib.hid fun w => specDigits lo w (by omega) (by omega)
  have CH := Lib.hid fun w => specDigits hi w (by omega) (by omega)
  have ll := itoa_len (n := lo) (by omega) (by omega)
  have lh := itoa_len (n := hi) (by omega) (by omega)
  clear h0 hr
  clear vd va vb hok hto
  go_enter Tryz.func21, Tryz.ntmps21
  go_wp2_with ((with_reducible refine (CO.out _).mono ?_); rintro e w' ⟨rfl, g'⟩; (first | obtain ⟨x, rfl⟩ := ext_cold g' | obtain ⟨x, rfl⟩ := ext_col g' | obtain ⟨x, rfl⟩ := ext_of g'); clear g')
  have q0 : (ext (w.alloc (.cells #[.int .i64 ((5 : Int)), .int .i64 (d), .int .i64 (a), .int .i64 (b), .int .i64 (rel), .int .i64 (lo), .int .i64 (hi), .int .i64 (tv)] 38)) x).cell? ⟨w.heap.size, 0, none⟩ = some (.int .i64 ((5 : Int))) := by simp [go_sem]
  have q1 : (ext (w.alloc (.cells #[.int .i64 ((5 : Int)), .int .i64 (d), .int .i64 (a), .int .i64 (b), .int .i64 (rel), .int .i64 (lo), .int .i64 (hi), .int .i64 (tv)] 38)) x).cell? ⟨w.heap.size, 1, none⟩ = some (.int .i64 (d)) := by simp [go_sem]
  have q2 : (ext (w.alloc (.cells #[.int .i64 ((5 : Int)), .int .i64 (d), .int .i64 (a), .int .i64 (b), .int .i64 (rel), .int .i64 (lo), .int .i64 (hi), .int .i64 (tv)] 38)) x).cell? ⟨w.heap.size, 2, none⟩ = some (.int .i64 (a)) := by simp [go_sem]
  have q3 : (ext (w.alloc (.cells #[.int .i64 ((5 : Int)), .int .i64 (d), .int .i64 (a), .int .i64 (b), .int .i64 (rel), .int .i64 (lo), .int .i64 (hi), .int .i64 (tv)] 38)) x).cell? ⟨w.heap.size, 3, none⟩ = some (.int .i64 (b)) := by simp [go_sem]
  have q4 : (ext (w.alloc (.cells #[.int .i64 ((5 : Int)), .int .i64 (d), .int .i64 (a), .int .i64 (b), .int .i64 (rel), .int .i64 (lo), .int .i64 (hi), .int .i64 (tv)] 38)) x).cell? ⟨w.heap.size, 4, none⟩ = some (.int .i64 (rel)) := by simp [go_sem]
  have q5 : (ext (w.alloc (.cells #[.int .i64 ((5 : Int)), .int .i64 (d), .int .i64 (a), .int .i64 (b), .int .i64 (rel), .int .i64 (lo), .int .i64 (hi), .int .i64 (tv)] 38)) x).cell? ⟨w.heap.size, 5, none⟩ = some (.int .i64 (lo)) := by simp [go_sem]
  have q6 : (ext (w.alloc (.cells #[.int .i64 ((5 : Int)), .int .i64 (d), .int .i64 (a), .int .i64 (b), .int .i64 (rel), .int .i64 (lo), .int .i64 (hi), .int .i64 (tv)] 38)) x).cell? ⟨w.heap.size, 6, none⟩ = some (.int .i64 (hi)) := by simp [go_sem]
  have q7 : (ext (w.alloc (.cells #[.int .i64 ((5 : Int)), .int .i64 (d), .int .i64 (a), .int .i64 (b), .int .i64 (rel), .int .i64 (lo), .int .i64 (hi), .int .i64 (tv)] 38)) x).cell? ⟨w.heap.size, 7, none⟩ = some (.int .i64 (tv)) := by simp [go_sem]
  refine region_w 141 [pgS (0) (13) (13) (namesL), pgV (.pointer (some ⟨w.heap.size, 0, none⟩)), pgV (.int .i64 ((5 : Int))), pgP (nameT (5 : Int)), pgV (.string ⟨(nameT (5 : Int) : List UInt8).toArray⟩), pgV (.string ⟨(nameT (5 : Int) : List UInt8).toArray⟩)] (by kernel_rfl) rfl (by kernel_rfl) ⟨?_, ?_, ?_, ?_, ?_, ?_, trivial⟩ ?_
  · exact w_callX (fun A W h => by
    refine Eq.trans (b := .ok (.enter 44 #[]) W) (by kernel_rfl) ?_
    rfl) (fun W hW => specNames W)
  · exact w_vx (v := .pointer (some ⟨w.heap.size, 0, none⟩)) rfl (fun A W h => by
    have e3 : A.eval (.tmp 3) = .pointer (some ⟨w.heap.size, 0, none⟩) := (h.slot 3).trans rfl
    simp only [execOp, e3]
    first | (simp [go_sem]; done) | rfl | kernel_rfl)
  · exact w_vx (v := .int .i64 ((5 : Int))) rfl (fun A W h => by
    have e17 : A.eval (.tmp 17) = .pointer (some ⟨w.heap.size, 0, none⟩) := h.vb 1 17
    have k0 := gk h.grew q0
    simp only [execOp, e17]
    simp [go_sem, k0])
  · exact w_ex (fun A W h => by
    obtain ⟨y16, e16, hB16, hlt16, hc16⟩ := h.vb 0 16
    have e18 : A.eval (.tmp 18) = .int .i64 ((5 : Int)) := h.vb 2 18
    exact ⟨.pointer (some ⟨y16, 5, none⟩), W, by (simp only [execOp, e16, e18]; simp [go_sem] <;> (intro hge; omega)), ⟨_, rfl, hc16 5 _ rfl⟩, Below.refl _ _⟩)
  · exact w_vx (v := .string ⟨(nameT (5 : Int) : List UInt8).toArray⟩) rfl (fun A W h => by
    obtain ⟨y19, e19, hc19⟩ := h.vb 3 19
    simp only [execOp, e19]
    simp [go_sem, hc19])
  · exact w_vx (v := .string ⟨(nameT (5 : Int) : List UInt8).toArray⟩) rfl (fun A W h => by
    have e20 : A.eval (.tmp 20) = .string ⟨(nameT (5 : Int) : List UInt8).toArray⟩ := h.vb 4 20
    simp only [execOp, e20]
    first | (simp [go_sem]; done) | rfl | kernel_rfl)
  intro vs w9 g9 hR
  obtain ⟨z0, x0, zB0, zl0, zc0⟩ := hR 0 16 (by kernel_rfl)
  have x1 : vs 1 = .pointer (some ⟨w.heap.size, 0, none⟩) := hR 1 17 (by kernel_rfl)
  have x2 : vs 2 = .int .i64 ((5 : Int)) := hR 2 18 (by kernel_rfl)
  obtain ⟨z3, x3, _⟩ := hR 3 19 (by kernel_rfl)
  have x4 : vs 4 = .string ⟨(nameT (5 : Int) : List UInt8).toArray⟩ := hR 4 20 (by kernel_rfl)
  have x5 : vs 5 = .string ⟨(nameT (5 : Int) : List UInt8).toArray⟩ := hR 5 7 (by kernel_rfl)
  simp only [putAll, Act.put, List.setIfInBounds_toArray, List.set_cons_zero, List.set_cons_succ, Nat.zero_add, Nat.reduceAdd, x0, x1, x2, x3, x4, x5]
  clear hR x0 x1 x2 x3 x4 x5
  obtain ⟨x3, rfl⟩ := ext_col g9
  clear g9 q0 q1 q2 q3 q4 q5 q6 q7
  by_cases hlh : lo = hi
  · subst hlh
    go_wp2_with (first | ((with_reducible refine (CA.out _).mono ?_); rintro e w' ⟨rfl, g'⟩; (first | obtain ⟨xa, rfl⟩ := ext_cold g' | obtain ⟨xa, rfl⟩ := ext_col g' | obtain ⟨xa, rfl⟩ := ext_of g'); clear g') | ((with_reducible refine (CB.out _).mono ?_); rintro e w' ⟨rfl, g'⟩; (first | obtain ⟨xb, rfl⟩ := ext_cold g' | obtain ⟨xb, rfl⟩ := ext_col g' | obtain ⟨xb, rfl⟩ := ext_of g'); clear g') | ((with_reducible refine (CD.out _).mono ?_); rintro e w' ⟨rfl, g'⟩; (first | obtain ⟨xd, rfl⟩ := ext_cold g' | obtain ⟨xd, rfl⟩ := ext_col g' | obtain ⟨xd, rfl⟩ := ext_of g'); clear g') | ((with_reducible refine (CL.out _).mono ?_); rintro e w' ⟨rfl, g'⟩; (first | obtain ⟨xl, rfl⟩ := ext_cold g' | obtain ⟨xl, rfl⟩ := ext_col g' | obtain ⟨xl, rfl⟩ := ext_of g'); clear g'))
    go_ret
    exact ⟨rt (by simp [textI, wordsI, join_cons, joinTail, nameT, setT]), gr⟩
  · go_wp2_with (first | ((with_reducible refine (CA.out _).mono ?_); rintro e w' ⟨rfl, g'⟩; (first | obtain ⟨xa, rfl⟩ := ext_cold g' | obtain ⟨xa, rfl⟩ := ext_col g' | obtain ⟨xa, rfl⟩ := ext_of g'); clear g') | ((with_reducible refine (CB.out _).mono ?_); rintro e w' ⟨rfl, g'⟩; (first | obtain ⟨xb, rfl⟩ := ext_cold g' | obtain ⟨xb, rfl⟩ := ext_col g' | obtain ⟨xb, rfl⟩ := ext_of g'); clear g') | ((with_reducible refine (CD.out _).mono ?_); rintro e w' ⟨rfl, g'⟩; (first | obtain ⟨xd, rfl⟩ := ext_cold g' | obtain ⟨xd, rfl⟩ := ext_col g' | obtain ⟨xd, rfl⟩ := ext_of g'); clear g'))
    have q0 : (ext (w.alloc (.cells #[.int .i64 ((5 : Int)), .int .i64 (d), .int .i64 (a), .int .i64 (b), .int .i64 (rel), .int .i64 (lo), .int .i64 (hi), .int .i64 (tv)] 38)) xd).cell? ⟨w.heap.size, 0, none⟩ = some (.int .i64 ((5 : Int))) := by simp [go_sem]
    have q1 : (ext (w.alloc (.cells #[.int .i64 ((5 : Int)), .int .i64 (d), .int .i64 (a), .int .i64 (b), .int .i64 (rel), .int .i64 (lo), .int .i64 (hi), .int .i64 (tv)] 38)) xd).cell? ⟨w.heap.size, 1, none⟩ = some (.int .i64 (d)) := by simp [go_sem]
    have q2 : (ext (w.alloc (.cells #[.int .i64 ((5 : Int)), .int .i64 (d), .int .i64 (a), .int .i64 (b), .int .i64 (rel), .int .i64 (lo), .int .i64 (hi), .int .i64 (tv)] 38)) xd).cell? ⟨w.heap.size, 2, none⟩ = some (.int .i64 (a)) := by simp [go_sem]
    have q3 : (ext (w.alloc (.cells #[.int .i64 ((5 : Int)), .int .i64 (d), .int .i64 (a), .int .i64 (b), .int .i64 (rel), .int .i64 (lo), .int .i64 (hi), .int .i64 (tv)] 38)) xd).cell? ⟨w.heap.size, 3, none⟩ = some (.int .i64 (b)) := by simp [go_sem]
    have q4 : (ext (w.alloc (.cells #[.int .i64 ((5 : Int)), .int .i64 (d), .int .i64 (a), .int .i64 (b), .int .i64 (rel), .int .i64 (lo), .int .i64 (hi), .int .i64 (tv)] 38)) xd).cell? ⟨w.heap.size, 4, none⟩ = some (.int .i64 (rel)) := by simp [go_sem]
    have q5 : (ext (w.alloc (.cells #[.int .i64 ((5 : Int)), .int .i64 (d), .int .i64 (a), .int .i64 (b), .int .i64 (rel), .int .i64 (lo), .int .i64 (hi), .int .i64 (tv)] 38)) xd).cell? ⟨w.heap.size, 5, none⟩ = some (.int .i64 (lo)) := by simp [go_sem]
    have q6 : (ext (w.alloc (.cells #[.int .i64 ((5 : Int)), .int .i64 (d), .int .i64 (a), .int .i64 (b), .int .i64 (rel), .int .i64 (lo), .int .i64 (hi), .int .i64 (tv)] 38)) xd).cell? ⟨w.heap.size, 6, none⟩ = some (.int .i64 (hi)) := by simp [go_sem]
    have q7 : (ext (w.alloc (.cells #[.int .i64 ((5 : Int)), .int .i64 (d), .int .i64 (a), .int .i64 (b), .int .i64 (rel), .int .i64 (lo), .int .i64 (hi), .int .i64 (tv)] 38)) xd).cell? ⟨w.heap.size, 7, none⟩ = some (.int .i64 (tv)) := by simp [go_sem]
    refine region_w 141 [pgV (.string ⟨(nameT (5 : Int) : List UInt8).toArray⟩), pgV (.string ⟨(32 :: varT d : List UInt8).toArray⟩), pgV (.string ⟨((nameT (5 : Int)) ++ (32 :: varT d) : List UInt8).toArray⟩), pgV (.string ⟨(((nameT (5 : Int)) ++ (32 :: varT d)) ++ ([32]) : List UInt8).toArray⟩), pgV (.pointer (some ⟨w.heap.size, 5, none⟩)), pgV (.int .i64 (lo)), pgV (.string ⟨(itoa lo : List UInt8).toArray⟩), pgV (.string ⟨((((nameT (5 : Int)) ++ (32 :: varT d)) ++ ([32])) ++ (itoa lo) : List UInt8).toArray⟩), pgV (.string ⟨(((((nameT (5 : Int)) ++ (32 :: varT d)) ++ ([32])) ++ (itoa lo)) ++ ([32]) : List UInt8).toArray⟩), pgV (.pointer (some ⟨w.heap.size, 6, none⟩)), pgV (.int .i64 (hi)), pgV (.string ⟨(itoa hi : List UInt8).toArray⟩), pgV (.string ⟨((((((nameT (5 : Int)) ++ (32 :: varT d)) ++ ([32])) ++ (itoa lo)) ++ ([32])) ++ (itoa hi) : List UInt8).toArray⟩), pgV (.string ⟨((((((nameT (5 : Int)) ++ (32 :: varT d)) ++ ([32])) ++ (itoa lo)) ++ ([32])) ++ (itoa hi) : List UInt8).toArray⟩)] (by kernel_rfl) rfl (by kernel_rfl) ⟨?_, ?_, ?_, ?_, ?_, ?_, ?_, ?_, ?_, ?_, ?_, ?_, ?_, ?_, trivial⟩ ?_
    · exact w_vx (v := .string ⟨(nameT (5 : Int) : List UInt8).toArray⟩) rfl (fun A W h => by
      have e7 : A.eval (.tmp 7) = .string ⟨(nameT (5 : Int) : List UInt8).toArray⟩ := (h.slot 7).trans rfl
      simp only [execOp, e7]
      first | (simp [go_sem]; done) | rfl | kernel_rfl)
    · exact w_vx (v := .string ⟨(32 :: varT d : List UInt8).toArray⟩) rfl (fun A W h => by
      have e10 : A.eval (.tmp 10) = .string ⟨(32 :: varT d : List UInt8).toArray⟩ := (h.slot 10).trans rfl
      simp only [execOp, e10]
      first | (simp [go_sem]; done) | rfl | kernel_rfl)
    · exact w_vx (v := .string ⟨((nameT (5 : Int)) ++ (32 :: varT d) : List UInt8).toArray⟩) rfl (fun A W h => by
      have e49 : A.eval (.tmp 49) = .string ⟨(nameT (5 : Int) : List UInt8).toArray⟩ := h.vb 0 49
      have e50 : A.eval (.tmp 50) = .string ⟨(32 :: varT d : List UInt8).toArray⟩ := h.vb 1 50
      have hh := str_add (P := Tryz.prog) 9 (nameT (5 : Int)) (32 :: varT d) (by (try simp only [List.length_append, List.length_cons, List.length_nil, ld, la, lb, ln]); omega) W
      simp only [execOp, e49, e50]
      simp only [Sem.run_bind, evalK, eqGuard_add, hh, Result.andThen_ok, Sem.run_pure])
    · exact w_vx (v := .string ⟨(((nameT (5 : Int)) ++ (32 :: varT d)) ++ ([32]) : List UInt8).toArray⟩) rfl (fun A W h => by
      have e51 : A.eval (.tmp 51) = .string ⟨((nameT (5 : Int)) ++ (32 :: varT d) : List UInt8).toArray⟩ := h.vb 2 51
      have hh := str_add (P := Tryz.prog) 9 ((nameT (5 : Int)) ++ (32 :: varT d)) ([32]) (by (try simp only [List.length_append, List.length_cons, List.length_nil, ld, la, lb, ln]); omega) W
      simp only [execOp, e51]
      simp only [Sem.run_bind, evalK, eqGuard_add, hh, Result.andThen_ok, Sem.run_pure])
    · exact w_vx (v := .pointer (some ⟨w.heap.size, 5, none⟩)) rfl (fun A W h => by
      have e3 : A.eval (.tmp 3) = .pointer (some ⟨w.heap.size, 0, none⟩) := (h.slot 3).trans rfl
      simp only [execOp, e3]
      first | (simp [go_sem]; done) | rfl | kernel_rfl)
    · exact w_vx (v := .int .i64 (lo)) rfl (fun A W h => by
      have e53 : A.eval (.tmp 53) = .pointer (some ⟨w.heap.size, 5, none⟩) := h.vb 4 53
      have k0 := gk h.grew q5
      simp only [execOp, e53]
      simp [go_sem, k0])
    · exact w_call (v := .string ⟨(itoa lo : List UInt8).toArray⟩) rfl (fun A W h => by
      have e54 : A.eval (.tmp 54) = .int .i64 (lo) := h.vb 5 54
      refine Eq.trans (b := .ok (.enter 29 #[A.eval (.tmp 54)]) W) (by kernel_rfl) ?_
      rw [e54]) (fun W hW => CL.out W)
    · exact w_vx (v := .string ⟨((((nameT (5 : Int)) ++ (32 :: varT d)) ++ ([32])) ++ (itoa lo) : List UInt8).toArray⟩) rfl (fun A W h => by
      have e52 : A.eval (.tmp 52) = .string ⟨(((nameT (5 : Int)) ++ (32 :: varT d)) ++ ([32]) : List UInt8).toArray⟩ := h.vb 3 52
      have e55 : A.eval (.tmp 55) = .string ⟨(itoa lo : List UInt8).toArray⟩ := h.vb 6 55
      have hh := str_add (P := Tryz.prog) 9 (((nameT (5 : Int)) ++ (32 :: varT d)) ++ ([32])) (itoa lo) (by (try simp only [List.length_append, List.length_cons, List.length_nil, ld, la, lb, ln]); omega) W
      simp only [execOp, e52, e55]
      simp only [Sem.run_bind, evalK, eqGuard_add, hh, Result.andThen_ok, Sem.run_pure])
    · exact w_vx (v := .string ⟨(((((nameT (5 : Int)) ++ (32 :: varT d)) ++ ([32])) ++ (itoa lo)) ++ ([32]) : List UInt8).toArray⟩) rfl (fun A W h => by
      have e56 : A.eval (.tmp 56) = .string ⟨((((nameT (5 : Int)) ++ (32 :: varT d)) ++ ([32])) ++ (itoa lo) : List UInt8).toArray⟩ := h.vb 7 56
      have hh := str_add (P := Tryz.prog) 9 ((((nameT (5 : Int)) ++ (32 :: varT d)) ++ ([32])) ++ (itoa lo)) ([32]) (by (try simp only [List.length_append, List.length_cons, List.length_nil, ld, la, lb, ln]); omega) W
      simp only [execOp, e56]
      simp only [Sem.run_bind, evalK, eqGuard_add, hh, Result.andThen_ok, Sem.run_pure])
    · exact w_vx (v := .pointer (some ⟨w.heap.size, 6, none⟩)) rfl (fun A W h => by
      have e3 : A.eval (.tmp 3) = .pointer (some ⟨w.heap.size, 0, none⟩) := (h.slot 3).trans rfl
      simp only [execOp, e3]
      first | (simp [go_sem]; done) | rfl | kernel_rfl)
    · exact w_vx (v := .int .i64 (hi)) rfl (fun A W h => by
      have e58 : A.eval (.tmp 58) = .pointer (some ⟨w.heap.size, 6, none⟩) := h.vb 9 58
      have k0 := gk h.grew q6
      simp only [execOp, e58]
      simp [go_sem, k0])
    · exact w_call (v := .string ⟨(itoa hi : List UInt8).toArray⟩) rfl (fun A W h => by
      have e59 : A.eval (.tmp 59) = .int .i64 (hi) := h.vb 10 59
      refine Eq.trans (b := .ok (.enter 29 #[A.eval (.tmp 59)]) W) (by kernel_rfl) ?_
      rw [e59]) (fun W hW => CH.out W)
    · exact w_vx (v := .string ⟨((((((nameT (5 : Int)) ++ (32 :: varT d)) ++ ([32])) ++ (itoa lo)) ++ ([32])) ++ (itoa hi) : List UInt8).toArray⟩) rfl (fun A W h => by
      have e57 : A.eval (.tmp 57) = .string ⟨(((((nameT (5 : Int)) ++ (32 :: varT d)) ++ ([32])) ++ (itoa lo)) ++ ([32]) : List UInt8).toArray⟩ := h.vb 8 57
      have e60 : A.eval (.tmp 60) = .string ⟨(itoa hi : List UInt8).toArray⟩ := h.vb 11 60
      have hh := str_add (P := Tryz.prog) 9 (((((nameT (5 : Int)) ++ (32 :: varT d)) ++ ([32])) ++ (itoa lo)) ++ ([32])) (itoa hi) (by (try simp only [List.length_append, List.length_cons, List.length_nil, ld, la, lb, ln]); omega) W
      simp only [execOp, e57, e60]
      simp only [Sem.run_bind, evalK, eqGuard_add, hh, Result.andThen_ok, Sem.run_pure])
    · exact w_vx (v := .string ⟨((((((nameT (5 : Int)) ++ (32 :: varT d)) ++ ([32])) ++ (itoa lo)) ++ ([32])) ++ (itoa hi) : List UInt8).toArray⟩) rfl (fun A W h => by
      have e61 : A.eval (.tmp 61) = .string ⟨((((((nameT (5 : Int)) ++ (32 :: varT d)) ++ ([32])) ++ (itoa lo)) ++ ([32])) ++ (itoa hi) : List UInt8).toArray⟩ := h.vb 12 61
      simp only [execOp, e61]
      first | (simp [go_sem]; done) | rfl | kernel_rfl)
    intro vs w9 g9 hR
    have x0 : vs 0 = .string ⟨(nameT (5 : Int) : List UInt8).toArray⟩ := hR 0 49 (by kernel_rfl)
    have x1 : vs 1 = .string ⟨(32 :: varT d : List UInt8).toArray⟩ := hR 1 50 (by kernel_rfl)
    have x2 : vs 2 = .string ⟨((nameT (5 : Int)) ++ (32 :: varT d) : List UInt8).toArray⟩ := hR 2 51 (by kernel_rfl)
    have x3 : vs 3 = .string ⟨(((nameT (5 : Int)) ++ (32 :: varT d)) ++ ([32]) : List UInt8).toArray⟩ := hR 3 52 (by kernel_rfl)
    have x4 : vs 4 = .pointer (some ⟨w.heap.size, 5, none⟩) := hR 4 53 (by kernel_rfl)
    have x5 : vs 5 = .int .i64 (lo) := hR 5 54 (by kernel_rfl)
    have x6 : vs 6 = .string ⟨(itoa lo : List UInt8).toArray⟩ := hR 6 55 (by kernel_rfl)
    have x7 : vs 7 = .string ⟨((((nameT (5 : Int)) ++ (32 :: varT d)) ++ ([32])) ++ (itoa lo) : List UInt8).toArray⟩ := hR 7 56 (by kernel_rfl)
    have x8 : vs 8 = .string ⟨(((((nameT (5 : Int)) ++ (32 :: varT d)) ++ ([32])) ++ (itoa lo)) ++ ([32]) : List UInt8).toArray⟩ := hR 8 57 (by kernel_rfl)
    have x9 : vs 9 = .pointer (some ⟨w.heap.size, 6, none⟩) := hR 9 58 (by kernel_rfl)
    have x10 : vs 10 = .int .i64 (hi) := hR 10 59 (by kernel_rfl)
    have x11 : vs 11 = .string ⟨(itoa hi : List UInt8).toArray⟩ := hR 11 60 (by kernel_rfl)
    have x12 : vs 12 = .string ⟨((((((nameT (5 : Int)) ++ (32 :: varT d)) ++ ([32])) ++ (itoa lo)) ++ ([32])) ++ (itoa hi) : List UInt8).toArray⟩ := hR 12 61 (by kernel_rfl)
    have x13 : vs 13 = .string ⟨((((((nameT (5 : Int)) ++ (32 :: varT d)) ++ ([32])) ++ (itoa lo)) ++ ([32])) ++ (itoa hi) : List UInt8).toArray⟩ := hR 13 6 (by kernel_rfl)
    simp only [putAll, Act.put, List.setIfInBounds_toArray, List.set_cons_zero, List.set_cons_succ, Nat.zero_add, Nat.reduceAdd, x0, x1, x2, x3, x4, x5, x6, x7, x8, x9, x10, x11, x12, x13]
    clear hR x0 x1 x2 x3 x4 x5 x6 x7 x8 x9 x10 x11 x12 x13
    obtain ⟨x9, rfl⟩ := ext_col g9
    clear g9 q0 q1 q2 q3 q4 q5 q6 q7
    go_wp2
    go_ret
    exact ⟨rt (by simp [textI, wordsI, join_cons, joinTail, nameT, setT, hlh]), gr⟩

set_option maxRecDepth 100000 in
set_option maxHeartbeats 4000000 in
theorem specText6 (d a b rel lo hi tv procs size : Int) (w : World) (hok : insOkB ⟨(6 : Int), d, a, b, rel, lo, hi, tv⟩ procs size = true) (hto : tv ≤ 9223372036854775807) :
    Calls Tryz.prog 21 #[Ins.v ⟨(6 : Int), d, a, b, rel, lo, hi, tv⟩, .int .i64 procs, .int .i64 size] w fun e w' => e = .returned (.string ⟨(textI ⟨(6 : Int), d, a, b, rel, lo, hi, tv⟩).toArray⟩) ∧ Grew w w' := by
  have CO := fun w => specInsOk ⟨(6 : Int), d, a, b, rel, lo, hi, tv⟩ procs size w
  rw [hok] at CO
  have CO := Lib.hid CO
  obtain ⟨-, vd, va, vb, hr, hl, h0⟩ := okFacts hok
  have CD := Lib.hid fun w => specVar d w vd
  have CA := Lib.hid fun w => specVar a w va
  have CB := Lib.hid fun w => specVar b w vb
  have ld := varT_one d
  have la := varT_one a
  have lb := varT_one b
  have ln : (nameT (6 : Int)).length = 4 := rfl
  clear h0 hl hr
  clear vd va vb hok hto
  go_enter Tryz.func21, Tryz.ntmps21
  go_wp2_with ((with_reducible refine (CO.out _).mono ?_); rintro e w' ⟨rfl, g'⟩; (first | obtain ⟨x, rfl⟩ := ext_cold g' | obtain ⟨x, rfl⟩ := ext_col g' | obtain ⟨x, rfl⟩ := ext_of g'); clear g')
  have q0 : (ext (w.alloc (.cells #[.int .i64 ((6 : Int)), .int .i64 (d), .int .i64 (a), .int .i64 (b), .int .i64 (rel), .int .i64 (lo), .int .i64 (hi), .int .i64 (tv)] 38)) x).cell? ⟨w.heap.size, 0, none⟩ = some (.int .i64 ((6 : Int))) := by simp [go_sem]
  have q1 : (ext (w.alloc (.cells #[.int .i64 ((6 : Int)), .int .i64 (d), .int .i64 (a), .int .i64 (b), .int .i64 (rel), .int .i64 (lo), .int .i64 (hi), .int .i64 (tv)] 38)) x).cell? ⟨w.heap.size, 1, none⟩ = some (.int .i64 (d)) := by simp [go_sem]
  have q2 : (ext (w.alloc (.cells #[.int .i64 ((6 : Int)), .int .i64 (d), .int .i64 (a), .int .i64 (b), .int .i64 (rel), .int .i64 (lo), .int .i64 (hi), .int .i64 (tv)] 38)) x).cell? ⟨w.heap.size, 2, none⟩ = some (.int .i64 (a)) := by simp [go_sem]
  have q3 : (ext (w.alloc (.cells #[.int .i64 ((6 : Int)), .int .i64 (d), .int .i64 (a), .int .i64 (b), .int .i64 (rel), .int .i64 (lo), .int .i64 (hi), .int .i64 (tv)] 38)) x).cell? ⟨w.heap.size, 3, none⟩ = some (.int .i64 (b)) := by simp [go_sem]
  have q4 : (ext (w.alloc (.cells #[.int .i64 ((6 : Int)), .int .i64 (d), .int .i64 (a), .int .i64 (b), .int .i64 (rel), .int .i64 (lo), .int .i64 (hi), .int .i64 (tv)] 38)) x).cell? ⟨w.heap.size, 4, none⟩ = some (.int .i64 (rel)) := by simp [go_sem]
  have q5 : (ext (w.alloc (.cells #[.int .i64 ((6 : Int)), .int .i64 (d), .int .i64 (a), .int .i64 (b), .int .i64 (rel), .int .i64 (lo), .int .i64 (hi), .int .i64 (tv)] 38)) x).cell? ⟨w.heap.size, 5, none⟩ = some (.int .i64 (lo)) := by simp [go_sem]
  have q6 : (ext (w.alloc (.cells #[.int .i64 ((6 : Int)), .int .i64 (d), .int .i64 (a), .int .i64 (b), .int .i64 (rel), .int .i64 (lo), .int .i64 (hi), .int .i64 (tv)] 38)) x).cell? ⟨w.heap.size, 6, none⟩ = some (.int .i64 (hi)) := by simp [go_sem]
  have q7 : (ext (w.alloc (.cells #[.int .i64 ((6 : Int)), .int .i64 (d), .int .i64 (a), .int .i64 (b), .int .i64 (rel), .int .i64 (lo), .int .i64 (hi), .int .i64 (tv)] 38)) x).cell? ⟨w.heap.size, 7, none⟩ = some (.int .i64 (tv)) := by simp [go_sem]
  refine region_w 141 [pgS (0) (13) (13) (namesL), pgV (.pointer (some ⟨w.heap.size, 0, none⟩)), pgV (.int .i64 ((6 : Int))), pgP (nameT (6 : Int)), pgV (.string ⟨(nameT (6 : Int) : List UInt8).toArray⟩), pgV (.string ⟨(nameT (6 : Int) : List UInt8).toArray⟩)] (by kernel_rfl) rfl (by kernel_rfl) ⟨?_, ?_, ?_, ?_, ?_, ?_, trivial⟩ ?_
  · exact w_callX (fun A W h => by
    refine Eq.trans (b := .ok (.enter 44 #[]) W) (by kernel_rfl) ?_
    rfl) (fun W hW => specNames W)
  · exact w_vx (v := .pointer (some ⟨w.heap.size, 0, none⟩)) rfl (fun A W h => by
    have e3 : A.eval (.tmp 3) = .pointer (some ⟨w.heap.size, 0, none⟩) := (h.slot 3).trans rfl
    simp only [execOp, e3]
    first | (simp [go_sem]; done) | rfl | kernel_rfl)
  · exact w_vx (v := .int .i64 ((6 : Int))) rfl (fun A W h => by
    have e17 : A.eval (.tmp 17) = .pointer (some ⟨w.heap.size, 0, none⟩) := h.vb 1 17
    have k0 := gk h.grew q0
    simp only [execOp, e17]
    simp [go_sem, k0])
  · exact w_ex (fun A W h => by
    obtain ⟨y16, e16, hB16, hlt16, hc16⟩ := h.vb 0 16
    have e18 : A.eval (.tmp 18) = .int .i64 ((6 : Int)) := h.vb 2 18
    exact ⟨.pointer (some ⟨y16, 6, none⟩), W, by (simp only [execOp, e16, e18]; simp [go_sem] <;> (intro hge; omega)), ⟨_, rfl, hc16 6 _ rfl⟩, Below.refl _ _⟩)
  · exact w_vx (v := .string ⟨(nameT (6 : Int) : List UInt8).toArray⟩) rfl (fun A W h => by
    obtain ⟨y19, e19, hc19⟩ := h.vb 3 19
    simp only [execOp, e19]
    simp [go_sem, hc19])
  · exact w_vx (v := .string ⟨(nameT (6 : Int) : List UInt8).toArray⟩) rfl (fun A W h => by
    have e20 : A.eval (.tmp 20) = .string ⟨(nameT (6 : Int) : List UInt8).toArray⟩ := h.vb 4 20
    simp only [execOp, e20]
    first | (simp [go_sem]; done) | rfl | kernel_rfl)
  intro vs w9 g9 hR
  obtain ⟨z0, x0, zB0, zl0, zc0⟩ := hR 0 16 (by kernel_rfl)
  have x1 : vs 1 = .pointer (some ⟨w.heap.size, 0, none⟩) := hR 1 17 (by kernel_rfl)
  have x2 : vs 2 = .int .i64 ((6 : Int)) := hR 2 18 (by kernel_rfl)
  obtain ⟨z3, x3, _⟩ := hR 3 19 (by kernel_rfl)
  have x4 : vs 4 = .string ⟨(nameT (6 : Int) : List UInt8).toArray⟩ := hR 4 20 (by kernel_rfl)
  have x5 : vs 5 = .string ⟨(nameT (6 : Int) : List UInt8).toArray⟩ := hR 5 7 (by kernel_rfl)
  simp only [putAll, Act.put, List.setIfInBounds_toArray, List.set_cons_zero, List.set_cons_succ, Nat.zero_add, Nat.reduceAdd, x0, x1, x2, x3, x4, x5]
  clear hR x0 x1 x2 x3 x4 x5
  obtain ⟨x3, rfl⟩ := ext_col g9
  clear g9 q0 q1 q2 q3 q4 q5 q6 q7
  go_wp2_with (first | ((with_reducible refine (CA.out _).mono ?_); rintro e w' ⟨rfl, g'⟩; (first | obtain ⟨xa, rfl⟩ := ext_cold g' | obtain ⟨xa, rfl⟩ := ext_col g' | obtain ⟨xa, rfl⟩ := ext_of g'); clear g') | ((with_reducible refine (CB.out _).mono ?_); rintro e w' ⟨rfl, g'⟩; (first | obtain ⟨xb, rfl⟩ := ext_cold g' | obtain ⟨xb, rfl⟩ := ext_col g' | obtain ⟨xb, rfl⟩ := ext_of g'); clear g') | ((with_reducible refine (CD.out _).mono ?_); rintro e w' ⟨rfl, g'⟩; (first | obtain ⟨xd, rfl⟩ := ext_cold g' | obtain ⟨xd, rfl⟩ := ext_col g' | obtain ⟨xd, rfl⟩ := ext_of g'); clear g'))
  go_ret
  exact ⟨rt (by simp [textI, wordsI, join_cons, joinTail, nameT, setT]), gr⟩

set_option maxRecDepth 100000 in
set_option maxHeartbeats 4000000 in
theorem specText7 (d a b rel lo hi tv procs size : Int) (w : World) (hok : insOkB ⟨(7 : Int), d, a, b, rel, lo, hi, tv⟩ procs size = true) (hto : tv ≤ 9223372036854775807) :
    Calls Tryz.prog 21 #[Ins.v ⟨(7 : Int), d, a, b, rel, lo, hi, tv⟩, .int .i64 procs, .int .i64 size] w fun e w' => e = .returned (.string ⟨(textI ⟨(7 : Int), d, a, b, rel, lo, hi, tv⟩).toArray⟩) ∧ Grew w w' := by
  have CO := fun w => specInsOk ⟨(7 : Int), d, a, b, rel, lo, hi, tv⟩ procs size w
  rw [hok] at CO
  have CO := Lib.hid CO
  obtain ⟨-, vd, va, vb, hr, hl, h0⟩ := okFacts hok
  have CD := Lib.hid fun w => specVar d w vd
  have CA := Lib.hid fun w => specVar a w va
  have CB := Lib.hid fun w => specVar b w vb
  have ld := varT_one d
  have la := varT_one a
  have lb := varT_one b
  have ln : (nameT (7 : Int)).length = 5 := rfl
  clear h0 hl hr
  clear vd va vb hok hto
  go_enter Tryz.func21, Tryz.ntmps21
  go_wp2_with ((with_reducible refine (CO.out _).mono ?_); rintro e w' ⟨rfl, g'⟩; (first | obtain ⟨x, rfl⟩ := ext_cold g' | obtain ⟨x, rfl⟩ := ext_col g' | obtain ⟨x, rfl⟩ := ext_of g'); clear g')
  have q0 : (ext (w.alloc (.cells #[.int .i64 ((7 : Int)), .int .i64 (d), .int .i64 (a), .int .i64 (b), .int .i64 (rel), .int .i64 (lo), .int .i64 (hi), .int .i64 (tv)] 38)) x).cell? ⟨w.heap.size, 0, none⟩ = some (.int .i64 ((7 : Int))) := by simp [go_sem]
  have q1 : (ext (w.alloc (.cells #[.int .i64 ((7 : Int)), .int .i64 (d), .int .i64 (a), .int .i64 (b), .int .i64 (rel), .int .i64 (lo), .int .i64 (hi), .int .i64 (tv)] 38)) x).cell? ⟨w.heap.size, 1, none⟩ = some (.int .i64 (d)) := by simp [go_sem]
  have q2 : (ext (w.alloc (.cells #[.int .i64 ((7 : Int)), .int .i64 (d), .int .i64 (a), .int .i64 (b), .int .i64 (rel), .int .i64 (lo), .int .i64 (hi), .int .i64 (tv)] 38)) x).cell? ⟨w.heap.size, 2, none⟩ = some (.int .i64 (a)) := by simp [go_sem]
  have q3 : (ext (w.alloc (.cells #[.int .i64 ((7 : Int)), .int .i64 (d), .int .i64 (a), .int .i64 (b), .int .i64 (rel), .int .i64 (lo), .int .i64 (hi), .int .i64 (tv)] 38)) x).cell? ⟨w.heap.size, 3, none⟩ = some (.int .i64 (b)) := by simp [go_sem]
  have q4 : (ext (w.alloc (.cells #[.int .i64 ((7 : Int)), .int .i64 (d), .int .i64 (a), .int .i64 (b), .int .i64 (rel), .int .i64 (lo), .int .i64 (hi), .int .i64 (tv)] 38)) x).cell? ⟨w.heap.size, 4, none⟩ = some (.int .i64 (rel)) := by simp [go_sem]
  have q5 : (ext (w.alloc (.cells #[.int .i64 ((7 : Int)), .int .i64 (d), .int .i64 (a), .int .i64 (b), .int .i64 (rel), .int .i64 (lo), .int .i64 (hi), .int .i64 (tv)] 38)) x).cell? ⟨w.heap.size, 5, none⟩ = some (.int .i64 (lo)) := by simp [go_sem]
  have q6 : (ext (w.alloc (.cells #[.int .i64 ((7 : Int)), .int .i64 (d), .int .i64 (a), .int .i64 (b), .int .i64 (rel), .int .i64 (lo), .int .i64 (hi), .int .i64 (tv)] 38)) x).cell? ⟨w.heap.size, 6, none⟩ = some (.int .i64 (hi)) := by simp [go_sem]
  have q7 : (ext (w.alloc (.cells #[.int .i64 ((7 : Int)), .int .i64 (d), .int .i64 (a), .int .i64 (b), .int .i64 (rel), .int .i64 (lo), .int .i64 (hi), .int .i64 (tv)] 38)) x).cell? ⟨w.heap.size, 7, none⟩ = some (.int .i64 (tv)) := by simp [go_sem]
  refine region_w 141 [pgS (0) (13) (13) (namesL), pgV (.pointer (some ⟨w.heap.size, 0, none⟩)), pgV (.int .i64 ((7 : Int))), pgP (nameT (7 : Int)), pgV (.string ⟨(nameT (7 : Int) : List UInt8).toArray⟩), pgV (.string ⟨(nameT (7 : Int) : List UInt8).toArray⟩)] (by kernel_rfl) rfl (by kernel_rfl) ⟨?_, ?_, ?_, ?_, ?_, ?_, trivial⟩ ?_
  · exact w_callX (fun A W h => by
    refine Eq.trans (b := .ok (.enter 44 #[]) W) (by kernel_rfl) ?_
    rfl) (fun W hW => specNames W)
  · exact w_vx (v := .pointer (some ⟨w.heap.size, 0, none⟩)) rfl (fun A W h => by
    have e3 : A.eval (.tmp 3) = .pointer (some ⟨w.heap.size, 0, none⟩) := (h.slot 3).trans rfl
    simp only [execOp, e3]
    first | (simp [go_sem]; done) | rfl | kernel_rfl)
  · exact w_vx (v := .int .i64 ((7 : Int))) rfl (fun A W h => by
    have e17 : A.eval (.tmp 17) = .pointer (some ⟨w.heap.size, 0, none⟩) := h.vb 1 17
    have k0 := gk h.grew q0
    simp only [execOp, e17]
    simp [go_sem, k0])
  · exact w_ex (fun A W h => by
    obtain ⟨y16, e16, hB16, hlt16, hc16⟩ := h.vb 0 16
    have e18 : A.eval (.tmp 18) = .int .i64 ((7 : Int)) := h.vb 2 18
    exact ⟨.pointer (some ⟨y16, 7, none⟩), W, by (simp only [execOp, e16, e18]; simp [go_sem] <;> (intro hge; omega)), ⟨_, rfl, hc16 7 _ rfl⟩, Below.refl _ _⟩)
  · exact w_vx (v := .string ⟨(nameT (7 : Int) : List UInt8).toArray⟩) rfl (fun A W h => by
    obtain ⟨y19, e19, hc19⟩ := h.vb 3 19
    simp only [execOp, e19]
    simp [go_sem, hc19])
  · exact w_vx (v := .string ⟨(nameT (7 : Int) : List UInt8).toArray⟩) rfl (fun A W h => by
    have e20 : A.eval (.tmp 20) = .string ⟨(nameT (7 : Int) : List UInt8).toArray⟩ := h.vb 4 20
    simp only [execOp, e20]
    first | (simp [go_sem]; done) | rfl | kernel_rfl)
  intro vs w9 g9 hR
  obtain ⟨z0, x0, zB0, zl0, zc0⟩ := hR 0 16 (by kernel_rfl)
  have x1 : vs 1 = .pointer (some ⟨w.heap.size, 0, none⟩) := hR 1 17 (by kernel_rfl)
  have x2 : vs 2 = .int .i64 ((7 : Int)) := hR 2 18 (by kernel_rfl)
  obtain ⟨z3, x3, _⟩ := hR 3 19 (by kernel_rfl)
  have x4 : vs 4 = .string ⟨(nameT (7 : Int) : List UInt8).toArray⟩ := hR 4 20 (by kernel_rfl)
  have x5 : vs 5 = .string ⟨(nameT (7 : Int) : List UInt8).toArray⟩ := hR 5 7 (by kernel_rfl)
  simp only [putAll, Act.put, List.setIfInBounds_toArray, List.set_cons_zero, List.set_cons_succ, Nat.zero_add, Nat.reduceAdd, x0, x1, x2, x3, x4, x5]
  clear hR x0 x1 x2 x3 x4 x5
  obtain ⟨x3, rfl⟩ := ext_col g9
  clear g9 q0 q1 q2 q3 q4 q5 q6 q7
  go_wp2_with (first | ((with_reducible refine (CA.out _).mono ?_); rintro e w' ⟨rfl, g'⟩; (first | obtain ⟨xa, rfl⟩ := ext_cold g' | obtain ⟨xa, rfl⟩ := ext_col g' | obtain ⟨xa, rfl⟩ := ext_of g'); clear g') | ((with_reducible refine (CB.out _).mono ?_); rintro e w' ⟨rfl, g'⟩; (first | obtain ⟨xb, rfl⟩ := ext_cold g' | obtain ⟨xb, rfl⟩ := ext_col g' | obtain ⟨xb, rfl⟩ := ext_of g'); clear g') | ((with_reducible refine (CD.out _).mono ?_); rintro e w' ⟨rfl, g'⟩; (first | obtain ⟨xd, rfl⟩ := ext_cold g' | obtain ⟨xd, rfl⟩ := ext_col g' | obtain ⟨xd, rfl⟩ := ext_of g'); clear g'))
  go_ret
  exact ⟨rt (by simp [textI, wordsI, join_cons, joinTail, nameT, setT]), gr⟩

set_option maxRecDepth 100000 in
set_option maxHeartbeats 4000000 in
theorem specText8 (d a b rel lo hi tv procs size : Int) (w : World) (hok : insOkB ⟨(8 : Int), d, a, b, rel, lo, hi, tv⟩ procs size = true) (hto : tv ≤ 9223372036854775807) :
    Calls Tryz.prog 21 #[Ins.v ⟨(8 : Int), d, a, b, rel, lo, hi, tv⟩, .int .i64 procs, .int .i64 size] w fun e w' => e = .returned (.string ⟨(textI ⟨(8 : Int), d, a, b, rel, lo, hi, tv⟩).toArray⟩) ∧ Grew w w' := by
  have CO := fun w => specInsOk ⟨(8 : Int), d, a, b, rel, lo, hi, tv⟩ procs size w
  rw [hok] at CO
  have CO := Lib.hid CO
  obtain ⟨-, vd, va, vb, hr, hl, h0⟩ := okFacts hok
  have CD := Lib.hid fun w => specVar d w vd
  have CA := Lib.hid fun w => specVar a w va
  have CB := Lib.hid fun w => specVar b w vb
  have ld := varT_one d
  have la := varT_one a
  have lb := varT_one b
  have ln : (nameT (8 : Int)).length = 2 := rfl
  have h0 : 0 ≤ tv := h0 (by simp)
  have CT := Lib.hid fun w => specDigits tv w (by omega) (by omega)
  have lt := itoa_len (n := tv) (by omega) (by omega)
  clear hl
  have hr : rel = 1 ∨ rel = 2 ∨ rel = 3 ∨ rel = 4 := hr (by simp)
  have HRE := Lib.hid (relsL_at hr)
  have lr := relT_le rel
  obtain ⟨rn, hrn, hrl⟩ : ∃ rn : Nat, rel = rn ∧ rn < 5 := ⟨rel.toNat, by omega, by omega⟩
  subst hrn
  clear hr
  clear vd va vb hok hto
  go_enter Tryz.func21, Tryz.ntmps21
  go_wp2_with ((with_reducible refine (CO.out _).mono ?_); rintro e w' ⟨rfl, g'⟩; (first | obtain ⟨x, rfl⟩ := ext_cold g' | obtain ⟨x, rfl⟩ := ext_col g' | obtain ⟨x, rfl⟩ := ext_of g'); clear g')
  have q0 : (ext (w.alloc (.cells #[.int .i64 ((8 : Int)), .int .i64 (d), .int .i64 (a), .int .i64 (b), .int .i64 (rn : Int), .int .i64 (lo), .int .i64 (hi), .int .i64 (tv)] 38)) x).cell? ⟨w.heap.size, 0, none⟩ = some (.int .i64 ((8 : Int))) := by simp [go_sem]
  have q1 : (ext (w.alloc (.cells #[.int .i64 ((8 : Int)), .int .i64 (d), .int .i64 (a), .int .i64 (b), .int .i64 (rn : Int), .int .i64 (lo), .int .i64 (hi), .int .i64 (tv)] 38)) x).cell? ⟨w.heap.size, 1, none⟩ = some (.int .i64 (d)) := by simp [go_sem]
  have q2 : (ext (w.alloc (.cells #[.int .i64 ((8 : Int)), .int .i64 (d), .int .i64 (a), .int .i64 (b), .int .i64 (rn : Int), .int .i64 (lo), .int .i64 (hi), .int .i64 (tv)] 38)) x).cell? ⟨w.heap.size, 2, none⟩ = some (.int .i64 (a)) := by simp [go_sem]
  have q3 : (ext (w.alloc (.cells #[.int .i64 ((8 : Int)), .int .i64 (d), .int .i64 (a), .int .i64 (b), .int .i64 (rn : Int), .int .i64 (lo), .int .i64 (hi), .int .i64 (tv)] 38)) x).cell? ⟨w.heap.size, 3, none⟩ = some (.int .i64 (b)) := by simp [go_sem]
  have q4 : (ext (w.alloc (.cells #[.int .i64 ((8 : Int)), .int .i64 (d), .int .i64 (a), .int .i64 (b), .int .i64 (rn : Int), .int .i64 (lo), .int .i64 (hi), .int .i64 (tv)] 38)) x).cell? ⟨w.heap.size, 4, none⟩ = some (.int .i64 (rn : Int)) := by simp [go_sem]
  have q5 : (ext (w.alloc (.cells #[.int .i64 ((8 : Int)), .int .i64 (d), .int .i64 (a), .int .i64 (b), .int .i64 (rn : Int), .int .i64 (lo), .int .i64 (hi), .int .i64 (tv)] 38)) x).cell? ⟨w.heap.size, 5, none⟩ = some (.int .i64 (lo)) := by simp [go_sem]
  have q6 : (ext (w.alloc (.cells #[.int .i64 ((8 : Int)), .int .i64 (d), .int .i64 (a), .int .i64 (b), .int .i64 (rn : Int), .int .i64 (lo), .int .i64 (hi), .int .i64 (tv)] 38)) x).cell? ⟨w.heap.size, 6, none⟩ = some (.int .i64 (hi)) := by simp [go_sem]
  have q7 : (ext (w.alloc (.cells #[.int .i64 ((8 : Int)), .int .i64 (d), .int .i64 (a), .int .i64 (b), .int .i64 (rn : Int), .int .i64 (lo), .int .i64 (hi), .int .i64 (tv)] 38)) x).cell? ⟨w.heap.size, 7, none⟩ = some (.int .i64 (tv)) := by simp [go_sem]
  refine region_w 141 [pgS (0) (13) (13) (namesL), pgV (.pointer (some ⟨w.heap.size, 0, none⟩)), pgV (.int .i64 ((8 : Int))), pgP (nameT (8 : Int)), pgV (.string ⟨(nameT (8 : Int) : List UInt8).toArray⟩), pgV (.string ⟨(nameT (8 : Int) : List UInt8).toArray⟩)] (by kernel_rfl) rfl (by kernel_rfl) ⟨?_, ?_, ?_, ?_, ?_, ?_, trivial⟩ ?_
  · exact w_callX (fun A W h => by
    refine Eq.trans (b := .ok (.enter 44 #[]) W) (by kernel_rfl) ?_
    rfl) (fun W hW => specNames W)
  · exact w_vx (v := .pointer (some ⟨w.heap.size, 0, none⟩)) rfl (fun A W h => by
    have e3 : A.eval (.tmp 3) = .pointer (some ⟨w.heap.size, 0, none⟩) := (h.slot 3).trans rfl
    simp only [execOp, e3]
    first | (simp [go_sem]; done) | rfl | kernel_rfl)
  · exact w_vx (v := .int .i64 ((8 : Int))) rfl (fun A W h => by
    have e17 : A.eval (.tmp 17) = .pointer (some ⟨w.heap.size, 0, none⟩) := h.vb 1 17
    have k0 := gk h.grew q0
    simp only [execOp, e17]
    simp [go_sem, k0])
  · exact w_ex (fun A W h => by
    obtain ⟨y16, e16, hB16, hlt16, hc16⟩ := h.vb 0 16
    have e18 : A.eval (.tmp 18) = .int .i64 ((8 : Int)) := h.vb 2 18
    exact ⟨.pointer (some ⟨y16, 8, none⟩), W, by (simp only [execOp, e16, e18]; simp [go_sem] <;> (intro hge; omega)), ⟨_, rfl, hc16 8 _ rfl⟩, Below.refl _ _⟩)
  · exact w_vx (v := .string ⟨(nameT (8 : Int) : List UInt8).toArray⟩) rfl (fun A W h => by
    obtain ⟨y19, e19, hc19⟩ := h.vb 3 19
    simp only [execOp, e19]
    simp [go_sem, hc19])
  · exact w_vx (v := .string ⟨(nameT (8 : Int) : List UInt8).toArray⟩) rfl (fun A W h => by
    have e20 : A.eval (.tmp 20) = .string ⟨(nameT (8 : Int) : List UInt8).toArray⟩ := h.vb 4 20
    simp only [execOp, e20]
    first | (simp [go_sem]; done) | rfl | kernel_rfl)
  intro vs w9 g9 hR
  obtain ⟨z0, x0, zB0, zl0, zc0⟩ := hR 0 16 (by kernel_rfl)
  have x1 : vs 1 = .pointer (some ⟨w.heap.size, 0, none⟩) := hR 1 17 (by kernel_rfl)
  have x2 : vs 2 = .int .i64 ((8 : Int)) := hR 2 18 (by kernel_rfl)
  obtain ⟨z3, x3, _⟩ := hR 3 19 (by kernel_rfl)
  have x4 : vs 4 = .string ⟨(nameT (8 : Int) : List UInt8).toArray⟩ := hR 4 20 (by kernel_rfl)
  have x5 : vs 5 = .string ⟨(nameT (8 : Int) : List UInt8).toArray⟩ := hR 5 7 (by kernel_rfl)
  simp only [putAll, Act.put, List.setIfInBounds_toArray, List.set_cons_zero, List.set_cons_succ, Nat.zero_add, Nat.reduceAdd, x0, x1, x2, x3, x4, x5]
  clear hR x0 x1 x2 x3 x4 x5
  obtain ⟨x3, rfl⟩ := ext_col g9
  clear g9 q0 q1 q2 q3 q4 q5 q6 q7
  go_wp2_with (first | ((with_reducible refine (CA.out _).mono ?_); rintro e w' ⟨rfl, g'⟩; (first | obtain ⟨xa, rfl⟩ := ext_cold g' | obtain ⟨xa, rfl⟩ := ext_col g' | obtain ⟨xa, rfl⟩ := ext_of g'); clear g') | ((with_reducible refine (CB.out _).mono ?_); rintro e w' ⟨rfl, g'⟩; (first | obtain ⟨xb, rfl⟩ := ext_cold g' | obtain ⟨xb, rfl⟩ := ext_col g' | obtain ⟨xb, rfl⟩ := ext_of g'); clear g') | ((with_reducible refine (CD.out _).mono ?_); rintro e w' ⟨rfl, g'⟩; (first | obtain ⟨xd, rfl⟩ := ext_cold g' | obtain ⟨xd, rfl⟩ := ext_col g' | obtain ⟨xd, rfl⟩ := ext_of g'); clear g'))
  have q0 : (ext (w.alloc (.cells #[.int .i64 ((8 : Int)), .int .i64 (d), .int .i64 (a), .int .i64 (b), .int .i64 (rn : Int), .int .i64 (lo), .int .i64 (hi), .int .i64 (tv)] 38)) xd).cell? ⟨w.heap.size, 0, none⟩ = some (.int .i64 ((8 : Int))) := by simp [go_sem]
  have q1 : (ext (w.alloc (.cells #[.int .i64 ((8 : Int)), .int .i64 (d), .int .i64 (a), .int .i64 (b), .int .i64 (rn : Int), .int .i64 (lo), .int .i64 (hi), .int .i64 (tv)] 38)) xd).cell? ⟨w.heap.size, 1, none⟩ = some (.int .i64 (d)) := by simp [go_sem]
  have q2 : (ext (w.alloc (.cells #[.int .i64 ((8 : Int)), .int .i64 (d), .int .i64 (a), .int .i64 (b), .int .i64 (rn : Int), .int .i64 (lo), .int .i64 (hi), .int .i64 (tv)] 38)) xd).cell? ⟨w.heap.size, 2, none⟩ = some (.int .i64 (a)) := by simp [go_sem]
  have q3 : (ext (w.alloc (.cells #[.int .i64 ((8 : Int)), .int .i64 (d), .int .i64 (a), .int .i64 (b), .int .i64 (rn : Int), .int .i64 (lo), .int .i64 (hi), .int .i64 (tv)] 38)) xd).cell? ⟨w.heap.size, 3, none⟩ = some (.int .i64 (b)) := by simp [go_sem]
  have q4 : (ext (w.alloc (.cells #[.int .i64 ((8 : Int)), .int .i64 (d), .int .i64 (a), .int .i64 (b), .int .i64 (rn : Int), .int .i64 (lo), .int .i64 (hi), .int .i64 (tv)] 38)) xd).cell? ⟨w.heap.size, 4, none⟩ = some (.int .i64 (rn : Int)) := by simp [go_sem]
  have q5 : (ext (w.alloc (.cells #[.int .i64 ((8 : Int)), .int .i64 (d), .int .i64 (a), .int .i64 (b), .int .i64 (rn : Int), .int .i64 (lo), .int .i64 (hi), .int .i64 (tv)] 38)) xd).cell? ⟨w.heap.size, 5, none⟩ = some (.int .i64 (lo)) := by simp [go_sem]
  have q6 : (ext (w.alloc (.cells #[.int .i64 ((8 : Int)), .int .i64 (d), .int .i64 (a), .int .i64 (b), .int .i64 (rn : Int), .int .i64 (lo), .int .i64 (hi), .int .i64 (tv)] 38)) xd).cell? ⟨w.heap.size, 6, none⟩ = some (.int .i64 (hi)) := by simp [go_sem]
  have q7 : (ext (w.alloc (.cells #[.int .i64 ((8 : Int)), .int .i64 (d), .int .i64 (a), .int .i64 (b), .int .i64 (rn : Int), .int .i64 (lo), .int .i64 (hi), .int .i64 (tv)] 38)) xd).cell? ⟨w.heap.size, 7, none⟩ = some (.int .i64 (tv)) := by simp [go_sem]
  refine region_w 141 [pgV (.string ⟨(nameT (8 : Int) : List UInt8).toArray⟩), pgV (.string ⟨(32 :: varT a : List UInt8).toArray⟩), pgV (.string ⟨((nameT (8 : Int)) ++ (32 :: varT a) : List UInt8).toArray⟩), pgV (.string ⟨(((nameT (8 : Int)) ++ (32 :: varT a)) ++ ([32]) : List UInt8).toArray⟩), pgS (0) (5) (5) (relsL), pgV (.pointer (some ⟨w.heap.size, 4, none⟩)), pgV (.int .i64 (rn : Int)), pgP (relT rn), pgV (.string ⟨(relT rn : List UInt8).toArray⟩), pgV (.string ⟨((((nameT (8 : Int)) ++ (32 :: varT a)) ++ ([32])) ++ (relT rn) : List UInt8).toArray⟩), pgV (.string ⟨(32 :: varT b : List UInt8).toArray⟩), pgV (.string ⟨(((((nameT (8 : Int)) ++ (32 :: varT a)) ++ ([32])) ++ (relT rn)) ++ (32 :: varT b) : List UInt8).toArray⟩), pgV (.string ⟨((((((nameT (8 : Int)) ++ (32 :: varT a)) ++ ([32])) ++ (relT rn)) ++ (32 :: varT b)) ++ ([32]) : List UInt8).toArray⟩), pgV (.pointer (some ⟨w.heap.size, 7, none⟩)), pgV (.int .i64 (tv)), pgV (.string ⟨(itoa tv : List UInt8).toArray⟩), pgV (.string ⟨(((((((nameT (8 : Int)) ++ (32 :: varT a)) ++ ([32])) ++ (relT rn)) ++ (32 :: varT b)) ++ ([32])) ++ (itoa tv) : List UInt8).toArray⟩), pgV (.string ⟨(((((((nameT (8 : Int)) ++ (32 :: varT a)) ++ ([32])) ++ (relT rn)) ++ (32 :: varT b)) ++ ([32])) ++ (itoa tv) : List UInt8).toArray⟩)] (by kernel_rfl) rfl (by kernel_rfl) ⟨?_, ?_, ?_, ?_, ?_, ?_, ?_, ?_, ?_, ?_, ?_, ?_, ?_, ?_, ?_, ?_, ?_, ?_, trivial⟩ ?_
  · exact w_vx (v := .string ⟨(nameT (8 : Int) : List UInt8).toArray⟩) rfl (fun A W h => by
    have e7 : A.eval (.tmp 7) = .string ⟨(nameT (8 : Int) : List UInt8).toArray⟩ := (h.slot 7).trans rfl
    simp only [execOp, e7]
    first | (simp [go_sem]; done) | rfl | kernel_rfl)
  · exact w_vx (v := .string ⟨(32 :: varT a : List UInt8).toArray⟩) rfl (fun A W h => by
    have e8 : A.eval (.tmp 8) = .string ⟨(32 :: varT a : List UInt8).toArray⟩ := (h.slot 8).trans rfl
    simp only [execOp, e8]
    first | (simp [go_sem]; done) | rfl | kernel_rfl)
  · exact w_vx (v := .string ⟨((nameT (8 : Int)) ++ (32 :: varT a) : List UInt8).toArray⟩) rfl (fun A W h => by
    have e78 : A.eval (.tmp 78) = .string ⟨(nameT (8 : Int) : List UInt8).toArray⟩ := h.vb 0 78
    have e79 : A.eval (.tmp 79) = .string ⟨(32 :: varT a : List UInt8).toArray⟩ := h.vb 1 79
    have hh := str_add (P := Tryz.prog) 9 (nameT (8 : Int)) (32 :: varT a) (by (try simp only [List.length_append, List.length_cons, List.length_nil, ld, la, lb, ln]); omega) W
    simp only [execOp, e78, e79]
    simp only [Sem.run_bind, evalK, eqGuard_add, hh, Result.andThen_ok, Sem.run_pure])
  · exact w_vx (v := .string ⟨(((nameT (8 : Int)) ++ (32 :: varT a)) ++ ([32]) : List UInt8).toArray⟩) rfl (fun A W h => by
    have e80 : A.eval (.tmp 80) = .string ⟨((nameT (8 : Int)) ++ (32 :: varT a) : List UInt8).toArray⟩ := h.vb 2 80
    have hh := str_add (P := Tryz.prog) 9 ((nameT (8 : Int)) ++ (32 :: varT a)) ([32]) (by (try simp only [List.length_append, List.length_cons, List.length_nil, ld, la, lb, ln]); omega) W
    simp only [execOp, e80]
    simp only [Sem.run_bind, evalK, eqGuard_add, hh, Result.andThen_ok, Sem.run_pure])
  · exact w_callX (fun A W h => by
    refine Eq.trans (b := .ok (.enter 46 #[]) W) (by kernel_rfl) ?_
    rfl) (fun W hW => specRels W)
  · exact w_vx (v := .pointer (some ⟨w.heap.size, 4, none⟩)) rfl (fun A W h => by
    have e3 : A.eval (.tmp 3) = .pointer (some ⟨w.heap.size, 0, none⟩) := (h.slot 3).trans rfl
    simp only [execOp, e3]
    first | (simp [go_sem]; done) | rfl | kernel_rfl)
  · exact w_vx (v := .int .i64 (rn : Int)) rfl (fun A W h => by
    have e83 : A.eval (.tmp 83) = .pointer (some ⟨w.heap.size, 4, none⟩) := h.vb 5 83
    have k0 := gk h.grew q4
    simp only [execOp, e83]
    simp [go_sem, k0])
  · exact w_ex (fun A W h => by
    obtain ⟨y82, e82, hB82, hlt82, hc82⟩ := h.vb 4 82
    have e84 : A.eval (.tmp 84) = .int .i64 (rn : Int) := h.vb 6 84
    exact ⟨.pointer (some ⟨y82, rn, none⟩), W, by (simp only [execOp, e82, e84]; simp [go_sem] <;> (intro hge; omega)), ⟨_, rfl, hc82 rn _ HRE.out⟩, Below.refl _ _⟩)
  · exact w_vx (v := .string ⟨(relT rn : List UInt8).toArray⟩) rfl (fun A W h => by
    obtain ⟨y85, e85, hc85⟩ := h.vb 7 85
    simp only [execOp, e85]
    simp [go_sem, hc85])
  · exact w_vx (v := .string ⟨((((nameT (8 : Int)) ++ (32 :: varT a)) ++ ([32])) ++ (relT rn) : List UInt8).toArray⟩) rfl (fun A W h => by
    have e81 : A.eval (.tmp 81) = .string ⟨(((nameT (8 : Int)) ++ (32 :: varT a)) ++ ([32]) : List UInt8).toArray⟩ := h.vb 3 81
    have e86 : A.eval (.tmp 86) = .string ⟨(relT rn : List UInt8).toArray⟩ := h.vb 8 86
    have hh := str_add (P := Tryz.prog) 9 (((nameT (8 : Int)) ++ (32 :: varT a)) ++ ([32])) (relT rn) (by (try simp only [List.length_append, List.length_cons, List.length_nil, ld, la, lb, ln]); omega) W
    simp only [execOp, e81, e86]
    simp only [Sem.run_bind, evalK, eqGuard_add, hh, Result.andThen_ok, Sem.run_pure])
  · exact w_vx (v := .string ⟨(32 :: varT b : List UInt8).toArray⟩) rfl (fun A W h => by
    have e9 : A.eval (.tmp 9) = .string ⟨(32 :: varT b : List UInt8).toArray⟩ := (h.slot 9).trans rfl
    simp only [execOp, e9]
    first | (simp [go_sem]; done) | rfl | kernel_rfl)
  · exact w_vx (v := .string ⟨(((((nameT (8 : Int)) ++ (32 :: varT a)) ++ ([32])) ++ (relT rn)) ++ (32 :: varT b) : List UInt8).toArray⟩) rfl (fun A W h => by
    have e87 : A.eval (.tmp 87) = .string ⟨((((nameT (8 : Int)) ++ (32 :: varT a)) ++ ([32])) ++ (relT rn) : List UInt8).toArray⟩ := h.vb 9 87
    have e88 : A.eval (.tmp 88) = .string ⟨(32 :: varT b : List UInt8).toArray⟩ := h.vb 10 88
    have hh := str_add (P := Tryz.prog) 9 ((((nameT (8 : Int)) ++ (32 :: varT a)) ++ ([32])) ++ (relT rn)) (32 :: varT b) (by (try simp only [List.length_append, List.length_cons, List.length_nil, ld, la, lb, ln]); omega) W
    simp only [execOp, e87, e88]
    simp only [Sem.run_bind, evalK, eqGuard_add, hh, Result.andThen_ok, Sem.run_pure])
  · exact w_vx (v := .string ⟨((((((nameT (8 : Int)) ++ (32 :: varT a)) ++ ([32])) ++ (relT rn)) ++ (32 :: varT b)) ++ ([32]) : List UInt8).toArray⟩) rfl (fun A W h => by
    have e89 : A.eval (.tmp 89) = .string ⟨(((((nameT (8 : Int)) ++ (32 :: varT a)) ++ ([32])) ++ (relT rn)) ++ (32 :: varT b) : List UInt8).toArray⟩ := h.vb 11 89
    have hh := str_add (P := Tryz.prog) 9 (((((nameT (8 : Int)) ++ (32 :: varT a)) ++ ([32])) ++ (relT rn)) ++ (32 :: varT b)) ([32]) (by (try simp only [List.length_append, List.length_cons, List.length_nil, ld, la, lb, ln]); omega) W
    simp only [execOp, e89]
    simp only [Sem.run_bind, evalK, eqGuard_add, hh, Result.andThen_ok, Sem.run_pure])
  · exact w_vx (v := .pointer (some ⟨w.heap.size, 7, none⟩)) rfl (fun A W h => by
    have e3 : A.eval (.tmp 3) = .pointer (some ⟨w.heap.size, 0, none⟩) := (h.slot 3).trans rfl
    simp only [execOp, e3]
    first | (simp [go_sem]; done) | rfl | kernel_rfl)
  · exact w_vx (v := .int .i64 (tv)) rfl (fun A W h => by
    have e91 : A.eval (.tmp 91) = .pointer (some ⟨w.heap.size, 7, none⟩) := h.vb 13 91
    have k0 := gk h.grew q7
    simp only [execOp, e91]
    simp [go_sem, k0])
  · exact w_call (v := .string ⟨(itoa tv : List UInt8).toArray⟩) rfl (fun A W h => by
    have e92 : A.eval (.tmp 92) = .int .i64 (tv) := h.vb 14 92
    refine Eq.trans (b := .ok (.enter 29 #[A.eval (.tmp 92)]) W) (by kernel_rfl) ?_
    rw [e92]) (fun W hW => CT.out W)
  · exact w_vx (v := .string ⟨(((((((nameT (8 : Int)) ++ (32 :: varT a)) ++ ([32])) ++ (relT rn)) ++ (32 :: varT b)) ++ ([32])) ++ (itoa tv) : List UInt8).toArray⟩) rfl (fun A W h => by
    have e90 : A.eval (.tmp 90) = .string ⟨((((((nameT (8 : Int)) ++ (32 :: varT a)) ++ ([32])) ++ (relT rn)) ++ (32 :: varT b)) ++ ([32]) : List UInt8).toArray⟩ := h.vb 12 90
    have e93 : A.eval (.tmp 93) = .string ⟨(itoa tv : List UInt8).toArray⟩ := h.vb 15 93
    have hh := str_add (P := Tryz.prog) 9 ((((((nameT (8 : Int)) ++ (32 :: varT a)) ++ ([32])) ++ (relT rn)) ++ (32 :: varT b)) ++ ([32])) (itoa tv) (by (try simp only [List.length_append, List.length_cons, List.length_nil, ld, la, lb, ln]); omega) W
    simp only [execOp, e90, e93]
    simp only [Sem.run_bind, evalK, eqGuard_add, hh, Result.andThen_ok, Sem.run_pure])
  · exact w_vx (v := .string ⟨(((((((nameT (8 : Int)) ++ (32 :: varT a)) ++ ([32])) ++ (relT rn)) ++ (32 :: varT b)) ++ ([32])) ++ (itoa tv) : List UInt8).toArray⟩) rfl (fun A W h => by
    have e94 : A.eval (.tmp 94) = .string ⟨(((((((nameT (8 : Int)) ++ (32 :: varT a)) ++ ([32])) ++ (relT rn)) ++ (32 :: varT b)) ++ ([32])) ++ (itoa tv) : List UInt8).toArray⟩ := h.vb 16 94
    simp only [execOp, e94]
    first | (simp [go_sem]; done) | rfl | kernel_rfl)
  intro vs w9 g9 hR
  have x0 : vs 0 = .string ⟨(nameT (8 : Int) : List UInt8).toArray⟩ := hR 0 78 (by kernel_rfl)
  have x1 : vs 1 = .string ⟨(32 :: varT a : List UInt8).toArray⟩ := hR 1 79 (by kernel_rfl)
  have x2 : vs 2 = .string ⟨((nameT (8 : Int)) ++ (32 :: varT a) : List UInt8).toArray⟩ := hR 2 80 (by kernel_rfl)
  have x3 : vs 3 = .string ⟨(((nameT (8 : Int)) ++ (32 :: varT a)) ++ ([32]) : List UInt8).toArray⟩ := hR 3 81 (by kernel_rfl)
  obtain ⟨z4, x4, zB4, zl4, zc4⟩ := hR 4 82 (by kernel_rfl)
  have x5 : vs 5 = .pointer (some ⟨w.heap.size, 4, none⟩) := hR 5 83 (by kernel_rfl)
  have x6 : vs 6 = .int .i64 (rn : Int) := hR 6 84 (by kernel_rfl)
  obtain ⟨z7, x7, _⟩ := hR 7 85 (by kernel_rfl)
  have x8 : vs 8 = .string ⟨(relT rn : List UInt8).toArray⟩ := hR 8 86 (by kernel_rfl)
  have x9 : vs 9 = .string ⟨((((nameT (8 : Int)) ++ (32 :: varT a)) ++ ([32])) ++ (relT rn) : List UInt8).toArray⟩ := hR 9 87 (by kernel_rfl)
  have x10 : vs 10 = .string ⟨(32 :: varT b : List UInt8).toArray⟩ := hR 10 88 (by kernel_rfl)
  have x11 : vs 11 = .string ⟨(((((nameT (8 : Int)) ++ (32 :: varT a)) ++ ([32])) ++ (relT rn)) ++ (32 :: varT b) : List UInt8).toArray⟩ := hR 11 89 (by kernel_rfl)
  have x12 : vs 12 = .string ⟨((((((nameT (8 : Int)) ++ (32 :: varT a)) ++ ([32])) ++ (relT rn)) ++ (32 :: varT b)) ++ ([32]) : List UInt8).toArray⟩ := hR 12 90 (by kernel_rfl)
  have x13 : vs 13 = .pointer (some ⟨w.heap.size, 7, none⟩) := hR 13 91 (by kernel_rfl)
  have x14 : vs 14 = .int .i64 (tv) := hR 14 92 (by kernel_rfl)
  have x15 : vs 15 = .string ⟨(itoa tv : List UInt8).toArray⟩ := hR 15 93 (by kernel_rfl)
  have x16 : vs 16 = .string ⟨(((((((nameT (8 : Int)) ++ (32 :: varT a)) ++ ([32])) ++ (relT rn)) ++ (32 :: varT b)) ++ ([32])) ++ (itoa tv) : List UInt8).toArray⟩ := hR 16 94 (by kernel_rfl)
  have x17 : vs 17 = .string ⟨(((((((nameT (8 : Int)) ++ (32 :: varT a)) ++ ([32])) ++ (relT rn)) ++ (32 :: varT b)) ++ ([32])) ++ (itoa tv) : List UInt8).toArray⟩ := hR 17 6 (by kernel_rfl)
  simp only [putAll, Act.put, List.setIfInBounds_toArray, List.set_cons_zero, List.set_cons_succ, Nat.zero_add, Nat.reduceAdd, x0, x1, x2, x3, x4, x5, x6, x7, x8, x9, x10, x11, x12, x13, x14, x15, x16, x17]
  clear hR x0 x1 x2 x3 x4 x5 x6 x7 x8 x9 x10 x11 x12 x13 x14 x15 x16 x17
  obtain ⟨x9, rfl⟩ := ext_col g9
  clear g9 q0 q1 q2 q3 q4 q5 q6 q7
  go_wp2
  go_ret
  exact ⟨rt (by simp [textI, wordsI, join_cons, joinTail, nameT, setT]), gr⟩

set_option maxRecDepth 100000 in
set_option maxHeartbeats 4000000 in
theorem specText9 (d a b rel lo hi tv procs size : Int) (w : World) (hok : insOkB ⟨(9 : Int), d, a, b, rel, lo, hi, tv⟩ procs size = true) (hto : tv ≤ 9223372036854775807) :
    Calls Tryz.prog 21 #[Ins.v ⟨(9 : Int), d, a, b, rel, lo, hi, tv⟩, .int .i64 procs, .int .i64 size] w fun e w' => e = .returned (.string ⟨(textI ⟨(9 : Int), d, a, b, rel, lo, hi, tv⟩).toArray⟩) ∧ Grew w w' := by
  have CO := fun w => specInsOk ⟨(9 : Int), d, a, b, rel, lo, hi, tv⟩ procs size w
  rw [hok] at CO
  have CO := Lib.hid CO
  obtain ⟨-, vd, va, vb, hr, hl, h0⟩ := okFacts hok
  have CD := Lib.hid fun w => specVar d w vd
  have CA := Lib.hid fun w => specVar a w va
  have CB := Lib.hid fun w => specVar b w vb
  have ld := varT_one d
  have la := varT_one a
  have lb := varT_one b
  have ln : (nameT (9 : Int)).length = 4 := rfl
  have h0 : 0 ≤ tv := h0 (by simp)
  have CT := Lib.hid fun w => specDigits tv w (by omega) (by omega)
  have lt := itoa_len (n := tv) (by omega) (by omega)
  clear hl hr
  clear vd va vb hok hto
  go_enter Tryz.func21, Tryz.ntmps21
  go_wp2_with ((with_reducible refine (CO.out _).mono ?_); rintro e w' ⟨rfl, g'⟩; (first | obtain ⟨x, rfl⟩ := ext_cold g' | obtain ⟨x, rfl⟩ := ext_col g' | obtain ⟨x, rfl⟩ := ext_of g'); clear g')
  have q0 : (ext (w.alloc (.cells #[.int .i64 ((9 : Int)), .int .i64 (d), .int .i64 (a), .int .i64 (b), .int .i64 (rel), .int .i64 (lo), .int .i64 (hi), .int .i64 (tv)] 38)) x).cell? ⟨w.heap.size, 0, none⟩ = some (.int .i64 ((9 : Int))) := by simp [go_sem]
  have q1 : (ext (w.alloc (.cells #[.int .i64 ((9 : Int)), .int .i64 (d), .int .i64 (a), .int .i64 (b), .int .i64 (rel), .int .i64 (lo), .int .i64 (hi), .int .i64 (tv)] 38)) x).cell? ⟨w.heap.size, 1, none⟩ = some (.int .i64 (d)) := by simp [go_sem]
  have q2 : (ext (w.alloc (.cells #[.int .i64 ((9 : Int)), .int .i64 (d), .int .i64 (a), .int .i64 (b), .int .i64 (rel), .int .i64 (lo), .int .i64 (hi), .int .i64 (tv)] 38)) x).cell? ⟨w.heap.size, 2, none⟩ = some (.int .i64 (a)) := by simp [go_sem]
  have q3 : (ext (w.alloc (.cells #[.int .i64 ((9 : Int)), .int .i64 (d), .int .i64 (a), .int .i64 (b), .int .i64 (rel), .int .i64 (lo), .int .i64 (hi), .int .i64 (tv)] 38)) x).cell? ⟨w.heap.size, 3, none⟩ = some (.int .i64 (b)) := by simp [go_sem]
  have q4 : (ext (w.alloc (.cells #[.int .i64 ((9 : Int)), .int .i64 (d), .int .i64 (a), .int .i64 (b), .int .i64 (rel), .int .i64 (lo), .int .i64 (hi), .int .i64 (tv)] 38)) x).cell? ⟨w.heap.size, 4, none⟩ = some (.int .i64 (rel)) := by simp [go_sem]
  have q5 : (ext (w.alloc (.cells #[.int .i64 ((9 : Int)), .int .i64 (d), .int .i64 (a), .int .i64 (b), .int .i64 (rel), .int .i64 (lo), .int .i64 (hi), .int .i64 (tv)] 38)) x).cell? ⟨w.heap.size, 5, none⟩ = some (.int .i64 (lo)) := by simp [go_sem]
  have q6 : (ext (w.alloc (.cells #[.int .i64 ((9 : Int)), .int .i64 (d), .int .i64 (a), .int .i64 (b), .int .i64 (rel), .int .i64 (lo), .int .i64 (hi), .int .i64 (tv)] 38)) x).cell? ⟨w.heap.size, 6, none⟩ = some (.int .i64 (hi)) := by simp [go_sem]
  have q7 : (ext (w.alloc (.cells #[.int .i64 ((9 : Int)), .int .i64 (d), .int .i64 (a), .int .i64 (b), .int .i64 (rel), .int .i64 (lo), .int .i64 (hi), .int .i64 (tv)] 38)) x).cell? ⟨w.heap.size, 7, none⟩ = some (.int .i64 (tv)) := by simp [go_sem]
  refine region_w 141 [pgS (0) (13) (13) (namesL), pgV (.pointer (some ⟨w.heap.size, 0, none⟩)), pgV (.int .i64 ((9 : Int))), pgP (nameT (9 : Int)), pgV (.string ⟨(nameT (9 : Int) : List UInt8).toArray⟩), pgV (.string ⟨(nameT (9 : Int) : List UInt8).toArray⟩)] (by kernel_rfl) rfl (by kernel_rfl) ⟨?_, ?_, ?_, ?_, ?_, ?_, trivial⟩ ?_
  · exact w_callX (fun A W h => by
    refine Eq.trans (b := .ok (.enter 44 #[]) W) (by kernel_rfl) ?_
    rfl) (fun W hW => specNames W)
  · exact w_vx (v := .pointer (some ⟨w.heap.size, 0, none⟩)) rfl (fun A W h => by
    have e3 : A.eval (.tmp 3) = .pointer (some ⟨w.heap.size, 0, none⟩) := (h.slot 3).trans rfl
    simp only [execOp, e3]
    first | (simp [go_sem]; done) | rfl | kernel_rfl)
  · exact w_vx (v := .int .i64 ((9 : Int))) rfl (fun A W h => by
    have e17 : A.eval (.tmp 17) = .pointer (some ⟨w.heap.size, 0, none⟩) := h.vb 1 17
    have k0 := gk h.grew q0
    simp only [execOp, e17]
    simp [go_sem, k0])
  · exact w_ex (fun A W h => by
    obtain ⟨y16, e16, hB16, hlt16, hc16⟩ := h.vb 0 16
    have e18 : A.eval (.tmp 18) = .int .i64 ((9 : Int)) := h.vb 2 18
    exact ⟨.pointer (some ⟨y16, 9, none⟩), W, by (simp only [execOp, e16, e18]; simp [go_sem] <;> (intro hge; omega)), ⟨_, rfl, hc16 9 _ rfl⟩, Below.refl _ _⟩)
  · exact w_vx (v := .string ⟨(nameT (9 : Int) : List UInt8).toArray⟩) rfl (fun A W h => by
    obtain ⟨y19, e19, hc19⟩ := h.vb 3 19
    simp only [execOp, e19]
    simp [go_sem, hc19])
  · exact w_vx (v := .string ⟨(nameT (9 : Int) : List UInt8).toArray⟩) rfl (fun A W h => by
    have e20 : A.eval (.tmp 20) = .string ⟨(nameT (9 : Int) : List UInt8).toArray⟩ := h.vb 4 20
    simp only [execOp, e20]
    first | (simp [go_sem]; done) | rfl | kernel_rfl)
  intro vs w9 g9 hR
  obtain ⟨z0, x0, zB0, zl0, zc0⟩ := hR 0 16 (by kernel_rfl)
  have x1 : vs 1 = .pointer (some ⟨w.heap.size, 0, none⟩) := hR 1 17 (by kernel_rfl)
  have x2 : vs 2 = .int .i64 ((9 : Int)) := hR 2 18 (by kernel_rfl)
  obtain ⟨z3, x3, _⟩ := hR 3 19 (by kernel_rfl)
  have x4 : vs 4 = .string ⟨(nameT (9 : Int) : List UInt8).toArray⟩ := hR 4 20 (by kernel_rfl)
  have x5 : vs 5 = .string ⟨(nameT (9 : Int) : List UInt8).toArray⟩ := hR 5 7 (by kernel_rfl)
  simp only [putAll, Act.put, List.setIfInBounds_toArray, List.set_cons_zero, List.set_cons_succ, Nat.zero_add, Nat.reduceAdd, x0, x1, x2, x3, x4, x5]
  clear hR x0 x1 x2 x3 x4 x5
  obtain ⟨x3, rfl⟩ := ext_col g9
  clear g9 q0 q1 q2 q3 q4 q5 q6 q7
  go_wp2_with (first | ((with_reducible refine (CA.out _).mono ?_); rintro e w' ⟨rfl, g'⟩; (first | obtain ⟨xa, rfl⟩ := ext_cold g' | obtain ⟨xa, rfl⟩ := ext_col g' | obtain ⟨xa, rfl⟩ := ext_of g'); clear g') | ((with_reducible refine (CB.out _).mono ?_); rintro e w' ⟨rfl, g'⟩; (first | obtain ⟨xb, rfl⟩ := ext_cold g' | obtain ⟨xb, rfl⟩ := ext_col g' | obtain ⟨xb, rfl⟩ := ext_of g'); clear g') | ((with_reducible refine (CD.out _).mono ?_); rintro e w' ⟨rfl, g'⟩; (first | obtain ⟨xd, rfl⟩ := ext_cold g' | obtain ⟨xd, rfl⟩ := ext_col g' | obtain ⟨xd, rfl⟩ := ext_of g'); clear g') | ((with_reducible refine (CT.out _).mono ?_); rintro e w' ⟨rfl, g'⟩; (first | obtain ⟨xt, rfl⟩ := ext_cold g' | obtain ⟨xt, rfl⟩ := ext_col g' | obtain ⟨xt, rfl⟩ := ext_of g'); clear g'))
  go_ret
  exact ⟨rt (by simp [textI, wordsI, join_cons, joinTail, nameT, setT]), gr⟩

set_option maxRecDepth 100000 in
set_option maxHeartbeats 4000000 in
theorem specText10 (d a b rel lo hi tv procs size : Int) (w : World) (hok : insOkB ⟨(10 : Int), d, a, b, rel, lo, hi, tv⟩ procs size = true) (hto : tv ≤ 9223372036854775807) :
    Calls Tryz.prog 21 #[Ins.v ⟨(10 : Int), d, a, b, rel, lo, hi, tv⟩, .int .i64 procs, .int .i64 size] w fun e w' => e = .returned (.string ⟨(textI ⟨(10 : Int), d, a, b, rel, lo, hi, tv⟩).toArray⟩) ∧ Grew w w' := by
  have CO := fun w => specInsOk ⟨(10 : Int), d, a, b, rel, lo, hi, tv⟩ procs size w
  rw [hok] at CO
  have CO := Lib.hid CO
  obtain ⟨-, vd, va, vb, hr, hl, h0⟩ := okFacts hok
  have CD := Lib.hid fun w => specVar d w vd
  have CA := Lib.hid fun w => specVar a w va
  have CB := Lib.hid fun w => specVar b w vb
  have ld := varT_one d
  have la := varT_one a
  have lb := varT_one b
  have ln : (nameT (10 : Int)).length = 4 := rfl
  have h0 : 0 ≤ tv := h0 (by simp)
  have CT := Lib.hid fun w => specDigits tv w (by omega) (by omega)
  have lt := itoa_len (n := tv) (by omega) (by omega)
  clear hl hr
  clear vd va vb hok hto
  go_enter Tryz.func21, Tryz.ntmps21
  go_wp2_with ((with_reducible refine (CO.out _).mono ?_); rintro e w' ⟨rfl, g'⟩; (first | obtain ⟨x, rfl⟩ := ext_cold g' | obtain ⟨x, rfl⟩ := ext_col g' | obtain ⟨x, rfl⟩ := ext_of g'); clear g')
  have q0 : (ext (w.alloc (.cells #[.int .i64 ((10 : Int)), .int .i64 (d), .int .i64 (a), .int .i64 (b), .int .i64 (rel), .int .i64 (lo), .int .i64 (hi), .int .i64 (tv)] 38)) x).cell? ⟨w.heap.size, 0, none⟩ = some (.int .i64 ((10 : Int))) := by simp [go_sem]
  have q1 : (ext (w.alloc (.cells #[.int .i64 ((10 : Int)), .int .i64 (d), .int .i64 (a), .int .i64 (b), .int .i64 (rel), .int .i64 (lo), .int .i64 (hi), .int .i64 (tv)] 38)) x).cell? ⟨w.heap.size, 1, none⟩ = some (.int .i64 (d)) := by simp [go_sem]
  have q2 : (ext (w.alloc (.cells #[.int .i64 ((10 : Int)), .int .i64 (d), .int .i64 (a), .int .i64 (b), .int .i64 (rel), .int .i64 (lo), .int .i64 (hi), .int .i64 (tv)] 38)) x).cell? ⟨w.heap.size, 2, none⟩ = some (.int .i64 (a)) := by simp [go_sem]
  have q3 : (ext (w.alloc (.cells #[.int .i64 ((10 : Int)), .int .i64 (d), .int .i64 (a), .int .i64 (b), .int .i64 (rel), .int .i64 (lo), .int .i64 (hi), .int .i64 (tv)] 38)) x).cell? ⟨w.heap.size, 3, none⟩ = some (.int .i64 (b)) := by simp [go_sem]
  have q4 : (ext (w.alloc (.cells #[.int .i64 ((10 : Int)), .int .i64 (d), .int .i64 (a), .int .i64 (b), .int .i64 (rel), .int .i64 (lo), .int .i64 (hi), .int .i64 (tv)] 38)) x).cell? ⟨w.heap.size, 4, none⟩ = some (.int .i64 (rel)) := by simp [go_sem]
  have q5 : (ext (w.alloc (.cells #[.int .i64 ((10 : Int)), .int .i64 (d), .int .i64 (a), .int .i64 (b), .int .i64 (rel), .int .i64 (lo), .int .i64 (hi), .int .i64 (tv)] 38)) x).cell? ⟨w.heap.size, 5, none⟩ = some (.int .i64 (lo)) := by simp [go_sem]
  have q6 : (ext (w.alloc (.cells #[.int .i64 ((10 : Int)), .int .i64 (d), .int .i64 (a), .int .i64 (b), .int .i64 (rel), .int .i64 (lo), .int .i64 (hi), .int .i64 (tv)] 38)) x).cell? ⟨w.heap.size, 6, none⟩ = some (.int .i64 (hi)) := by simp [go_sem]
  have q7 : (ext (w.alloc (.cells #[.int .i64 ((10 : Int)), .int .i64 (d), .int .i64 (a), .int .i64 (b), .int .i64 (rel), .int .i64 (lo), .int .i64 (hi), .int .i64 (tv)] 38)) x).cell? ⟨w.heap.size, 7, none⟩ = some (.int .i64 (tv)) := by simp [go_sem]
  refine region_w 141 [pgS (0) (13) (13) (namesL), pgV (.pointer (some ⟨w.heap.size, 0, none⟩)), pgV (.int .i64 ((10 : Int))), pgP (nameT (10 : Int)), pgV (.string ⟨(nameT (10 : Int) : List UInt8).toArray⟩), pgV (.string ⟨(nameT (10 : Int) : List UInt8).toArray⟩)] (by kernel_rfl) rfl (by kernel_rfl) ⟨?_, ?_, ?_, ?_, ?_, ?_, trivial⟩ ?_
  · exact w_callX (fun A W h => by
    refine Eq.trans (b := .ok (.enter 44 #[]) W) (by kernel_rfl) ?_
    rfl) (fun W hW => specNames W)
  · exact w_vx (v := .pointer (some ⟨w.heap.size, 0, none⟩)) rfl (fun A W h => by
    have e3 : A.eval (.tmp 3) = .pointer (some ⟨w.heap.size, 0, none⟩) := (h.slot 3).trans rfl
    simp only [execOp, e3]
    first | (simp [go_sem]; done) | rfl | kernel_rfl)
  · exact w_vx (v := .int .i64 ((10 : Int))) rfl (fun A W h => by
    have e17 : A.eval (.tmp 17) = .pointer (some ⟨w.heap.size, 0, none⟩) := h.vb 1 17
    have k0 := gk h.grew q0
    simp only [execOp, e17]
    simp [go_sem, k0])
  · exact w_ex (fun A W h => by
    obtain ⟨y16, e16, hB16, hlt16, hc16⟩ := h.vb 0 16
    have e18 : A.eval (.tmp 18) = .int .i64 ((10 : Int)) := h.vb 2 18
    exact ⟨.pointer (some ⟨y16, 10, none⟩), W, by (simp only [execOp, e16, e18]; simp [go_sem] <;> (intro hge; omega)), ⟨_, rfl, hc16 10 _ rfl⟩, Below.refl _ _⟩)
  · exact w_vx (v := .string ⟨(nameT (10 : Int) : List UInt8).toArray⟩) rfl (fun A W h => by
    obtain ⟨y19, e19, hc19⟩ := h.vb 3 19
    simp only [execOp, e19]
    simp [go_sem, hc19])
  · exact w_vx (v := .string ⟨(nameT (10 : Int) : List UInt8).toArray⟩) rfl (fun A W h => by
    have e20 : A.eval (.tmp 20) = .string ⟨(nameT (10 : Int) : List UInt8).toArray⟩ := h.vb 4 20
    simp only [execOp, e20]
    first | (simp [go_sem]; done) | rfl | kernel_rfl)
  intro vs w9 g9 hR
  obtain ⟨z0, x0, zB0, zl0, zc0⟩ := hR 0 16 (by kernel_rfl)
  have x1 : vs 1 = .pointer (some ⟨w.heap.size, 0, none⟩) := hR 1 17 (by kernel_rfl)
  have x2 : vs 2 = .int .i64 ((10 : Int)) := hR 2 18 (by kernel_rfl)
  obtain ⟨z3, x3, _⟩ := hR 3 19 (by kernel_rfl)
  have x4 : vs 4 = .string ⟨(nameT (10 : Int) : List UInt8).toArray⟩ := hR 4 20 (by kernel_rfl)
  have x5 : vs 5 = .string ⟨(nameT (10 : Int) : List UInt8).toArray⟩ := hR 5 7 (by kernel_rfl)
  simp only [putAll, Act.put, List.setIfInBounds_toArray, List.set_cons_zero, List.set_cons_succ, Nat.zero_add, Nat.reduceAdd, x0, x1, x2, x3, x4, x5]
  clear hR x0 x1 x2 x3 x4 x5
  obtain ⟨x3, rfl⟩ := ext_col g9
  clear g9 q0 q1 q2 q3 q4 q5 q6 q7
  go_wp2_with (first | ((with_reducible refine (CA.out _).mono ?_); rintro e w' ⟨rfl, g'⟩; (first | obtain ⟨xa, rfl⟩ := ext_cold g' | obtain ⟨xa, rfl⟩ := ext_col g' | obtain ⟨xa, rfl⟩ := ext_of g'); clear g') | ((with_reducible refine (CB.out _).mono ?_); rintro e w' ⟨rfl, g'⟩; (first | obtain ⟨xb, rfl⟩ := ext_cold g' | obtain ⟨xb, rfl⟩ := ext_col g' | obtain ⟨xb, rfl⟩ := ext_of g'); clear g') | ((with_reducible refine (CD.out _).mono ?_); rintro e w' ⟨rfl, g'⟩; (first | obtain ⟨xd, rfl⟩ := ext_cold g' | obtain ⟨xd, rfl⟩ := ext_col g' | obtain ⟨xd, rfl⟩ := ext_of g'); clear g') | ((with_reducible refine (CT.out _).mono ?_); rintro e w' ⟨rfl, g'⟩; (first | obtain ⟨xt, rfl⟩ := ext_cold g' | obtain ⟨xt, rfl⟩ := ext_col g' | obtain ⟨xt, rfl⟩ := ext_of g'); clear g'))
  go_ret
  exact ⟨rt (by simp [textI, wordsI, join_cons, joinTail, nameT, setT]), gr⟩

set_option maxRecDepth 100000 in
set_option maxHeartbeats 4000000 in
theorem specText11 (d a b rel lo hi tv procs size : Int) (w : World) (hok : insOkB ⟨(11 : Int), d, a, b, rel, lo, hi, tv⟩ procs size = true) (hto : tv ≤ 9223372036854775807) :
    Calls Tryz.prog 21 #[Ins.v ⟨(11 : Int), d, a, b, rel, lo, hi, tv⟩, .int .i64 procs, .int .i64 size] w fun e w' => e = .returned (.string ⟨(textI ⟨(11 : Int), d, a, b, rel, lo, hi, tv⟩).toArray⟩) ∧ Grew w w' := by
  have CO := fun w => specInsOk ⟨(11 : Int), d, a, b, rel, lo, hi, tv⟩ procs size w
  rw [hok] at CO
  have CO := Lib.hid CO
  obtain ⟨-, vd, va, vb, hr, hl, h0⟩ := okFacts hok
  have CD := Lib.hid fun w => specVar d w vd
  have CA := Lib.hid fun w => specVar a w va
  have CB := Lib.hid fun w => specVar b w vb
  have ld := varT_one d
  have la := varT_one a
  have lb := varT_one b
  have ln : (nameT (11 : Int)).length = 6 := rfl
  clear h0 hl
  have hr : rel = 1 ∨ rel = 2 ∨ rel = 3 ∨ rel = 4 := hr (by simp)
  have HRE := Lib.hid (relsL_at hr)
  have lr := relT_le rel
  obtain ⟨rn, hrn, hrl⟩ : ∃ rn : Nat, rel = rn ∧ rn < 5 := ⟨rel.toNat, by omega, by omega⟩
  subst hrn
  clear hr
  clear vd va vb hok hto
  go_enter Tryz.func21, Tryz.ntmps21
  go_wp2_with ((with_reducible refine (CO.out _).mono ?_); rintro e w' ⟨rfl, g'⟩; (first | obtain ⟨x, rfl⟩ := ext_cold g' | obtain ⟨x, rfl⟩ := ext_col g' | obtain ⟨x, rfl⟩ := ext_of g'); clear g')
  have q0 : (ext (w.alloc (.cells #[.int .i64 ((11 : Int)), .int .i64 (d), .int .i64 (a), .int .i64 (b), .int .i64 (rn : Int), .int .i64 (lo), .int .i64 (hi), .int .i64 (tv)] 38)) x).cell? ⟨w.heap.size, 0, none⟩ = some (.int .i64 ((11 : Int))) := by simp [go_sem]
  have q1 : (ext (w.alloc (.cells #[.int .i64 ((11 : Int)), .int .i64 (d), .int .i64 (a), .int .i64 (b), .int .i64 (rn : Int), .int .i64 (lo), .int .i64 (hi), .int .i64 (tv)] 38)) x).cell? ⟨w.heap.size, 1, none⟩ = some (.int .i64 (d)) := by simp [go_sem]
  have q2 : (ext (w.alloc (.cells #[.int .i64 ((11 : Int)), .int .i64 (d), .int .i64 (a), .int .i64 (b), .int .i64 (rn : Int), .int .i64 (lo), .int .i64 (hi), .int .i64 (tv)] 38)) x).cell? ⟨w.heap.size, 2, none⟩ = some (.int .i64 (a)) := by simp [go_sem]
  have q3 : (ext (w.alloc (.cells #[.int .i64 ((11 : Int)), .int .i64 (d), .int .i64 (a), .int .i64 (b), .int .i64 (rn : Int), .int .i64 (lo), .int .i64 (hi), .int .i64 (tv)] 38)) x).cell? ⟨w.heap.size, 3, none⟩ = some (.int .i64 (b)) := by simp [go_sem]
  have q4 : (ext (w.alloc (.cells #[.int .i64 ((11 : Int)), .int .i64 (d), .int .i64 (a), .int .i64 (b), .int .i64 (rn : Int), .int .i64 (lo), .int .i64 (hi), .int .i64 (tv)] 38)) x).cell? ⟨w.heap.size, 4, none⟩ = some (.int .i64 (rn : Int)) := by simp [go_sem]
  have q5 : (ext (w.alloc (.cells #[.int .i64 ((11 : Int)), .int .i64 (d), .int .i64 (a), .int .i64 (b), .int .i64 (rn : Int), .int .i64 (lo), .int .i64 (hi), .int .i64 (tv)] 38)) x).cell? ⟨w.heap.size, 5, none⟩ = some (.int .i64 (lo)) := by simp [go_sem]
  have q6 : (ext (w.alloc (.cells #[.int .i64 ((11 : Int)), .int .i64 (d), .int .i64 (a), .int .i64 (b), .int .i64 (rn : Int), .int .i64 (lo), .int .i64 (hi), .int .i64 (tv)] 38)) x).cell? ⟨w.heap.size, 6, none⟩ = some (.int .i64 (hi)) := by simp [go_sem]
  have q7 : (ext (w.alloc (.cells #[.int .i64 ((11 : Int)), .int .i64 (d), .int .i64 (a), .int .i64 (b), .int .i64 (rn : Int), .int .i64 (lo), .int .i64 (hi), .int .i64 (tv)] 38)) x).cell? ⟨w.heap.size, 7, none⟩ = some (.int .i64 (tv)) := by simp [go_sem]
  refine region_w 141 [pgS (0) (13) (13) (namesL), pgV (.pointer (some ⟨w.heap.size, 0, none⟩)), pgV (.int .i64 ((11 : Int))), pgP (nameT (11 : Int)), pgV (.string ⟨(nameT (11 : Int) : List UInt8).toArray⟩), pgV (.string ⟨(nameT (11 : Int) : List UInt8).toArray⟩)] (by kernel_rfl) rfl (by kernel_rfl) ⟨?_, ?_, ?_, ?_, ?_, ?_, trivial⟩ ?_
  · exact w_callX (fun A W h => by
    refine Eq.trans (b := .ok (.enter 44 #[]) W) (by kernel_rfl) ?_
    rfl) (fun W hW => specNames W)
  · exact w_vx (v := .pointer (some ⟨w.heap.size, 0, none⟩)) rfl (fun A W h => by
    have e3 : A.eval (.tmp 3) = .pointer (some ⟨w.heap.size, 0, none⟩) := (h.slot 3).trans rfl
    simp only [execOp, e3]
    first | (simp [go_sem]; done) | rfl | kernel_rfl)
  · exact w_vx (v := .int .i64 ((11 : Int))) rfl (fun A W h => by
    have e17 : A.eval (.tmp 17) = .pointer (some ⟨w.heap.size, 0, none⟩) := h.vb 1 17
    have k0 := gk h.grew q0
    simp only [execOp, e17]
    simp [go_sem, k0])
  · exact w_ex (fun A W h => by
    obtain ⟨y16, e16, hB16, hlt16, hc16⟩ := h.vb 0 16
    have e18 : A.eval (.tmp 18) = .int .i64 ((11 : Int)) := h.vb 2 18
    exact ⟨.pointer (some ⟨y16, 11, none⟩), W, by (simp only [execOp, e16, e18]; simp [go_sem] <;> (intro hge; omega)), ⟨_, rfl, hc16 11 _ rfl⟩, Below.refl _ _⟩)
  · exact w_vx (v := .string ⟨(nameT (11 : Int) : List UInt8).toArray⟩) rfl (fun A W h => by
    obtain ⟨y19, e19, hc19⟩ := h.vb 3 19
    simp only [execOp, e19]
    simp [go_sem, hc19])
  · exact w_vx (v := .string ⟨(nameT (11 : Int) : List UInt8).toArray⟩) rfl (fun A W h => by
    have e20 : A.eval (.tmp 20) = .string ⟨(nameT (11 : Int) : List UInt8).toArray⟩ := h.vb 4 20
    simp only [execOp, e20]
    first | (simp [go_sem]; done) | rfl | kernel_rfl)
  intro vs w9 g9 hR
  obtain ⟨z0, x0, zB0, zl0, zc0⟩ := hR 0 16 (by kernel_rfl)
  have x1 : vs 1 = .pointer (some ⟨w.heap.size, 0, none⟩) := hR 1 17 (by kernel_rfl)
  have x2 : vs 2 = .int .i64 ((11 : Int)) := hR 2 18 (by kernel_rfl)
  obtain ⟨z3, x3, _⟩ := hR 3 19 (by kernel_rfl)
  have x4 : vs 4 = .string ⟨(nameT (11 : Int) : List UInt8).toArray⟩ := hR 4 20 (by kernel_rfl)
  have x5 : vs 5 = .string ⟨(nameT (11 : Int) : List UInt8).toArray⟩ := hR 5 7 (by kernel_rfl)
  simp only [putAll, Act.put, List.setIfInBounds_toArray, List.set_cons_zero, List.set_cons_succ, Nat.zero_add, Nat.reduceAdd, x0, x1, x2, x3, x4, x5]
  clear hR x0 x1 x2 x3 x4 x5
  obtain ⟨x3, rfl⟩ := ext_col g9
  clear g9 q0 q1 q2 q3 q4 q5 q6 q7
  go_wp2_with (first | ((with_reducible refine (CA.out _).mono ?_); rintro e w' ⟨rfl, g'⟩; (first | obtain ⟨xa, rfl⟩ := ext_cold g' | obtain ⟨xa, rfl⟩ := ext_col g' | obtain ⟨xa, rfl⟩ := ext_of g'); clear g') | ((with_reducible refine (CB.out _).mono ?_); rintro e w' ⟨rfl, g'⟩; (first | obtain ⟨xb, rfl⟩ := ext_cold g' | obtain ⟨xb, rfl⟩ := ext_col g' | obtain ⟨xb, rfl⟩ := ext_of g'); clear g') | ((with_reducible refine (CD.out _).mono ?_); rintro e w' ⟨rfl, g'⟩; (first | obtain ⟨xd, rfl⟩ := ext_cold g' | obtain ⟨xd, rfl⟩ := ext_col g' | obtain ⟨xd, rfl⟩ := ext_of g'); clear g'))
  have q0 : (ext (w.alloc (.cells #[.int .i64 ((11 : Int)), .int .i64 (d), .int .i64 (a), .int .i64 (b), .int .i64 (rn : Int), .int .i64 (lo), .int .i64 (hi), .int .i64 (tv)] 38)) xd).cell? ⟨w.heap.size, 0, none⟩ = some (.int .i64 ((11 : Int))) := by simp [go_sem]
  have q1 : (ext (w.alloc (.cells #[.int .i64 ((11 : Int)), .int .i64 (d), .int .i64 (a), .int .i64 (b), .int .i64 (rn : Int), .int .i64 (lo), .int .i64 (hi), .int .i64 (tv)] 38)) xd).cell? ⟨w.heap.size, 1, none⟩ = some (.int .i64 (d)) := by simp [go_sem]
  have q2 : (ext (w.alloc (.cells #[.int .i64 ((11 : Int)), .int .i64 (d), .int .i64 (a), .int .i64 (b), .int .i64 (rn : Int), .int .i64 (lo), .int .i64 (hi), .int .i64 (tv)] 38)) xd).cell? ⟨w.heap.size, 2, none⟩ = some (.int .i64 (a)) := by simp [go_sem]
  have q3 : (ext (w.alloc (.cells #[.int .i64 ((11 : Int)), .int .i64 (d), .int .i64 (a), .int .i64 (b), .int .i64 (rn : Int), .int .i64 (lo), .int .i64 (hi), .int .i64 (tv)] 38)) xd).cell? ⟨w.heap.size, 3, none⟩ = some (.int .i64 (b)) := by simp [go_sem]
  have q4 : (ext (w.alloc (.cells #[.int .i64 ((11 : Int)), .int .i64 (d), .int .i64 (a), .int .i64 (b), .int .i64 (rn : Int), .int .i64 (lo), .int .i64 (hi), .int .i64 (tv)] 38)) xd).cell? ⟨w.heap.size, 4, none⟩ = some (.int .i64 (rn : Int)) := by simp [go_sem]
  have q5 : (ext (w.alloc (.cells #[.int .i64 ((11 : Int)), .int .i64 (d), .int .i64 (a), .int .i64 (b), .int .i64 (rn : Int), .int .i64 (lo), .int .i64 (hi), .int .i64 (tv)] 38)) xd).cell? ⟨w.heap.size, 5, none⟩ = some (.int .i64 (lo)) := by simp [go_sem]
  have q6 : (ext (w.alloc (.cells #[.int .i64 ((11 : Int)), .int .i64 (d), .int .i64 (a), .int .i64 (b), .int .i64 (rn : Int), .int .i64 (lo), .int .i64 (hi), .int .i64 (tv)] 38)) xd).cell? ⟨w.heap.size, 6, none⟩ = some (.int .i64 (hi)) := by simp [go_sem]
  have q7 : (ext (w.alloc (.cells #[.int .i64 ((11 : Int)), .int .i64 (d), .int .i64 (a), .int .i64 (b), .int .i64 (rn : Int), .int .i64 (lo), .int .i64 (hi), .int .i64 (tv)] 38)) xd).cell? ⟨w.heap.size, 7, none⟩ = some (.int .i64 (tv)) := by simp [go_sem]
  refine region_w 141 [pgV (.string ⟨(nameT (11 : Int) : List UInt8).toArray⟩), pgV (.string ⟨(32 :: varT a : List UInt8).toArray⟩), pgV (.string ⟨((nameT (11 : Int)) ++ (32 :: varT a) : List UInt8).toArray⟩), pgV (.string ⟨(((nameT (11 : Int)) ++ (32 :: varT a)) ++ ([32]) : List UInt8).toArray⟩), pgS (0) (5) (5) (relsL), pgV (.pointer (some ⟨w.heap.size, 4, none⟩)), pgV (.int .i64 (rn : Int)), pgP (relT rn), pgV (.string ⟨(relT rn : List UInt8).toArray⟩), pgV (.string ⟨((((nameT (11 : Int)) ++ (32 :: varT a)) ++ ([32])) ++ (relT rn) : List UInt8).toArray⟩), pgV (.string ⟨(32 :: varT b : List UInt8).toArray⟩), pgV (.string ⟨(((((nameT (11 : Int)) ++ (32 :: varT a)) ++ ([32])) ++ (relT rn)) ++ (32 :: varT b) : List UInt8).toArray⟩), pgV (.string ⟨(((((nameT (11 : Int)) ++ (32 :: varT a)) ++ ([32])) ++ (relT rn)) ++ (32 :: varT b) : List UInt8).toArray⟩)] (by kernel_rfl) rfl (by kernel_rfl) ⟨?_, ?_, ?_, ?_, ?_, ?_, ?_, ?_, ?_, ?_, ?_, ?_, ?_, trivial⟩ ?_
  · exact w_vx (v := .string ⟨(nameT (11 : Int) : List UInt8).toArray⟩) rfl (fun A W h => by
    have e7 : A.eval (.tmp 7) = .string ⟨(nameT (11 : Int) : List UInt8).toArray⟩ := (h.slot 7).trans rfl
    simp only [execOp, e7]
    first | (simp [go_sem]; done) | rfl | kernel_rfl)
  · exact w_vx (v := .string ⟨(32 :: varT a : List UInt8).toArray⟩) rfl (fun A W h => by
    have e8 : A.eval (.tmp 8) = .string ⟨(32 :: varT a : List UInt8).toArray⟩ := (h.slot 8).trans rfl
    simp only [execOp, e8]
    first | (simp [go_sem]; done) | rfl | kernel_rfl)
  · exact w_vx (v := .string ⟨((nameT (11 : Int)) ++ (32 :: varT a) : List UInt8).toArray⟩) rfl (fun A W h => by
    have e117 : A.eval (.tmp 117) = .string ⟨(nameT (11 : Int) : List UInt8).toArray⟩ := h.vb 0 117
    have e118 : A.eval (.tmp 118) = .string ⟨(32 :: varT a : List UInt8).toArray⟩ := h.vb 1 118
    have hh := str_add (P := Tryz.prog) 9 (nameT (11 : Int)) (32 :: varT a) (by (try simp only [List.length_append, List.length_cons, List.length_nil, ld, la, lb, ln]); omega) W
    simp only [execOp, e117, e118]
    simp only [Sem.run_bind, evalK, eqGuard_add, hh, Result.andThen_ok, Sem.run_pure])
  · exact w_vx (v := .string ⟨(((nameT (11 : Int)) ++ (32 :: varT a)) ++ ([32]) : List UInt8).toArray⟩) rfl (fun A W h => by
    have e119 : A.eval (.tmp 119) = .string ⟨((nameT (11 : Int)) ++ (32 :: varT a) : List UInt8).toArray⟩ := h.vb 2 119
    have hh := str_add (P := Tryz.prog) 9 ((nameT (11 : Int)) ++ (32 :: varT a)) ([32]) (by (try simp only [List.length_append, List.length_cons, List.length_nil, ld, la, lb, ln]); omega) W
    simp only [execOp, e119]
    simp only [Sem.run_bind, evalK, eqGuard_add, hh, Result.andThen_ok, Sem.run_pure])
  · exact w_callX (fun A W h => by
    refine Eq.trans (b := .ok (.enter 46 #[]) W) (by kernel_rfl) ?_
    rfl) (fun W hW => specRels W)
  · exact w_vx (v := .pointer (some ⟨w.heap.size, 4, none⟩)) rfl (fun A W h => by
    have e3 : A.eval (.tmp 3) = .pointer (some ⟨w.heap.size, 0, none⟩) := (h.slot 3).trans rfl
    simp only [execOp, e3]
    first | (simp [go_sem]; done) | rfl | kernel_rfl)
  · exact w_vx (v := .int .i64 (rn : Int)) rfl (fun A W h => by
    have e122 : A.eval (.tmp 122) = .pointer (some ⟨w.heap.size, 4, none⟩) := h.vb 5 122
    have k0 := gk h.grew q4
    simp only [execOp, e122]
    simp [go_sem, k0])
  · exact w_ex (fun A W h => by
    obtain ⟨y121, e121, hB121, hlt121, hc121⟩ := h.vb 4 121
    have e123 : A.eval (.tmp 123) = .int .i64 (rn : Int) := h.vb 6 123
    exact ⟨.pointer (some ⟨y121, rn, none⟩), W, by (simp only [execOp, e121, e123]; simp [go_sem] <;> (intro hge; omega)), ⟨_, rfl, hc121 rn _ HRE.out⟩, Below.refl _ _⟩)
  · exact w_vx (v := .string ⟨(relT rn : List UInt8).toArray⟩) rfl (fun A W h => by
    obtain ⟨y124, e124, hc124⟩ := h.vb 7 124
    simp only [execOp, e124]
    simp [go_sem, hc124])
  · exact w_vx (v := .string ⟨((((nameT (11 : Int)) ++ (32 :: varT a)) ++ ([32])) ++ (relT rn) : List UInt8).toArray⟩) rfl (fun A W h => by
    have e120 : A.eval (.tmp 120) = .string ⟨(((nameT (11 : Int)) ++ (32 :: varT a)) ++ ([32]) : List UInt8).toArray⟩ := h.vb 3 120
    have e125 : A.eval (.tmp 125) = .string ⟨(relT rn : List UInt8).toArray⟩ := h.vb 8 125
    have hh := str_add (P := Tryz.prog) 9 (((nameT (11 : Int)) ++ (32 :: varT a)) ++ ([32])) (relT rn) (by (try simp only [List.length_append, List.length_cons, List.length_nil, ld, la, lb, ln]); omega) W
    simp only [execOp, e120, e125]
    simp only [Sem.run_bind, evalK, eqGuard_add, hh, Result.andThen_ok, Sem.run_pure])
  · exact w_vx (v := .string ⟨(32 :: varT b : List UInt8).toArray⟩) rfl (fun A W h => by
    have e9 : A.eval (.tmp 9) = .string ⟨(32 :: varT b : List UInt8).toArray⟩ := (h.slot 9).trans rfl
    simp only [execOp, e9]
    first | (simp [go_sem]; done) | rfl | kernel_rfl)
  · exact w_vx (v := .string ⟨(((((nameT (11 : Int)) ++ (32 :: varT a)) ++ ([32])) ++ (relT rn)) ++ (32 :: varT b) : List UInt8).toArray⟩) rfl (fun A W h => by
    have e126 : A.eval (.tmp 126) = .string ⟨((((nameT (11 : Int)) ++ (32 :: varT a)) ++ ([32])) ++ (relT rn) : List UInt8).toArray⟩ := h.vb 9 126
    have e127 : A.eval (.tmp 127) = .string ⟨(32 :: varT b : List UInt8).toArray⟩ := h.vb 10 127
    have hh := str_add (P := Tryz.prog) 9 ((((nameT (11 : Int)) ++ (32 :: varT a)) ++ ([32])) ++ (relT rn)) (32 :: varT b) (by (try simp only [List.length_append, List.length_cons, List.length_nil, ld, la, lb, ln]); omega) W
    simp only [execOp, e126, e127]
    simp only [Sem.run_bind, evalK, eqGuard_add, hh, Result.andThen_ok, Sem.run_pure])
  · exact w_vx (v := .string ⟨(((((nameT (11 : Int)) ++ (32 :: varT a)) ++ ([32])) ++ (relT rn)) ++ (32 :: varT b) : List UInt8).toArray⟩) rfl (fun A W h => by
    have e128 : A.eval (.tmp 128) = .string ⟨(((((nameT (11 : Int)) ++ (32 :: varT a)) ++ ([32])) ++ (relT rn)) ++ (32 :: varT b) : List UInt8).toArray⟩ := h.vb 11 128
    simp only [execOp, e128]
    first | (simp [go_sem]; done) | rfl | kernel_rfl)
  intro vs w9 g9 hR
  have x0 : vs 0 = .string ⟨(nameT (11 : Int) : List UInt8).toArray⟩ := hR 0 117 (by kernel_rfl)
  have x1 : vs 1 = .string ⟨(32 :: varT a : List UInt8).toArray⟩ := hR 1 118 (by kernel_rfl)
  have x2 : vs 2 = .string ⟨((nameT (11 : Int)) ++ (32 :: varT a) : List UInt8).toArray⟩ := hR 2 119 (by kernel_rfl)
  have x3 : vs 3 = .string ⟨(((nameT (11 : Int)) ++ (32 :: varT a)) ++ ([32]) : List UInt8).toArray⟩ := hR 3 120 (by kernel_rfl)
  obtain ⟨z4, x4, zB4, zl4, zc4⟩ := hR 4 121 (by kernel_rfl)
  have x5 : vs 5 = .pointer (some ⟨w.heap.size, 4, none⟩) := hR 5 122 (by kernel_rfl)
  have x6 : vs 6 = .int .i64 (rn : Int) := hR 6 123 (by kernel_rfl)
  obtain ⟨z7, x7, _⟩ := hR 7 124 (by kernel_rfl)
  have x8 : vs 8 = .string ⟨(relT rn : List UInt8).toArray⟩ := hR 8 125 (by kernel_rfl)
  have x9 : vs 9 = .string ⟨((((nameT (11 : Int)) ++ (32 :: varT a)) ++ ([32])) ++ (relT rn) : List UInt8).toArray⟩ := hR 9 126 (by kernel_rfl)
  have x10 : vs 10 = .string ⟨(32 :: varT b : List UInt8).toArray⟩ := hR 10 127 (by kernel_rfl)
  have x11 : vs 11 = .string ⟨(((((nameT (11 : Int)) ++ (32 :: varT a)) ++ ([32])) ++ (relT rn)) ++ (32 :: varT b) : List UInt8).toArray⟩ := hR 11 128 (by kernel_rfl)
  have x12 : vs 12 = .string ⟨(((((nameT (11 : Int)) ++ (32 :: varT a)) ++ ([32])) ++ (relT rn)) ++ (32 :: varT b) : List UInt8).toArray⟩ := hR 12 6 (by kernel_rfl)
  simp only [putAll, Act.put, List.setIfInBounds_toArray, List.set_cons_zero, List.set_cons_succ, Nat.zero_add, Nat.reduceAdd, x0, x1, x2, x3, x4, x5, x6, x7, x8, x9, x10, x11, x12]
  clear hR x0 x1 x2 x3 x4 x5 x6 x7 x8 x9 x10 x11 x12
  obtain ⟨x9, rfl⟩ := ext_col g9
  clear g9 q0 q1 q2 q3 q4 q5 q6 q7
  go_wp2
  go_ret
  exact ⟨rt (by simp [textI, wordsI, join_cons, joinTail, nameT, setT]), gr⟩

set_option maxRecDepth 100000 in
set_option maxHeartbeats 4000000 in
theorem specText12 (d a b rel lo hi tv procs size : Int) (w : World) (hok : insOkB ⟨(12 : Int), d, a, b, rel, lo, hi, tv⟩ procs size = true) (hto : tv ≤ 9223372036854775807) :
    Calls Tryz.prog 21 #[Ins.v ⟨(12 : Int), d, a, b, rel, lo, hi, tv⟩, .int .i64 procs, .int .i64 size] w fun e w' => e = .returned (.string ⟨(textI ⟨(12 : Int), d, a, b, rel, lo, hi, tv⟩).toArray⟩) ∧ Grew w w' := by
  have CO := fun w => specInsOk ⟨(12 : Int), d, a, b, rel, lo, hi, tv⟩ procs size w
  rw [hok] at CO
  have CO := Lib.hid CO
  obtain ⟨-, vd, va, vb, hr, hl, h0⟩ := okFacts hok
  have CD := Lib.hid fun w => specVar d w vd
  have CA := Lib.hid fun w => specVar a w va
  have CB := Lib.hid fun w => specVar b w vb
  have ld := varT_one d
  have la := varT_one a
  have lb := varT_one b
  have ln : (nameT (12 : Int)).length = 3 := rfl
  clear h0 hl hr
  clear vd va vb hok hto
  go_enter Tryz.func21, Tryz.ntmps21
  go_wp2_with ((with_reducible refine (CO.out _).mono ?_); rintro e w' ⟨rfl, g'⟩; (first | obtain ⟨x, rfl⟩ := ext_cold g' | obtain ⟨x, rfl⟩ := ext_col g' | obtain ⟨x, rfl⟩ := ext_of g'); clear g')
  have q0 : (ext (w.alloc (.cells #[.int .i64 ((12 : Int)), .int .i64 (d), .int .i64 (a), .int .i64 (b), .int .i64 (rel), .int .i64 (lo), .int .i64 (hi), .int .i64 (tv)] 38)) x).cell? ⟨w.heap.size, 0, none⟩ = some (.int .i64 ((12 : Int))) := by simp [go_sem]
  have q1 : (ext (w.alloc (.cells #[.int .i64 ((12 : Int)), .int .i64 (d), .int .i64 (a), .int .i64 (b), .int .i64 (rel), .int .i64 (lo), .int .i64 (hi), .int .i64 (tv)] 38)) x).cell? ⟨w.heap.size, 1, none⟩ = some (.int .i64 (d)) := by simp [go_sem]
  have q2 : (ext (w.alloc (.cells #[.int .i64 ((12 : Int)), .int .i64 (d), .int .i64 (a), .int .i64 (b), .int .i64 (rel), .int .i64 (lo), .int .i64 (hi), .int .i64 (tv)] 38)) x).cell? ⟨w.heap.size, 2, none⟩ = some (.int .i64 (a)) := by simp [go_sem]
  have q3 : (ext (w.alloc (.cells #[.int .i64 ((12 : Int)), .int .i64 (d), .int .i64 (a), .int .i64 (b), .int .i64 (rel), .int .i64 (lo), .int .i64 (hi), .int .i64 (tv)] 38)) x).cell? ⟨w.heap.size, 3, none⟩ = some (.int .i64 (b)) := by simp [go_sem]
  have q4 : (ext (w.alloc (.cells #[.int .i64 ((12 : Int)), .int .i64 (d), .int .i64 (a), .int .i64 (b), .int .i64 (rel), .int .i64 (lo), .int .i64 (hi), .int .i64 (tv)] 38)) x).cell? ⟨w.heap.size, 4, none⟩ = some (.int .i64 (rel)) := by simp [go_sem]
  have q5 : (ext (w.alloc (.cells #[.int .i64 ((12 : Int)), .int .i64 (d), .int .i64 (a), .int .i64 (b), .int .i64 (rel), .int .i64 (lo), .int .i64 (hi), .int .i64 (tv)] 38)) x).cell? ⟨w.heap.size, 5, none⟩ = some (.int .i64 (lo)) := by simp [go_sem]
  have q6 : (ext (w.alloc (.cells #[.int .i64 ((12 : Int)), .int .i64 (d), .int .i64 (a), .int .i64 (b), .int .i64 (rel), .int .i64 (lo), .int .i64 (hi), .int .i64 (tv)] 38)) x).cell? ⟨w.heap.size, 6, none⟩ = some (.int .i64 (hi)) := by simp [go_sem]
  have q7 : (ext (w.alloc (.cells #[.int .i64 ((12 : Int)), .int .i64 (d), .int .i64 (a), .int .i64 (b), .int .i64 (rel), .int .i64 (lo), .int .i64 (hi), .int .i64 (tv)] 38)) x).cell? ⟨w.heap.size, 7, none⟩ = some (.int .i64 (tv)) := by simp [go_sem]
  refine region_w 141 [pgS (0) (13) (13) (namesL), pgV (.pointer (some ⟨w.heap.size, 0, none⟩)), pgV (.int .i64 ((12 : Int))), pgP (nameT (12 : Int)), pgV (.string ⟨(nameT (12 : Int) : List UInt8).toArray⟩), pgV (.string ⟨(nameT (12 : Int) : List UInt8).toArray⟩)] (by kernel_rfl) rfl (by kernel_rfl) ⟨?_, ?_, ?_, ?_, ?_, ?_, trivial⟩ ?_
  · exact w_callX (fun A W h => by
    refine Eq.trans (b := .ok (.enter 44 #[]) W) (by kernel_rfl) ?_
    rfl) (fun W hW => specNames W)
  · exact w_vx (v := .pointer (some ⟨w.heap.size, 0, none⟩)) rfl (fun A W h => by
    have e3 : A.eval (.tmp 3) = .pointer (some ⟨w.heap.size, 0, none⟩) := (h.slot 3).trans rfl
    simp only [execOp, e3]
    first | (simp [go_sem]; done) | rfl | kernel_rfl)
  · exact w_vx (v := .int .i64 ((12 : Int))) rfl (fun A W h => by
    have e17 : A.eval (.tmp 17) = .pointer (some ⟨w.heap.size, 0, none⟩) := h.vb 1 17
    have k0 := gk h.grew q0
    simp only [execOp, e17]
    simp [go_sem, k0])
  · exact w_ex (fun A W h => by
    obtain ⟨y16, e16, hB16, hlt16, hc16⟩ := h.vb 0 16
    have e18 : A.eval (.tmp 18) = .int .i64 ((12 : Int)) := h.vb 2 18
    exact ⟨.pointer (some ⟨y16, 12, none⟩), W, by (simp only [execOp, e16, e18]; simp [go_sem] <;> (intro hge; omega)), ⟨_, rfl, hc16 12 _ rfl⟩, Below.refl _ _⟩)
  · exact w_vx (v := .string ⟨(nameT (12 : Int) : List UInt8).toArray⟩) rfl (fun A W h => by
    obtain ⟨y19, e19, hc19⟩ := h.vb 3 19
    simp only [execOp, e19]
    simp [go_sem, hc19])
  · exact w_vx (v := .string ⟨(nameT (12 : Int) : List UInt8).toArray⟩) rfl (fun A W h => by
    have e20 : A.eval (.tmp 20) = .string ⟨(nameT (12 : Int) : List UInt8).toArray⟩ := h.vb 4 20
    simp only [execOp, e20]
    first | (simp [go_sem]; done) | rfl | kernel_rfl)
  intro vs w9 g9 hR
  obtain ⟨z0, x0, zB0, zl0, zc0⟩ := hR 0 16 (by kernel_rfl)
  have x1 : vs 1 = .pointer (some ⟨w.heap.size, 0, none⟩) := hR 1 17 (by kernel_rfl)
  have x2 : vs 2 = .int .i64 ((12 : Int)) := hR 2 18 (by kernel_rfl)
  obtain ⟨z3, x3, _⟩ := hR 3 19 (by kernel_rfl)
  have x4 : vs 4 = .string ⟨(nameT (12 : Int) : List UInt8).toArray⟩ := hR 4 20 (by kernel_rfl)
  have x5 : vs 5 = .string ⟨(nameT (12 : Int) : List UInt8).toArray⟩ := hR 5 7 (by kernel_rfl)
  simp only [putAll, Act.put, List.setIfInBounds_toArray, List.set_cons_zero, List.set_cons_succ, Nat.zero_add, Nat.reduceAdd, x0, x1, x2, x3, x4, x5]
  clear hR x0 x1 x2 x3 x4 x5
  obtain ⟨x3, rfl⟩ := ext_col g9
  clear g9 q0 q1 q2 q3 q4 q5 q6 q7
  go_wp2_with (first | ((with_reducible refine (CA.out _).mono ?_); rintro e w' ⟨rfl, g'⟩; (first | obtain ⟨xa, rfl⟩ := ext_cold g' | obtain ⟨xa, rfl⟩ := ext_col g' | obtain ⟨xa, rfl⟩ := ext_of g'); clear g') | ((with_reducible refine (CB.out _).mono ?_); rintro e w' ⟨rfl, g'⟩; (first | obtain ⟨xb, rfl⟩ := ext_cold g' | obtain ⟨xb, rfl⟩ := ext_col g' | obtain ⟨xb, rfl⟩ := ext_of g'); clear g') | ((with_reducible refine (CD.out _).mono ?_); rintro e w' ⟨rfl, g'⟩; (first | obtain ⟨xd, rfl⟩ := ext_cold g' | obtain ⟨xd, rfl⟩ := ext_col g' | obtain ⟨xd, rfl⟩ := ext_of g'); clear g'))
  go_ret
  exact ⟨rt (by simp [textI, wordsI, join_cons, joinTail, nameT, setT]), gr⟩

set_option maxRecDepth 100000 in
theorem specTextF (i : Ins) (procs size : Int) (w : World) (hok : insOkB i procs size = false) :
    Calls Tryz.prog 21 #[i.v, .int .i64 procs, .int .i64 size] w fun e w' => e = .returned (.string ⟨([] : List UInt8).toArray⟩) ∧ Grew w w' := by
  obtain ⟨op, d, a, b, rel, lo, hi, tv⟩ := i
  have CO := fun w => specInsOk ⟨op, d, a, b, rel, lo, hi, tv⟩ procs size w
  rw [hok] at CO
  have HCO := Lib.hid CO
  clear CO hok
  go_enter Tryz.func21, Tryz.ntmps21
  go_wp2_with ((with_reducible refine (HCO.out _).mono ?_); rintro e w' ⟨rfl, g'⟩; (first | obtain ⟨x, rfl⟩ := ext_cold g' | obtain ⟨x, rfl⟩ := ext_col g' | obtain ⟨x, rfl⟩ := ext_of g'); clear g')
  go_ret
  exact ⟨rfl, gr⟩
/-- The reference's text of a step. -/
theorem specInsText (i : Ins) (procs size : Int) (w : World) (hto : i.to ≤ 9223372036854775807) :
    Calls Tryz.prog 21 #[i.v, .int .i64 procs, .int .i64 size] w fun e w' => e = .returned (.string ⟨(textB i procs size).toArray⟩) ∧ Grew w w' := by
  cases hok : insOkB i procs size
  · have e : textB i procs size = [] := by unfold textB; rw [hok]; rfl
    rw [e]
    exact specTextF i procs size w hok
  · have e : textB i procs size = textI i := by unfold textB; rw [hok]; rfl
    rw [e]
    obtain ⟨op, d, a, b, rel, lo, hi, tv⟩ := i
    have ho : 1 ≤ op ∧ op ≤ 12 := by
      have h := (okFacts hok).1
      simp only [headB, Bool.and_eq_true, decide_eq_true_eq] at h
      exact h.1
    have : op = 1 ∨ op = 2 ∨ op = 3 ∨ op = 4 ∨ op = 5 ∨ op = 6 ∨ op = 7 ∨ op = 8 ∨ op = 9 ∨ op = 10 ∨ op = 11 ∨ op = 12 := by omega
    rcases this with rfl | rfl | rfl | rfl | rfl | rfl | rfl | rfl | rfl | rfl | rfl | rfl
    · exact specText1 d a b rel lo hi tv procs size w hok hto
    · exact specText2 d a b rel lo hi tv procs size w hok hto
    · exact specText3 d a b rel lo hi tv procs size w hok hto
    · exact specText4 d a b rel lo hi tv procs size w hok hto
    · exact specText5 d a b rel lo hi tv procs size w hok hto
    · exact specText6 d a b rel lo hi tv procs size w hok hto
    · exact specText7 d a b rel lo hi tv procs size w hok hto
    · exact specText8 d a b rel lo hi tv procs size w hok hto
    · exact specText9 d a b rel lo hi tv procs size w hok hto
    · exact specText10 d a b rel lo hi tv procs size w hok hto
    · exact specText11 d a b rel lo hi tv procs size w hok hto
    · exact specText12 d a b rel lo hi tv procs size w hok hto
end Go.Proofs.YtcdfomoglkhboaaGreatDoor
