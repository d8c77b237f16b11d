/- Contracts of InsOk of the reference and of the program. No condition. -/
import Derived.Test.YtdddhnepanjmfaaGreatBlk
import Derived.Test.YtdddhnepanjmfaaGreatCode
namespace Go.Proofs.YtdddhnepanjmfaaGreat
open Go.RowKit
set_option linter.unusedVariables false
attribute [local go_sem] ext_cell

/-- A call that returns a bool, the bool known. -/
theorem bool_is {P : Program} {f : FuncId} {args : Array Value} {w : World} {X b : Bool} {R : World → Prop} (c : Calls P f args w fun e w' => e = .returned (.bool X) ∧ R w') (h : X = b) :
    Calls P f args w fun e w' => e = .returned (.bool b) ∧ R w' := by subst h; exact c

/-- Bounds of numbers of the program. -/
def itvOkB (lo hi : Int) : Bool := (decide (-32768 ≤ lo) && decide (lo ≤ 32767)) && (decide (-32768 ≤ hi) && decide (hi ≤ 32767)) && decide (lo ≤ hi)

theorem itvOk (lo hi : Int) (w : World) :
    Calls Tryz.prog 86 #[.agg #[.int .i64 lo, .int .i64 hi]] w fun e w' => e = .returned (.bool (itvOkB lo hi)) ∧ Grew w w' := by
  go_enter Tryz.func86, Tryz.ntmps86
  go_wp2
  all_goals
    go_ret
    exact ⟨by simp [itvOkB]; try omega, by unfold Grew; go_grown⟩

def varB (x : Int) : Bool := decide (0 ≤ x) && decide (x ≤ 3)
theorem varB4 (x : Int) : (decide (0 ≤ x) && decide (x < 4)) = varB x := by unfold varB; rw [Bool.eq_iff_iff]; simp; omega
def headB (i : Ins) : Bool := (decide (1 ≤ i.op) && decide (i.op ≤ 12)) && (decide (formV i = ⟨0, 0, 0, 0, 0, 0, 0, 0⟩) && (varB i.d && (varB i.a && varB i.b)))
def tailB (i : Ins) (procs size : Int) : Bool :=
  if i.op = 5 then itvOkB i.lo i.hi
  else if i.op = 8 then (decide (1 ≤ i.rel) && decide (i.rel ≤ 4)) && (decide (0 ≤ i.to) && decide (i.to < size))
  else if i.op = 9 then decide (0 ≤ i.to) && decide (i.to < size)
  else if i.op = 10 then decide (0 ≤ i.to) && decide (i.to < procs)
  else if i.op = 11 then decide (1 ≤ i.rel) && decide (i.rel ≤ 4)
  else true
def insOkB (i : Ins) (procs size : Int) : Bool := headB i && tailB i procs size
/-- Whether two instructions are the same. -/
def insEqB (i j : Ins) : Bool := decide (i = j)
theorem insNeq (a1 a2 a3 a4 a5 a6 a7 a8 b1 b2 b3 b4 b5 b6 b7 b8 : Int) (w : World) :
    (binOp .neq 103 (.agg #[.int .i64 a1, .int .i64 a2, .int .i64 a3, .int .i64 a4, .int .i64 a5, .int .i64 a6, .int .i64 a7, .int .i64 a8]) (.agg #[.int .i64 b1, .int .i64 b2, .int .i64 b3, .int .i64 b4, .int .i64 b5, .int .i64 b6, .int .i64 b7, .int .i64 b8])).run Tryz.prog w =
      .ok (.bool (!insEqB ⟨a1, a2, a3, a4, a5, a6, a7, a8⟩ ⟨b1, b2, b3, b4, b5, b6, b7, b8⟩)) w := by
  unfold insEqB
  by_cases h1 : a1 = b1
  · by_cases h2 : a2 = b2
    · by_cases h3 : a3 = b3
      · by_cases h4 : a4 = b4
        · by_cases h5 : a5 = b5
          · by_cases h6 : a6 = b6
            · by_cases h7 : a7 = b7
              · by_cases h8 : a8 = b8 <;> simp [go_sem, *]
              · simp [go_sem, *]
            · simp [go_sem, *]
          · simp [go_sem, *]
        · simp [go_sem, *]
      · simp [go_sem, *]
    · simp [go_sem, *]
  · simp [go_sem, *]
theorem insEql (a1 a2 a3 a4 a5 a6 a7 a8 b1 b2 b3 b4 b5 b6 b7 b8 : Int) (w : World) :
    (binOp .eql 103 (.agg #[.int .i64 a1, .int .i64 a2, .int .i64 a3, .int .i64 a4, .int .i64 a5, .int .i64 a6, .int .i64 a7, .int .i64 a8]) (.agg #[.int .i64 b1, .int .i64 b2, .int .i64 b3, .int .i64 b4, .int .i64 b5, .int .i64 b6, .int .i64 b7, .int .i64 b8])).run Tryz.prog w =
      .ok (.bool (insEqB ⟨a1, a2, a3, a4, a5, a6, a7, a8⟩ ⟨b1, b2, b3, b4, b5, b6, b7, b8⟩)) w := by
  unfold insEqB
  by_cases h1 : a1 = b1
  · by_cases h2 : a2 = b2
    · by_cases h3 : a3 = b3
      · by_cases h4 : a4 = b4
        · by_cases h5 : a5 = b5
          · by_cases h6 : a6 = b6
            · by_cases h7 : a7 = b7
              · by_cases h8 : a8 = b8 <;> simp [go_sem, *]
              · simp [go_sem, *]
            · simp [go_sem, *]
          · simp [go_sem, *]
        · simp [go_sem, *]
      · simp [go_sem, *]
    · simp [go_sem, *]
  · simp [go_sem, *]
attribute [local go_sem ↓] insNeq insEql

set_option maxRecDepth 100000 in
set_option maxHeartbeats 4000000 in
theorem specInsOkI (op d a b rel lo hi to procs size : Int) (w : World) (hI : (decide (1 ≤ op) && decide (op ≤ 12)) = false) :
    Calls Tryz.prog 113 #[Ins.v ⟨op, d, a, b, rel, lo, hi, to⟩, .int .i64 procs, .int .i64 size] w fun e w' => e = .returned (.bool false) ∧ Grew w w' := by
  have CI : Hid (∀ w, Calls Tryz.prog 69 #[.int .i64 op, .int .i64 1, .int .i64 12] w fun e w' => e = .returned (.bool false) ∧ w = w') := Lib.hid (fun w => bool_is (l1In op 1 12 w) hI)
  clear hI
  go_enter Tryz.func113, Tryz.ntmps113
  go_wp2_with fail
  refine wp_region_ext (by kernel_rfl) (by kernel_rfl) ?_
  repeat (go_big_quiet_step ((first | (with_reducible exact ext_same (CI.out _)))))
  refine wpQuiet_nil ?_
  intro _ hw'
  obtain ⟨x, hw''⟩ := hw'
  subst hw''
  have HX := Lib.hid (ext_grew _ x)
  go_wp2
  go_ret
  exact ⟨rfl, (Below.trans (by go_grown) (Below.mono HX.out (by simp; omega)))⟩

set_option maxRecDepth 100000 in
set_option maxHeartbeats 4000000 in
theorem specInsOkF (op d a b rel lo hi to procs size : Int) (w : World) (hI : (decide (1 ≤ op) && decide (op ≤ 12)) = true) (h1 : 1 ≤ op) (h2 : op ≤ 12) (op2 d2 a2 b2 rel2 lo2 hi2 to2 : Int) (hf : formV ⟨op, d, a, b, rel, lo, hi, to⟩ = ⟨op2, d2, a2, b2, rel2, lo2, hi2, to2⟩) (hne : insEqB ⟨op2, d2, a2, b2, rel2, lo2, hi2, to2⟩ ⟨0, 0, 0, 0, 0, 0, 0, 0⟩ = false) :
    Calls Tryz.prog 113 #[Ins.v ⟨op, d, a, b, rel, lo, hi, to⟩, .int .i64 procs, .int .i64 size] w fun e w' => e = .returned (.bool false) ∧ Grew w w' := by
  have CI : Hid (∀ w, Calls Tryz.prog 69 #[.int .i64 op, .int .i64 1, .int .i64 12] w fun e w' => e = .returned (.bool true) ∧ w = w') := Lib.hid (fun w => bool_is (l1In op 1 12 w) hI)
  have CF : Hid (∀ w, Calls Tryz.prog 147 #[Ins.v ⟨op, d, a, b, rel, lo, hi, to⟩] w fun e w' => e = .returned (.agg #[.int .i64 op2, .int .i64 d2, .int .i64 a2, .int .i64 b2, .int .i64 rel2, .int .i64 lo2, .int .i64 hi2, .int .i64 to2]) ∧ Grew w w') := Lib.hid (fun w => by
    have := l3Form ⟨op, d, a, b, rel, lo, hi, to⟩ w h1 h2
    rw [hf] at this
    exact this)
  clear hI hf h1 h2
  go_enter Tryz.func113, Tryz.ntmps113
  go_wp2_with fail
  refine wp_region_ext (by kernel_rfl) (by kernel_rfl) ?_
  repeat (go_big_quiet_step ((first | (with_reducible exact ext_same (CI.out _)) | (with_reducible exact ext_grow (CF.out _)))))
  refine wpQuiet_nil ?_
  intro _ hw'
  obtain ⟨x, hw''⟩ := hw'
  subst hw''
  have HX := Lib.hid (ext_grew _ x)
  go_wp2
  go_ret
  exact ⟨rfl, (Below.trans (by go_grown) (Below.mono HX.out (by simp; omega)))⟩

set_option maxRecDepth 100000 in
set_option maxHeartbeats 4000000 in
theorem specInsOkD (op d a b rel lo hi to procs size : Int) (w : World) (hI : (decide (1 ≤ op) && decide (op ≤ 12)) = true) (h1 : 1 ≤ op) (h2 : op ≤ 12) (hf : formV ⟨op, d, a, b, rel, lo, hi, to⟩ = ⟨0, 0, 0, 0, 0, 0, 0, 0⟩) (hD : varB d = false) :
    Calls Tryz.prog 113 #[Ins.v ⟨op, d, a, b, rel, lo, hi, to⟩, .int .i64 procs, .int .i64 size] w fun e w' => e = .returned (.bool false) ∧ Grew w w' := by
  have CI : Hid (∀ w, Calls Tryz.prog 69 #[.int .i64 op, .int .i64 1, .int .i64 12] w fun e w' => e = .returned (.bool true) ∧ w = w') := Lib.hid (fun w => bool_is (l1In op 1 12 w) hI)
  have CD : Hid (∀ w, Calls Tryz.prog 69 #[.int .i64 d, .int .i64 0, .int .i64 3] w fun e w' => e = .returned (.bool false) ∧ w = w') := Lib.hid (fun w => bool_is (l1In d 0 3 w) hD)
  have CF : Hid (∀ w, Calls Tryz.prog 147 #[Ins.v ⟨op, d, a, b, rel, lo, hi, to⟩] w fun e w' => e = .returned (.agg #[.int .i64 0, .int .i64 0, .int .i64 0, .int .i64 0, .int .i64 0, .int .i64 0, .int .i64 0, .int .i64 0]) ∧ Grew w w') := Lib.hid (fun w => by
    have := l3Form ⟨op, d, a, b, rel, lo, hi, to⟩ w h1 h2
    rw [hf] at this
    exact this)
  clear hI hD hf h1 h2
  have hz : insEqB ⟨0, 0, 0, 0, 0, 0, 0, 0⟩ ⟨0, 0, 0, 0, 0, 0, 0, 0⟩ = true := rfl
  go_enter Tryz.func113, Tryz.ntmps113
  go_wp2_with fail
  refine wp_region_ext (by kernel_rfl) (by kernel_rfl) ?_
  repeat (go_big_quiet_step ((first | (with_reducible exact ext_same (CI.out _)) | (with_reducible exact ext_same (CD.out _)) | (with_reducible exact ext_grow (CF.out _)))))
  refine wpQuiet_nil ?_
  intro _ hw'
  obtain ⟨x, hw''⟩ := hw'
  subst hw''
  have HX := Lib.hid (ext_grew _ x)
  go_wp2
  go_ret
  exact ⟨rfl, (Below.trans (by go_grown) (Below.mono HX.out (by simp; omega)))⟩

set_option maxRecDepth 100000 in
set_option maxHeartbeats 4000000 in
theorem specInsOkA (op d a b rel lo hi to procs size : Int) (w : World) (hI : (decide (1 ≤ op) && decide (op ≤ 12)) = true) (h1 : 1 ≤ op) (h2 : op ≤ 12) (hf : formV ⟨op, d, a, b, rel, lo, hi, to⟩ = ⟨0, 0, 0, 0, 0, 0, 0, 0⟩) (hD : varB d = true) (hA : varB a = false) :
    Calls Tryz.prog 113 #[Ins.v ⟨op, d, a, b, rel, lo, hi, to⟩, .int .i64 procs, .int .i64 size] w fun e w' => e = .returned (.bool false) ∧ Grew w w' := by
  have CI : Hid (∀ w, Calls Tryz.prog 69 #[.int .i64 op, .int .i64 1, .int .i64 12] w fun e w' => e = .returned (.bool true) ∧ w = w') := Lib.hid (fun w => bool_is (l1In op 1 12 w) hI)
  have CD : Hid (∀ w, Calls Tryz.prog 69 #[.int .i64 d, .int .i64 0, .int .i64 3] w fun e w' => e = .returned (.bool true) ∧ w = w') := Lib.hid (fun w => bool_is (l1In d 0 3 w) hD)
  have CA : Hid (∀ w, Calls Tryz.prog 69 #[.int .i64 a, .int .i64 0, .int .i64 3] w fun e w' => e = .returned (.bool false) ∧ w = w') := Lib.hid (fun w => bool_is (l1In a 0 3 w) hA)
  have CF : Hid (∀ w, Calls Tryz.prog 147 #[Ins.v ⟨op, d, a, b, rel, lo, hi, to⟩] w fun e w' => e = .returned (.agg #[.int .i64 0, .int .i64 0, .int .i64 0, .int .i64 0, .int .i64 0, .int .i64 0, .int .i64 0, .int .i64 0]) ∧ Grew w w') := Lib.hid (fun w => by
    have := l3Form ⟨op, d, a, b, rel, lo, hi, to⟩ w h1 h2
    rw [hf] at this
    exact this)
  clear hI hD hA hf h1 h2
  have hz : insEqB ⟨0, 0, 0, 0, 0, 0, 0, 0⟩ ⟨0, 0, 0, 0, 0, 0, 0, 0⟩ = true := rfl
  go_enter Tryz.func113, Tryz.ntmps113
  go_wp2_with fail
  refine wp_region_ext (by kernel_rfl) (by kernel_rfl) ?_
  repeat (go_big_quiet_step ((first | (with_reducible exact ext_same (CI.out _)) | (with_reducible exact ext_same (CD.out _)) | (with_reducible exact ext_same (CA.out _)) | (with_reducible exact ext_grow (CF.out _)))))
  refine wpQuiet_nil ?_
  intro _ hw'
  obtain ⟨x, hw''⟩ := hw'
  subst hw''
  have HX := Lib.hid (ext_grew _ x)
  go_wp2
  go_ret
  exact ⟨rfl, (Below.trans (by go_grown) (Below.mono HX.out (by simp; omega)))⟩

set_option maxRecDepth 100000 in
set_option maxHeartbeats 4000000 in
theorem specInsOkB (op d a b rel lo hi to procs size : Int) (w : World) (hI : (decide (1 ≤ op) && decide (op ≤ 12)) = true) (h1 : 1 ≤ op) (h2 : op ≤ 12) (hf : formV ⟨op, d, a, b, rel, lo, hi, to⟩ = ⟨0, 0, 0, 0, 0, 0, 0, 0⟩) (hD : varB d = true) (hA : varB a = true) (hB : varB b = false) :
    Calls Tryz.prog 113 #[Ins.v ⟨op, d, a, b, rel, lo, hi, to⟩, .int .i64 procs, .int .i64 size] w fun e w' => e = .returned (.bool false) ∧ Grew w w' := by
  have CI : Hid (∀ w, Calls Tryz.prog 69 #[.int .i64 op, .int .i64 1, .int .i64 12] w fun e w' => e = .returned (.bool true) ∧ w = w') := Lib.hid (fun w => bool_is (l1In op 1 12 w) hI)
  have CD : Hid (∀ w, Calls Tryz.prog 69 #[.int .i64 d, .int .i64 0, .int .i64 3] w fun e w' => e = .returned (.bool true) ∧ w = w') := Lib.hid (fun w => bool_is (l1In d 0 3 w) hD)
  have CA : Hid (∀ w, Calls Tryz.prog 69 #[.int .i64 a, .int .i64 0, .int .i64 3] w fun e w' => e = .returned (.bool true) ∧ w = w') := Lib.hid (fun w => bool_is (l1In a 0 3 w) hA)
  have CB : Hid (∀ w, Calls Tryz.prog 69 #[.int .i64 b, .int .i64 0, .int .i64 3] w fun e w' => e = .returned (.bool false) ∧ w = w') := Lib.hid (fun w => bool_is (l1In b 0 3 w) hB)
  have CF : Hid (∀ w, Calls Tryz.prog 147 #[Ins.v ⟨op, d, a, b, rel, lo, hi, to⟩] w fun e w' => e = .returned (.agg #[.int .i64 0, .int .i64 0, .int .i64 0, .int .i64 0, .int .i64 0, .int .i64 0, .int .i64 0, .int .i64 0]) ∧ Grew w w') := Lib.hid (fun w => by
    have := l3Form ⟨op, d, a, b, rel, lo, hi, to⟩ w h1 h2
    rw [hf] at this
    exact this)
  clear hI hD hA hB hf h1 h2
  have hz : insEqB ⟨0, 0, 0, 0, 0, 0, 0, 0⟩ ⟨0, 0, 0, 0, 0, 0, 0, 0⟩ = true := rfl
  go_enter Tryz.func113, Tryz.ntmps113
  go_wp2_with fail
  refine wp_region_ext (by kernel_rfl) (by kernel_rfl) ?_
  repeat (go_big_quiet_step ((first | (with_reducible exact ext_same (CI.out _)) | (with_reducible exact ext_same (CD.out _)) | (with_reducible exact ext_same (CA.out _)) | (with_reducible exact ext_same (CB.out _)) | (with_reducible exact ext_grow (CF.out _)))))
  refine wpQuiet_nil ?_
  intro _ hw'
  obtain ⟨x, hw''⟩ := hw'
  subst hw''
  have HX := Lib.hid (ext_grew _ x)
  go_wp2
  go_ret
  exact ⟨rfl, (Below.trans (by go_grown) (Below.mono HX.out (by simp; omega)))⟩

set_option maxRecDepth 100000 in
set_option maxHeartbeats 4000000 in
theorem specInsOkT5 (d a b rel lo hi to procs size : Int) (w : World) (hI : (decide (1 ≤ (5 : Int)) && decide ((5 : Int) ≤ 12)) = true) (h1 : 1 ≤ (5 : Int)) (h2 : (5 : Int) ≤ 12) (hf : formV ⟨(5 : Int), d, a, b, rel, lo, hi, to⟩ = ⟨0, 0, 0, 0, 0, 0, 0, 0⟩) (hD : varB d = true) (hA : varB a = true) (hB : varB b = true) :
    Calls Tryz.prog 113 #[Ins.v ⟨(5 : Int), d, a, b, rel, lo, hi, to⟩, .int .i64 procs, .int .i64 size] w fun e w' => e = .returned (.bool (tailB ⟨(5 : Int), d, a, b, rel, lo, hi, to⟩ procs size)) ∧ Grew w w' := by
  have CI : Hid (∀ w, Calls Tryz.prog 69 #[.int .i64 (5 : Int), .int .i64 1, .int .i64 12] w fun e w' => e = .returned (.bool true) ∧ w = w') := Lib.hid (fun w => bool_is (l1In (5 : Int) 1 12 w) hI)
  have CD : Hid (∀ w, Calls Tryz.prog 69 #[.int .i64 d, .int .i64 0, .int .i64 3] w fun e w' => e = .returned (.bool true) ∧ w = w') := Lib.hid (fun w => bool_is (l1In d 0 3 w) hD)
  have CA : Hid (∀ w, Calls Tryz.prog 69 #[.int .i64 a, .int .i64 0, .int .i64 3] w fun e w' => e = .returned (.bool true) ∧ w = w') := Lib.hid (fun w => bool_is (l1In a 0 3 w) hA)
  have CB : Hid (∀ w, Calls Tryz.prog 69 #[.int .i64 b, .int .i64 0, .int .i64 3] w fun e w' => e = .returned (.bool true) ∧ w = w') := Lib.hid (fun w => bool_is (l1In b 0 3 w) hB)
  have CF : Hid (∀ w, Calls Tryz.prog 147 #[Ins.v ⟨(5 : Int), d, a, b, rel, lo, hi, to⟩] w fun e w' => e = .returned (.agg #[.int .i64 0, .int .i64 0, .int .i64 0, .int .i64 0, .int .i64 0, .int .i64 0, .int .i64 0, .int .i64 0]) ∧ Grew w w') := Lib.hid (fun w => by
    have := l3Form ⟨(5 : Int), d, a, b, rel, lo, hi, to⟩ w h1 h2
    rw [hf] at this
    exact this)
  clear hI hD hA hB hf h1 h2
  have hz : insEqB ⟨0, 0, 0, 0, 0, 0, 0, 0⟩ ⟨0, 0, 0, 0, 0, 0, 0, 0⟩ = true := rfl
  go_enter Tryz.func113, Tryz.ntmps113
  go_wp2_with fail
  refine wp_region_ext (by kernel_rfl) (by kernel_rfl) ?_
  repeat (go_big_quiet_step ((first | (with_reducible exact ext_same (CI.out _)) | (with_reducible exact ext_same (CD.out _)) | (with_reducible exact ext_same (CA.out _)) | (with_reducible exact ext_same (CB.out _)) | (with_reducible exact ext_grow (CF.out _)))))
  refine wpQuiet_nil ?_
  intro _ hw'
  obtain ⟨x, hw''⟩ := hw'
  subst hw''
  have HX := Lib.hid (ext_grew _ x)
  go_wp2_with (first | fail | ((go_at_call_of 112 (Value.int .i64 lo)); (with_reducible refine (specNumOk _ _).mono ?_); rintro e w1 ⟨rfl, rfl⟩) | ((go_at_call_of 112 (Value.int .i64 hi)); (with_reducible refine (specNumOk _ _).mono ?_); rintro e w1 ⟨rfl, rfl⟩))
  all_goals
    go_ret
    exact ⟨by simp [tailB, itvOkB, *]; try omega, (Below.trans (by go_grown) (Below.mono HX.out (by simp; omega)))⟩

set_option maxRecDepth 100000 in
set_option maxHeartbeats 4000000 in
theorem specInsOkT8 (d a b rel lo hi to procs size : Int) (w : World) (hI : (decide (1 ≤ (8 : Int)) && decide ((8 : Int) ≤ 12)) = true) (h1 : 1 ≤ (8 : Int)) (h2 : (8 : Int) ≤ 12) (hf : formV ⟨(8 : Int), d, a, b, rel, lo, hi, to⟩ = ⟨0, 0, 0, 0, 0, 0, 0, 0⟩) (hD : varB d = true) (hA : varB a = true) (hB : varB b = true) :
    Calls Tryz.prog 113 #[Ins.v ⟨(8 : Int), d, a, b, rel, lo, hi, to⟩, .int .i64 procs, .int .i64 size] w fun e w' => e = .returned (.bool (tailB ⟨(8 : Int), d, a, b, rel, lo, hi, to⟩ procs size)) ∧ Grew w w' := by
  have CI : Hid (∀ w, Calls Tryz.prog 69 #[.int .i64 (8 : Int), .int .i64 1, .int .i64 12] w fun e w' => e = .returned (.bool true) ∧ w = w') := Lib.hid (fun w => bool_is (l1In (8 : Int) 1 12 w) hI)
  have CD : Hid (∀ w, Calls Tryz.prog 69 #[.int .i64 d, .int .i64 0, .int .i64 3] w fun e w' => e = .returned (.bool true) ∧ w = w') := Lib.hid (fun w => bool_is (l1In d 0 3 w) hD)
  have CA : Hid (∀ w, Calls Tryz.prog 69 #[.int .i64 a, .int .i64 0, .int .i64 3] w fun e w' => e = .returned (.bool true) ∧ w = w') := Lib.hid (fun w => bool_is (l1In a 0 3 w) hA)
  have CB : Hid (∀ w, Calls Tryz.prog 69 #[.int .i64 b, .int .i64 0, .int .i64 3] w fun e w' => e = .returned (.bool true) ∧ w = w') := Lib.hid (fun w => bool_is (l1In b 0 3 w) hB)
  have CF : Hid (∀ w, Calls Tryz.prog 147 #[Ins.v ⟨(8 : Int), d, a, b, rel, lo, hi, to⟩] w fun e w' => e = .returned (.agg #[.int .i64 0, .int .i64 0, .int .i64 0, .int .i64 0, .int .i64 0, .int .i64 0, .int .i64 0, .int .i64 0]) ∧ Grew w w') := Lib.hid (fun w => by
    have := l3Form ⟨(8 : Int), d, a, b, rel, lo, hi, to⟩ w h1 h2
    rw [hf] at this
    exact this)
  clear hI hD hA hB hf h1 h2
  have hz : insEqB ⟨0, 0, 0, 0, 0, 0, 0, 0⟩ ⟨0, 0, 0, 0, 0, 0, 0, 0⟩ = true := rfl
  go_enter Tryz.func113, Tryz.ntmps113
  go_wp2_with fail
  refine wp_region_ext (by kernel_rfl) (by kernel_rfl) ?_
  repeat (go_big_quiet_step ((first | (with_reducible exact ext_same (CI.out _)) | (with_reducible exact ext_same (CD.out _)) | (with_reducible exact ext_same (CA.out _)) | (with_reducible exact ext_same (CB.out _)) | (with_reducible exact ext_grow (CF.out _)))))
  refine wpQuiet_nil ?_
  intro _ hw'
  obtain ⟨x, hw''⟩ := hw'
  subst hw''
  have HX := Lib.hid (ext_grew _ x)
  go_wp2_with (first | fail | ((with_reducible refine (l1In _ _ _ _).mono ?_); rintro e w1 ⟨rfl, rfl⟩))
  all_goals
    go_ret
    exact ⟨by simp [tailB, *]; try omega, (Below.trans (by go_grown) (Below.mono HX.out (by simp; omega)))⟩

set_option maxRecDepth 100000 in
set_option maxHeartbeats 4000000 in
theorem specInsOkT9 (d a b rel lo hi to procs size : Int) (w : World) (hI : (decide (1 ≤ (9 : Int)) && decide ((9 : Int) ≤ 12)) = true) (h1 : 1 ≤ (9 : Int)) (h2 : (9 : Int) ≤ 12) (hf : formV ⟨(9 : Int), d, a, b, rel, lo, hi, to⟩ = ⟨0, 0, 0, 0, 0, 0, 0, 0⟩) (hD : varB d = true) (hA : varB a = true) (hB : varB b = true) :
    Calls Tryz.prog 113 #[Ins.v ⟨(9 : Int), d, a, b, rel, lo, hi, to⟩, .int .i64 procs, .int .i64 size] w fun e w' => e = .returned (.bool (tailB ⟨(9 : Int), d, a, b, rel, lo, hi, to⟩ procs size)) ∧ Grew w w' := by
  have CI : Hid (∀ w, Calls Tryz.prog 69 #[.int .i64 (9 : Int), .int .i64 1, .int .i64 12] w fun e w' => e = .returned (.bool true) ∧ w = w') := Lib.hid (fun w => bool_is (l1In (9 : Int) 1 12 w) hI)
  have CD : Hid (∀ w, Calls Tryz.prog 69 #[.int .i64 d, .int .i64 0, .int .i64 3] w fun e w' => e = .returned (.bool true) ∧ w = w') := Lib.hid (fun w => bool_is (l1In d 0 3 w) hD)
  have CA : Hid (∀ w, Calls Tryz.prog 69 #[.int .i64 a, .int .i64 0, .int .i64 3] w fun e w' => e = .returned (.bool true) ∧ w = w') := Lib.hid (fun w => bool_is (l1In a 0 3 w) hA)
  have CB : Hid (∀ w, Calls Tryz.prog 69 #[.int .i64 b, .int .i64 0, .int .i64 3] w fun e w' => e = .returned (.bool true) ∧ w = w') := Lib.hid (fun w => bool_is (l1In b 0 3 w) hB)
  have CF : Hid (∀ w, Calls Tryz.prog 147 #[Ins.v ⟨(9 : Int), d, a, b, rel, lo, hi, to⟩] w fun e w' => e = .returned (.agg #[.int .i64 0, .int .i64 0, .int .i64 0, .int .i64 0, .int .i64 0, .int .i64 0, .int .i64 0, .int .i64 0]) ∧ Grew w w') := Lib.hid (fun w => by
    have := l3Form ⟨(9 : Int), d, a, b, rel, lo, hi, to⟩ w h1 h2
    rw [hf] at this
    exact this)
  clear hI hD hA hB hf h1 h2
  have hz : insEqB ⟨0, 0, 0, 0, 0, 0, 0, 0⟩ ⟨0, 0, 0, 0, 0, 0, 0, 0⟩ = true := rfl
  go_enter Tryz.func113, Tryz.ntmps113
  go_wp2_with fail
  refine wp_region_ext (by kernel_rfl) (by kernel_rfl) ?_
  repeat (go_big_quiet_step ((first | (with_reducible exact ext_same (CI.out _)) | (with_reducible exact ext_same (CD.out _)) | (with_reducible exact ext_same (CA.out _)) | (with_reducible exact ext_same (CB.out _)) | (with_reducible exact ext_grow (CF.out _)))))
  refine wpQuiet_nil ?_
  intro _ hw'
  obtain ⟨x, hw''⟩ := hw'
  subst hw''
  have HX := Lib.hid (ext_grew _ x)
  go_wp2_with (first | fail | fail)
  all_goals
    go_ret
    exact ⟨by simp [tailB, *]; try omega, (Below.trans (by go_grown) (Below.mono HX.out (by simp; omega)))⟩

set_option maxRecDepth 100000 in
set_option maxHeartbeats 4000000 in
theorem specInsOkT10 (d a b rel lo hi to procs size : Int) (w : World) (hI : (decide (1 ≤ (10 : Int)) && decide ((10 : Int) ≤ 12)) = true) (h1 : 1 ≤ (10 : Int)) (h2 : (10 : Int) ≤ 12) (hf : formV ⟨(10 : Int), d, a, b, rel, lo, hi, to⟩ = ⟨0, 0, 0, 0, 0, 0, 0, 0⟩) (hD : varB d = true) (hA : varB a = true) (hB : varB b = true) :
    Calls Tryz.prog 113 #[Ins.v ⟨(10 : Int), d, a, b, rel, lo, hi, to⟩, .int .i64 procs, .int .i64 size] w fun e w' => e = .returned (.bool (tailB ⟨(10 : Int), d, a, b, rel, lo, hi, to⟩ procs size)) ∧ Grew w w' := by
  have CI : Hid (∀ w, Calls Tryz.prog 69 #[.int .i64 (10 : Int), .int .i64 1, .int .i64 12] w fun e w' => e = .returned (.bool true) ∧ w = w') := Lib.hid (fun w => bool_is (l1In (10 : Int) 1 12 w) hI)
  have CD : Hid (∀ w, Calls Tryz.prog 69 #[.int .i64 d, .int .i64 0, .int .i64 3] w fun e w' => e = .returned (.bool true) ∧ w = w') := Lib.hid (fun w => bool_is (l1In d 0 3 w) hD)
  have CA : Hid (∀ w, Calls Tryz.prog 69 #[.int .i64 a, .int .i64 0, .int .i64 3] w fun e w' => e = .returned (.bool true) ∧ w = w') := Lib.hid (fun w => bool_is (l1In a 0 3 w) hA)
  have CB : Hid (∀ w, Calls Tryz.prog 69 #[.int .i64 b, .int .i64 0, .int .i64 3] w fun e w' => e = .returned (.bool true) ∧ w = w') := Lib.hid (fun w => bool_is (l1In b 0 3 w) hB)
  have CF : Hid (∀ w, Calls Tryz.prog 147 #[Ins.v ⟨(10 : Int), d, a, b, rel, lo, hi, to⟩] w fun e w' => e = .returned (.agg #[.int .i64 0, .int .i64 0, .int .i64 0, .int .i64 0, .int .i64 0, .int .i64 0, .int .i64 0, .int .i64 0]) ∧ Grew w w') := Lib.hid (fun w => by
    have := l3Form ⟨(10 : Int), d, a, b, rel, lo, hi, to⟩ w h1 h2
    rw [hf] at this
    exact this)
  clear hI hD hA hB hf h1 h2
  have hz : insEqB ⟨0, 0, 0, 0, 0, 0, 0, 0⟩ ⟨0, 0, 0, 0, 0, 0, 0, 0⟩ = true := rfl
  go_enter Tryz.func113, Tryz.ntmps113
  go_wp2_with fail
  refine wp_region_ext (by kernel_rfl) (by kernel_rfl) ?_
  repeat (go_big_quiet_step ((first | (with_reducible exact ext_same (CI.out _)) | (with_reducible exact ext_same (CD.out _)) | (with_reducible exact ext_same (CA.out _)) | (with_reducible exact ext_same (CB.out _)) | (with_reducible exact ext_grow (CF.out _)))))
  refine wpQuiet_nil ?_
  intro _ hw'
  obtain ⟨x, hw''⟩ := hw'
  subst hw''
  have HX := Lib.hid (ext_grew _ x)
  go_wp2_with (first | fail | fail)
  all_goals
    go_ret
    exact ⟨by simp [tailB, *]; try omega, (Below.trans (by go_grown) (Below.mono HX.out (by simp; omega)))⟩

set_option maxRecDepth 100000 in
set_option maxHeartbeats 4000000 in
theorem specInsOkT11 (d a b rel lo hi to procs size : Int) (w : World) (hI : (decide (1 ≤ (11 : Int)) && decide ((11 : Int) ≤ 12)) = true) (h1 : 1 ≤ (11 : Int)) (h2 : (11 : Int) ≤ 12) (hf : formV ⟨(11 : Int), d, a, b, rel, lo, hi, to⟩ = ⟨0, 0, 0, 0, 0, 0, 0, 0⟩) (hD : varB d = true) (hA : varB a = true) (hB : varB b = true) :
    Calls Tryz.prog 113 #[Ins.v ⟨(11 : Int), d, a, b, rel, lo, hi, to⟩, .int .i64 procs, .int .i64 size] w fun e w' => e = .returned (.bool (tailB ⟨(11 : Int), d, a, b, rel, lo, hi, to⟩ procs size)) ∧ Grew w w' := by
  have CI : Hid (∀ w, Calls Tryz.prog 69 #[.int .i64 (11 : Int), .int .i64 1, .int .i64 12] w fun e w' => e = .returned (.bool true) ∧ w = w') := Lib.hid (fun w => bool_is (l1In (11 : Int) 1 12 w) hI)
  have CD : Hid (∀ w, Calls Tryz.prog 69 #[.int .i64 d, .int .i64 0, .int .i64 3] w fun e w' => e = .returned (.bool true) ∧ w = w') := Lib.hid (fun w => bool_is (l1In d 0 3 w) hD)
  have CA : Hid (∀ w, Calls Tryz.prog 69 #[.int .i64 a, .int .i64 0, .int .i64 3] w fun e w' => e = .returned (.bool true) ∧ w = w') := Lib.hid (fun w => bool_is (l1In a 0 3 w) hA)
  have CB : Hid (∀ w, Calls Tryz.prog 69 #[.int .i64 b, .int .i64 0, .int .i64 3] w fun e w' => e = .returned (.bool true) ∧ w = w') := Lib.hid (fun w => bool_is (l1In b 0 3 w) hB)
  have CF : Hid (∀ w, Calls Tryz.prog 147 #[Ins.v ⟨(11 : Int), d, a, b, rel, lo, hi, to⟩] w fun e w' => e = .returned (.agg #[.int .i64 0, .int .i64 0, .int .i64 0, .int .i64 0, .int .i64 0, .int .i64 0, .int .i64 0, .int .i64 0]) ∧ Grew w w') := Lib.hid (fun w => by
    have := l3Form ⟨(11 : Int), d, a, b, rel, lo, hi, to⟩ w h1 h2
    rw [hf] at this
    exact this)
  clear hI hD hA hB hf h1 h2
  have hz : insEqB ⟨0, 0, 0, 0, 0, 0, 0, 0⟩ ⟨0, 0, 0, 0, 0, 0, 0, 0⟩ = true := rfl
  go_enter Tryz.func113, Tryz.ntmps113
  go_wp2_with fail
  refine wp_region_ext (by kernel_rfl) (by kernel_rfl) ?_
  repeat (go_big_quiet_step ((first | (with_reducible exact ext_same (CI.out _)) | (with_reducible exact ext_same (CD.out _)) | (with_reducible exact ext_same (CA.out _)) | (with_reducible exact ext_same (CB.out _)) | (with_reducible exact ext_grow (CF.out _)))))
  refine wpQuiet_nil ?_
  intro _ hw'
  obtain ⟨x, hw''⟩ := hw'
  subst hw''
  have HX := Lib.hid (ext_grew _ x)
  go_wp2_with (first | fail | ((with_reducible refine (l1In _ _ _ _).mono ?_); rintro e w1 ⟨rfl, rfl⟩))
  all_goals
    go_ret
    exact ⟨by simp [tailB, *]; try omega, (Below.trans (by go_grown) (Below.mono HX.out (by simp; omega)))⟩

set_option maxRecDepth 100000 in
set_option maxHeartbeats 4000000 in
theorem specInsOkT0 (op d a b rel lo hi to procs size : Int) (w : World) (hI : (decide (1 ≤ op) && decide (op ≤ 12)) = true) (h1 : 1 ≤ op) (h2 : op ≤ 12) (hf : formV ⟨op, d, a, b, rel, lo, hi, to⟩ = ⟨0, 0, 0, 0, 0, 0, 0, 0⟩) (hD : varB d = true) (hA : varB a = true) (hB : varB b = true) (ho : op ≠ 5 ∧ op ≠ 8 ∧ op ≠ 9 ∧ op ≠ 10 ∧ op ≠ 11) :
    Calls Tryz.prog 113 #[Ins.v ⟨op, d, a, b, rel, lo, hi, to⟩, .int .i64 procs, .int .i64 size] w fun e w' => e = .returned (.bool (tailB ⟨op, d, a, b, rel, lo, hi, to⟩ procs size)) ∧ Grew w w' := by
  have CI : Hid (∀ w, Calls Tryz.prog 69 #[.int .i64 op, .int .i64 1, .int .i64 12] w fun e w' => e = .returned (.bool true) ∧ w = w') := Lib.hid (fun w => bool_is (l1In op 1 12 w) hI)
  have CD : Hid (∀ w, Calls Tryz.prog 69 #[.int .i64 d, .int .i64 0, .int .i64 3] w fun e w' => e = .returned (.bool true) ∧ w = w') := Lib.hid (fun w => bool_is (l1In d 0 3 w) hD)
  have CA : Hid (∀ w, Calls Tryz.prog 69 #[.int .i64 a, .int .i64 0, .int .i64 3] w fun e w' => e = .returned (.bool true) ∧ w = w') := Lib.hid (fun w => bool_is (l1In a 0 3 w) hA)
  have CB : Hid (∀ w, Calls Tryz.prog 69 #[.int .i64 b, .int .i64 0, .int .i64 3] w fun e w' => e = .returned (.bool true) ∧ w = w') := Lib.hid (fun w => bool_is (l1In b 0 3 w) hB)
  have CF : Hid (∀ w, Calls Tryz.prog 147 #[Ins.v ⟨op, d, a, b, rel, lo, hi, to⟩] w fun e w' => e = .returned (.agg #[.int .i64 0, .int .i64 0, .int .i64 0, .int .i64 0, .int .i64 0, .int .i64 0, .int .i64 0, .int .i64 0]) ∧ Grew w w') := Lib.hid (fun w => by
    have := l3Form ⟨op, d, a, b, rel, lo, hi, to⟩ w h1 h2
    rw [hf] at this
    exact this)
  clear hI hD hA hB hf h1 h2
  have hz : insEqB ⟨0, 0, 0, 0, 0, 0, 0, 0⟩ ⟨0, 0, 0, 0, 0, 0, 0, 0⟩ = true := rfl
  have HT : Hid (tailB ⟨op, d, a, b, rel, lo, hi, to⟩ procs size = true) := Lib.hid (by simp [tailB, ho])
  obtain ⟨n5, n8, n9, n10, n11⟩ := ho
  have m5 : (op == 5) = false := by simpa using n5
  have m8 : (op == 8) = false := by simpa using n8
  have m9 : (op == 9) = false := by simpa using n9
  have m10 : (op == 10) = false := by simpa using n10
  have m11 : (op == 11) = false := by simpa using n11
  clear n5 n8 n9 n10 n11
  go_enter Tryz.func113, Tryz.ntmps113
  go_wp2_with fail
  refine wp_region_ext (by kernel_rfl) (by kernel_rfl) ?_
  repeat (go_big_quiet_step ((first | (with_reducible exact ext_same (CI.out _)) | (with_reducible exact ext_same (CD.out _)) | (with_reducible exact ext_same (CA.out _)) | (with_reducible exact ext_same (CB.out _)) | (with_reducible exact ext_grow (CF.out _)))))
  refine wpQuiet_nil ?_
  intro _ hw'
  obtain ⟨x, hw''⟩ := hw'
  subst hw''
  have HX := Lib.hid (ext_grew _ x)
  go_wp2
  go_ret
  exact ⟨by rw [HT.out]; rfl, (Below.trans (by go_grown) (Below.mono HX.out (by simp; omega)))⟩

theorem specInsOk (i : Ins) (procs size : Int) (w : World) :
    Calls Tryz.prog 113 #[i.v, .int .i64 procs, .int .i64 size] w fun e w' => e = .returned (.bool (insOkB i procs size)) ∧ Grew w w' := by
  obtain ⟨op, d, a, b, rel, lo, hi, to⟩ := i
  cases hI : (decide (1 ≤ op) && decide (op ≤ 12))
  · rw [show insOkB ⟨op, d, a, b, rel, lo, hi, to⟩ procs size = false from by simp only [insOkB, headB, hI, Bool.false_and]]
    exact specInsOkI _ _ _ _ _ _ _ _ _ _ _ hI
  have hop : 1 ≤ op ∧ op ≤ 12 := by simpa using hI
  cases hf : decide (formV ⟨op, d, a, b, rel, lo, hi, to⟩ = ⟨0, 0, 0, 0, 0, 0, 0, 0⟩)
  · rw [show insOkB ⟨op, d, a, b, rel, lo, hi, to⟩ procs size = false from by simp only [insOkB, headB, hf, Bool.false_and, Bool.and_false]]
    obtain ⟨⟨op2, d2, a2, b2, rel2, lo2, hi2, to2⟩, hv⟩ : ∃ v, formV ⟨op, d, a, b, rel, lo, hi, to⟩ = v := ⟨_, rfl⟩
    refine specInsOkF _ _ _ _ _ _ _ _ _ _ _ hI hop.1 hop.2 _ _ _ _ _ _ _ _ hv ?_
    rw [hv] at hf
    exact hf
  have hf := of_decide_eq_true hf
  cases hD : varB d
  · rw [show insOkB ⟨op, d, a, b, rel, lo, hi, to⟩ procs size = false from by simp only [insOkB, headB, hD, Bool.false_and, Bool.and_false]]
    exact specInsOkD _ _ _ _ _ _ _ _ _ _ _ hI hop.1 hop.2 hf hD
  cases hA : varB a
  · rw [show insOkB ⟨op, d, a, b, rel, lo, hi, to⟩ procs size = false from by simp only [insOkB, headB, hA, Bool.false_and, Bool.and_false]]
    exact specInsOkA _ _ _ _ _ _ _ _ _ _ _ hI hop.1 hop.2 hf hD hA
  cases hB : varB b
  · rw [show insOkB ⟨op, d, a, b, rel, lo, hi, to⟩ procs size = false from by simp only [insOkB, headB, hB, Bool.false_and, Bool.and_false]]
    exact specInsOkB _ _ _ _ _ _ _ _ _ _ _ hI hop.1 hop.2 hf hD hA hB
  rw [show insOkB ⟨op, d, a, b, rel, lo, hi, to⟩ procs size = tailB ⟨op, d, a, b, rel, lo, hi, to⟩ procs size from by simp only [insOkB, headB, hI, hf, hD, hA, hB, Bool.true_and, decide_true]]
  by_cases h5 : op = 5
  · subst h5; exact specInsOkT5 _ _ _ _ _ _ _ _ _ _ hI hop.1 hop.2 hf hD hA hB
  by_cases h8 : op = 8
  · subst h8; exact specInsOkT8 _ _ _ _ _ _ _ _ _ _ hI hop.1 hop.2 hf hD hA hB
  by_cases h9 : op = 9
  · subst h9; exact specInsOkT9 _ _ _ _ _ _ _ _ _ _ hI hop.1 hop.2 hf hD hA hB
  by_cases h10 : op = 10
  · subst h10; exact specInsOkT10 _ _ _ _ _ _ _ _ _ _ hI hop.1 hop.2 hf hD hA hB
  by_cases h11 : op = 11
  · subst h11; exact specInsOkT11 _ _ _ _ _ _ _ _ _ _ hI hop.1 hop.2 hf hD hA hB
  exact specInsOkT0 _ _ _ _ _ _ _ _ _ _ _ hI hop.1 hop.2 hf hD hA hB ⟨h5, h8, h9, h10, h11⟩
end Go.Proofs.YtdddhnepanjmfaaGreat
