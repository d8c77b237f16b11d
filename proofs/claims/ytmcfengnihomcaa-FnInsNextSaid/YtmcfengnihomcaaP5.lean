/- Lemmas and walks of this proof, several texts one behind the other. No condition. -/
import Derived.Test.YtmcfengnihomcaaP4
import Derived.Test.YtmcfengnihomcaaP1
import Derived.Outline
import Derived.Test.YtmcfengnihomcaaP3
set_option linter.unusedSimpArgs false
set_option linter.unusedVariables false
/- The program's InsOk is the reference's, and the walk of the law on it. No condition. -/
namespace Go.Proofs.Ytmcfengnihomcaa
open Go.RowKit
set_option linter.unusedVariables false
attribute [local go_sem] ext_cell ext_lt ext_le ext_le1

theorem insOkB_of {i : Ins} {procs size : Int} {q : Bool} (h : (decide (1 ≤ i.op) && decide (i.op ≤ 12)) = true) (hq : decide (formV i = ⟨0, 0, 0, 0, 0, 0, 0, 0⟩) = q) :
    insOkB i procs size = (q && (varB i.d && (varB i.a && varB i.b)) && tailB i procs size) := by
  simp only [insOkB, headB, h, hq, Bool.true_and]

theorem implInsOkArith (op d a b rel lo hi to procs size : Int) (w : World) (ho : op = 1 ∨ op = 2 ∨ op = 3 ∨ op = 4) :
    Calls Try.prog 66 #[Ins.v ⟨op, d, a, b, rel, lo, hi, to⟩, .int .i64 procs, .int .i64 size] w fun e w' => e = .returned (.bool (insOkB ⟨op, d, a, b, rel, lo, hi, to⟩ procs size)) ∧ Grew w w' := by
  have hr : (decide (1 ≤ op) && decide (op ≤ 12)) = true := by simp; omega
  have hf : decide (formV ⟨op, d, a, b, rel, lo, hi, to⟩ = ⟨0, 0, 0, 0, 0, 0, 0, 0⟩) = insEqB ⟨op, d, a, b, 0, 0, 0, 0⟩ ⟨op, d, a, b, rel, lo, hi, to⟩ := by
    rcases ho with rfl | rfl | rfl | rfl <;> simp [formV, insEqB, eq_comm]
  have CO := fun w => codeOf ⟨op, d, a, b, rel, lo, hi, to⟩ w
  have hcv : codeV ⟨op, d, a, b, rel, lo, hi, to⟩ = .iface 137 (.agg #[.int .i64 op, .int .i64 d, .int .i64 a, .int .i64 b]) := by simp [codeV, ho]
  rw [hcv] at CO
  rw [insOkB_of hr hf]
  cases hq : insEqB ⟨op, d, a, b, 0, 0, 0, 0⟩ ⟨op, d, a, b, rel, lo, hi, to⟩
  · exact implInsOkF 137 (.agg #[.int .i64 op, .int .i64 d, .int .i64 a, .int .i64 b]) 163 op d a b rel lo hi to procs size ⟨op, d, a, b, 0, 0, 0, 0⟩ w CO (fun n w => methArith n op d a b w) (fun args w => by kernel_rfl) (fun w => insArith op d a b w) hq
  simp only [Bool.true_and]
  cases hd : varB d
  · exact implInsOkD 137 (.agg #[.int .i64 op, .int .i64 d, .int .i64 a, .int .i64 b]) 163 op d a b rel lo hi to procs size ⟨op, d, a, b, 0, 0, 0, 0⟩ w CO (fun n w => methArith n op d a b w) (fun args w => by kernel_rfl) (fun w => insArith op d a b w) hq hd
  cases ha : varB a
  · exact implInsOkA 137 (.agg #[.int .i64 op, .int .i64 d, .int .i64 a, .int .i64 b]) 163 op d a b rel lo hi to procs size ⟨op, d, a, b, 0, 0, 0, 0⟩ w CO (fun n w => methArith n op d a b w) (fun args w => by kernel_rfl) (fun w => insArith op d a b w) hq hd ha
  cases hb : varB b
  · exact implInsOkB 137 (.agg #[.int .i64 op, .int .i64 d, .int .i64 a, .int .i64 b]) 163 op d a b rel lo hi to procs size ⟨op, d, a, b, 0, 0, 0, 0⟩ w CO (fun n w => methArith n op d a b w) (fun args w => by kernel_rfl) (fun w => insArith op d a b w) hq hd ha hb
  exact implInsOkTArith op d a b rel lo hi to procs size w ho hq hd ha hb

theorem implInsOkAny (d a b rel lo hi to procs size : Int) (w : World) :
    Calls Try.prog 66 #[Ins.v ⟨(5 : Int), d, a, b, rel, lo, hi, to⟩, .int .i64 procs, .int .i64 size] w fun e w' => e = .returned (.bool (insOkB ⟨(5 : Int), d, a, b, rel, lo, hi, to⟩ procs size)) ∧ Grew w w' := by
  have hr : (decide (1 ≤ (5 : Int)) && decide ((5 : Int) ≤ 12)) = true := rfl
  have hf : decide (formV ⟨(5 : Int), d, a, b, rel, lo, hi, to⟩ = ⟨0, 0, 0, 0, 0, 0, 0, 0⟩) = insEqB ⟨(5 : Int), d, 0, 0, 0, lo, hi, 0⟩ ⟨(5 : Int), d, a, b, rel, lo, hi, to⟩ := by
    simp [formV, insEqB, eq_comm]
  have CO := fun w => codeOf ⟨(5 : Int), d, a, b, rel, lo, hi, to⟩ w
  have hcv : codeV ⟨(5 : Int), d, a, b, rel, lo, hi, to⟩ = .iface 109 (.agg #[.int .i64 d, .int .i64 lo, .int .i64 hi]) := rfl
  rw [hcv] at CO
  rw [insOkB_of hr hf]
  cases hq : insEqB ⟨(5 : Int), d, 0, 0, 0, lo, hi, 0⟩ ⟨(5 : Int), d, a, b, rel, lo, hi, to⟩
  · exact implInsOkF 109 (.agg #[.int .i64 d, .int .i64 lo, .int .i64 hi]) 158 (5 : Int) d a b rel lo hi to procs size ⟨(5 : Int), d, 0, 0, 0, lo, hi, 0⟩ w CO (fun n w => methAny n d lo hi w) (fun args w => by kernel_rfl) (fun w => insAny d lo hi w) hq
  simp only [Bool.true_and]
  cases hd : varB d
  · exact implInsOkD 109 (.agg #[.int .i64 d, .int .i64 lo, .int .i64 hi]) 158 (5 : Int) d a b rel lo hi to procs size ⟨(5 : Int), d, 0, 0, 0, lo, hi, 0⟩ w CO (fun n w => methAny n d lo hi w) (fun args w => by kernel_rfl) (fun w => insAny d lo hi w) hq hd
  cases ha : varB a
  · exact implInsOkA 109 (.agg #[.int .i64 d, .int .i64 lo, .int .i64 hi]) 158 (5 : Int) d a b rel lo hi to procs size ⟨(5 : Int), d, 0, 0, 0, lo, hi, 0⟩ w CO (fun n w => methAny n d lo hi w) (fun args w => by kernel_rfl) (fun w => insAny d lo hi w) hq hd ha
  cases hb : varB b
  · exact implInsOkB 109 (.agg #[.int .i64 d, .int .i64 lo, .int .i64 hi]) 158 (5 : Int) d a b rel lo hi to procs size ⟨(5 : Int), d, 0, 0, 0, lo, hi, 0⟩ w CO (fun n w => methAny n d lo hi w) (fun args w => by kernel_rfl) (fun w => insAny d lo hi w) hq hd ha hb
  exact implInsOkTAny d a b rel lo hi to procs size w  hq hd ha hb

theorem implInsOkLoad (d a b rel lo hi to procs size : Int) (w : World) :
    Calls Try.prog 66 #[Ins.v ⟨(6 : Int), d, a, b, rel, lo, hi, to⟩, .int .i64 procs, .int .i64 size] w fun e w' => e = .returned (.bool (insOkB ⟨(6 : Int), d, a, b, rel, lo, hi, to⟩ procs size)) ∧ Grew w w' := by
  have hr : (decide (1 ≤ (6 : Int)) && decide ((6 : Int) ≤ 12)) = true := rfl
  have hf : decide (formV ⟨(6 : Int), d, a, b, rel, lo, hi, to⟩ = ⟨0, 0, 0, 0, 0, 0, 0, 0⟩) = insEqB ⟨(6 : Int), d, a, 0, 0, 0, 0, 0⟩ ⟨(6 : Int), d, a, b, rel, lo, hi, to⟩ := by
    simp [formV, insEqB, eq_comm]
  have CO := fun w => codeOf ⟨(6 : Int), d, a, b, rel, lo, hi, to⟩ w
  have hcv : codeV ⟨(6 : Int), d, a, b, rel, lo, hi, to⟩ = .iface 139 (.agg #[.int .i64 d, .int .i64 a]) := rfl
  rw [hcv] at CO
  rw [insOkB_of hr hf]
  cases hq : insEqB ⟨(6 : Int), d, a, 0, 0, 0, 0, 0⟩ ⟨(6 : Int), d, a, b, rel, lo, hi, to⟩
  · exact implInsOkF 139 (.agg #[.int .i64 d, .int .i64 a]) 164 (6 : Int) d a b rel lo hi to procs size ⟨(6 : Int), d, a, 0, 0, 0, 0, 0⟩ w CO (fun n w => methLoad n d a w) (fun args w => by kernel_rfl) (fun w => insLoad d a w) hq
  simp only [Bool.true_and]
  cases hd : varB d
  · exact implInsOkD 139 (.agg #[.int .i64 d, .int .i64 a]) 164 (6 : Int) d a b rel lo hi to procs size ⟨(6 : Int), d, a, 0, 0, 0, 0, 0⟩ w CO (fun n w => methLoad n d a w) (fun args w => by kernel_rfl) (fun w => insLoad d a w) hq hd
  cases ha : varB a
  · exact implInsOkA 139 (.agg #[.int .i64 d, .int .i64 a]) 164 (6 : Int) d a b rel lo hi to procs size ⟨(6 : Int), d, a, 0, 0, 0, 0, 0⟩ w CO (fun n w => methLoad n d a w) (fun args w => by kernel_rfl) (fun w => insLoad d a w) hq hd ha
  cases hb : varB b
  · exact implInsOkB 139 (.agg #[.int .i64 d, .int .i64 a]) 164 (6 : Int) d a b rel lo hi to procs size ⟨(6 : Int), d, a, 0, 0, 0, 0, 0⟩ w CO (fun n w => methLoad n d a w) (fun args w => by kernel_rfl) (fun w => insLoad d a w) hq hd ha hb
  exact implInsOkTLoad d a b rel lo hi to procs size w  hq hd ha hb

theorem implInsOkStore (d a b rel lo hi to procs size : Int) (w : World) :
    Calls Try.prog 66 #[Ins.v ⟨(7 : Int), d, a, b, rel, lo, hi, to⟩, .int .i64 procs, .int .i64 size] w fun e w' => e = .returned (.bool (insOkB ⟨(7 : Int), d, a, b, rel, lo, hi, to⟩ procs size)) ∧ Grew w w' := by
  have hr : (decide (1 ≤ (7 : Int)) && decide ((7 : Int) ≤ 12)) = true := rfl
  have hf : decide (formV ⟨(7 : Int), d, a, b, rel, lo, hi, to⟩ = ⟨0, 0, 0, 0, 0, 0, 0, 0⟩) = insEqB ⟨(7 : Int), 0, a, b, 0, 0, 0, 0⟩ ⟨(7 : Int), d, a, b, rel, lo, hi, to⟩ := by
    simp [formV, insEqB, eq_comm]
  have CO := fun w => codeOf ⟨(7 : Int), d, a, b, rel, lo, hi, to⟩ w
  have hcv : codeV ⟨(7 : Int), d, a, b, rel, lo, hi, to⟩ = .iface 141 (.agg #[.int .i64 a, .int .i64 b]) := rfl
  rw [hcv] at CO
  rw [insOkB_of hr hf]
  cases hq : insEqB ⟨(7 : Int), 0, a, b, 0, 0, 0, 0⟩ ⟨(7 : Int), d, a, b, rel, lo, hi, to⟩
  · exact implInsOkF 141 (.agg #[.int .i64 a, .int .i64 b]) 165 (7 : Int) d a b rel lo hi to procs size ⟨(7 : Int), 0, a, b, 0, 0, 0, 0⟩ w CO (fun n w => methStore n a b w) (fun args w => by kernel_rfl) (fun w => insStore a b w) hq
  simp only [Bool.true_and]
  cases hd : varB d
  · exact implInsOkD 141 (.agg #[.int .i64 a, .int .i64 b]) 165 (7 : Int) d a b rel lo hi to procs size ⟨(7 : Int), 0, a, b, 0, 0, 0, 0⟩ w CO (fun n w => methStore n a b w) (fun args w => by kernel_rfl) (fun w => insStore a b w) hq hd
  cases ha : varB a
  · exact implInsOkA 141 (.agg #[.int .i64 a, .int .i64 b]) 165 (7 : Int) d a b rel lo hi to procs size ⟨(7 : Int), 0, a, b, 0, 0, 0, 0⟩ w CO (fun n w => methStore n a b w) (fun args w => by kernel_rfl) (fun w => insStore a b w) hq hd ha
  cases hb : varB b
  · exact implInsOkB 141 (.agg #[.int .i64 a, .int .i64 b]) 165 (7 : Int) d a b rel lo hi to procs size ⟨(7 : Int), 0, a, b, 0, 0, 0, 0⟩ w CO (fun n w => methStore n a b w) (fun args w => by kernel_rfl) (fun w => insStore a b w) hq hd ha hb
  exact implInsOkTStore d a b rel lo hi to procs size w  hq hd ha hb

theorem implInsOkIf (d a b rel lo hi to procs size : Int) (w : World) :
    Calls Try.prog 66 #[Ins.v ⟨(8 : Int), d, a, b, rel, lo, hi, to⟩, .int .i64 procs, .int .i64 size] w fun e w' => e = .returned (.bool (insOkB ⟨(8 : Int), d, a, b, rel, lo, hi, to⟩ procs size)) ∧ Grew w w' := by
  have hr : (decide (1 ≤ (8 : Int)) && decide ((8 : Int) ≤ 12)) = true := rfl
  have hf : decide (formV ⟨(8 : Int), d, a, b, rel, lo, hi, to⟩ = ⟨0, 0, 0, 0, 0, 0, 0, 0⟩) = insEqB ⟨(8 : Int), 0, a, b, rel, 0, 0, to⟩ ⟨(8 : Int), d, a, b, rel, lo, hi, to⟩ := by
    simp [formV, insEqB, eq_comm]
  have CO := fun w => codeOf ⟨(8 : Int), d, a, b, rel, lo, hi, to⟩ w
  have hcv : codeV ⟨(8 : Int), d, a, b, rel, lo, hi, to⟩ = .iface 114 (.agg #[.int .i64 rel, .int .i64 a, .int .i64 b, .int .i64 to]) := rfl
  rw [hcv] at CO
  rw [insOkB_of hr hf]
  cases hq : insEqB ⟨(8 : Int), 0, a, b, rel, 0, 0, to⟩ ⟨(8 : Int), d, a, b, rel, lo, hi, to⟩
  · exact implInsOkF 114 (.agg #[.int .i64 rel, .int .i64 a, .int .i64 b, .int .i64 to]) 159 (8 : Int) d a b rel lo hi to procs size ⟨(8 : Int), 0, a, b, rel, 0, 0, to⟩ w CO (fun n w => methIf n rel a b to w) (fun args w => by kernel_rfl) (fun w => insIf rel a b to w) hq
  simp only [Bool.true_and]
  cases hd : varB d
  · exact implInsOkD 114 (.agg #[.int .i64 rel, .int .i64 a, .int .i64 b, .int .i64 to]) 159 (8 : Int) d a b rel lo hi to procs size ⟨(8 : Int), 0, a, b, rel, 0, 0, to⟩ w CO (fun n w => methIf n rel a b to w) (fun args w => by kernel_rfl) (fun w => insIf rel a b to w) hq hd
  cases ha : varB a
  · exact implInsOkA 114 (.agg #[.int .i64 rel, .int .i64 a, .int .i64 b, .int .i64 to]) 159 (8 : Int) d a b rel lo hi to procs size ⟨(8 : Int), 0, a, b, rel, 0, 0, to⟩ w CO (fun n w => methIf n rel a b to w) (fun args w => by kernel_rfl) (fun w => insIf rel a b to w) hq hd ha
  cases hb : varB b
  · exact implInsOkB 114 (.agg #[.int .i64 rel, .int .i64 a, .int .i64 b, .int .i64 to]) 159 (8 : Int) d a b rel lo hi to procs size ⟨(8 : Int), 0, a, b, rel, 0, 0, to⟩ w CO (fun n w => methIf n rel a b to w) (fun args w => by kernel_rfl) (fun w => insIf rel a b to w) hq hd ha hb
  exact implInsOkTIf d a b rel lo hi to procs size w  hq hd ha hb

theorem implInsOkJump (d a b rel lo hi to procs size : Int) (w : World) :
    Calls Try.prog 66 #[Ins.v ⟨(9 : Int), d, a, b, rel, lo, hi, to⟩, .int .i64 procs, .int .i64 size] w fun e w' => e = .returned (.bool (insOkB ⟨(9 : Int), d, a, b, rel, lo, hi, to⟩ procs size)) ∧ Grew w w' := by
  have hr : (decide (1 ≤ (9 : Int)) && decide ((9 : Int) ≤ 12)) = true := rfl
  have hf : decide (formV ⟨(9 : Int), d, a, b, rel, lo, hi, to⟩ = ⟨0, 0, 0, 0, 0, 0, 0, 0⟩) = insEqB ⟨(9 : Int), 0, 0, 0, 0, 0, 0, to⟩ ⟨(9 : Int), d, a, b, rel, lo, hi, to⟩ := by
    simp [formV, insEqB, eq_comm]
  have CO := fun w => codeOf ⟨(9 : Int), d, a, b, rel, lo, hi, to⟩ w
  have hcv : codeV ⟨(9 : Int), d, a, b, rel, lo, hi, to⟩ = .iface 116 (.agg #[.int .i64 to]) := rfl
  rw [hcv] at CO
  rw [insOkB_of hr hf]
  cases hq : insEqB ⟨(9 : Int), 0, 0, 0, 0, 0, 0, to⟩ ⟨(9 : Int), d, a, b, rel, lo, hi, to⟩
  · exact implInsOkF 116 (.agg #[.int .i64 to]) 160 (9 : Int) d a b rel lo hi to procs size ⟨(9 : Int), 0, 0, 0, 0, 0, 0, to⟩ w CO (fun n w => methJump n to w) (fun args w => by kernel_rfl) (fun w => insJump to w) hq
  simp only [Bool.true_and]
  cases hd : varB d
  · exact implInsOkD 116 (.agg #[.int .i64 to]) 160 (9 : Int) d a b rel lo hi to procs size ⟨(9 : Int), 0, 0, 0, 0, 0, 0, to⟩ w CO (fun n w => methJump n to w) (fun args w => by kernel_rfl) (fun w => insJump to w) hq hd
  cases ha : varB a
  · exact implInsOkA 116 (.agg #[.int .i64 to]) 160 (9 : Int) d a b rel lo hi to procs size ⟨(9 : Int), 0, 0, 0, 0, 0, 0, to⟩ w CO (fun n w => methJump n to w) (fun args w => by kernel_rfl) (fun w => insJump to w) hq hd ha
  cases hb : varB b
  · exact implInsOkB 116 (.agg #[.int .i64 to]) 160 (9 : Int) d a b rel lo hi to procs size ⟨(9 : Int), 0, 0, 0, 0, 0, 0, to⟩ w CO (fun n w => methJump n to w) (fun args w => by kernel_rfl) (fun w => insJump to w) hq hd ha hb
  exact implInsOkTJump d a b rel lo hi to procs size w  hq hd ha hb

theorem implInsOkCall (d a b rel lo hi to procs size : Int) (w : World) :
    Calls Try.prog 66 #[Ins.v ⟨(10 : Int), d, a, b, rel, lo, hi, to⟩, .int .i64 procs, .int .i64 size] w fun e w' => e = .returned (.bool (insOkB ⟨(10 : Int), d, a, b, rel, lo, hi, to⟩ procs size)) ∧ Grew w w' := by
  have hr : (decide (1 ≤ (10 : Int)) && decide ((10 : Int) ≤ 12)) = true := rfl
  have hf : decide (formV ⟨(10 : Int), d, a, b, rel, lo, hi, to⟩ = ⟨0, 0, 0, 0, 0, 0, 0, 0⟩) = insEqB ⟨(10 : Int), d, a, 0, 0, 0, 0, to⟩ ⟨(10 : Int), d, a, b, rel, lo, hi, to⟩ := by
    simp [formV, insEqB, eq_comm]
  have CO := fun w => codeOf ⟨(10 : Int), d, a, b, rel, lo, hi, to⟩ w
  have hcv : codeV ⟨(10 : Int), d, a, b, rel, lo, hi, to⟩ = .iface 118 (.agg #[.int .i64 d, .int .i64 a, .int .i64 to]) := rfl
  rw [hcv] at CO
  rw [insOkB_of hr hf]
  cases hq : insEqB ⟨(10 : Int), d, a, 0, 0, 0, 0, to⟩ ⟨(10 : Int), d, a, b, rel, lo, hi, to⟩
  · exact implInsOkF 118 (.agg #[.int .i64 d, .int .i64 a, .int .i64 to]) 161 (10 : Int) d a b rel lo hi to procs size ⟨(10 : Int), d, a, 0, 0, 0, 0, to⟩ w CO (fun n w => methCall n d a to w) (fun args w => by kernel_rfl) (fun w => insCall d a to w) hq
  simp only [Bool.true_and]
  cases hd : varB d
  · exact implInsOkD 118 (.agg #[.int .i64 d, .int .i64 a, .int .i64 to]) 161 (10 : Int) d a b rel lo hi to procs size ⟨(10 : Int), d, a, 0, 0, 0, 0, to⟩ w CO (fun n w => methCall n d a to w) (fun args w => by kernel_rfl) (fun w => insCall d a to w) hq hd
  cases ha : varB a
  · exact implInsOkA 118 (.agg #[.int .i64 d, .int .i64 a, .int .i64 to]) 161 (10 : Int) d a b rel lo hi to procs size ⟨(10 : Int), d, a, 0, 0, 0, 0, to⟩ w CO (fun n w => methCall n d a to w) (fun args w => by kernel_rfl) (fun w => insCall d a to w) hq hd ha
  cases hb : varB b
  · exact implInsOkB 118 (.agg #[.int .i64 d, .int .i64 a, .int .i64 to]) 161 (10 : Int) d a b rel lo hi to procs size ⟨(10 : Int), d, a, 0, 0, 0, 0, to⟩ w CO (fun n w => methCall n d a to w) (fun args w => by kernel_rfl) (fun w => insCall d a to w) hq hd ha hb
  exact implInsOkTCall d a b rel lo hi to procs size w  hq hd ha hb

theorem implInsOkAssert (d a b rel lo hi to procs size : Int) (w : World) :
    Calls Try.prog 66 #[Ins.v ⟨(11 : Int), d, a, b, rel, lo, hi, to⟩, .int .i64 procs, .int .i64 size] w fun e w' => e = .returned (.bool (insOkB ⟨(11 : Int), d, a, b, rel, lo, hi, to⟩ procs size)) ∧ Grew w w' := by
  have hr : (decide (1 ≤ (11 : Int)) && decide ((11 : Int) ≤ 12)) = true := rfl
  have hf : decide (formV ⟨(11 : Int), d, a, b, rel, lo, hi, to⟩ = ⟨0, 0, 0, 0, 0, 0, 0, 0⟩) = insEqB ⟨(11 : Int), 0, a, b, rel, 0, 0, 0⟩ ⟨(11 : Int), d, a, b, rel, lo, hi, to⟩ := by
    simp [formV, insEqB, eq_comm]
  have CO := fun w => codeOf ⟨(11 : Int), d, a, b, rel, lo, hi, to⟩ w
  have hcv : codeV ⟨(11 : Int), d, a, b, rel, lo, hi, to⟩ = .iface 120 (.agg #[.int .i64 rel, .int .i64 a, .int .i64 b]) := rfl
  rw [hcv] at CO
  rw [insOkB_of hr hf]
  cases hq : insEqB ⟨(11 : Int), 0, a, b, rel, 0, 0, 0⟩ ⟨(11 : Int), d, a, b, rel, lo, hi, to⟩
  · exact implInsOkF 120 (.agg #[.int .i64 rel, .int .i64 a, .int .i64 b]) 162 (11 : Int) d a b rel lo hi to procs size ⟨(11 : Int), 0, a, b, rel, 0, 0, 0⟩ w CO (fun n w => methAssert n rel a b w) (fun args w => by kernel_rfl) (fun w => insAssert rel a b w) hq
  simp only [Bool.true_and]
  cases hd : varB d
  · exact implInsOkD 120 (.agg #[.int .i64 rel, .int .i64 a, .int .i64 b]) 162 (11 : Int) d a b rel lo hi to procs size ⟨(11 : Int), 0, a, b, rel, 0, 0, 0⟩ w CO (fun n w => methAssert n rel a b w) (fun args w => by kernel_rfl) (fun w => insAssert rel a b w) hq hd
  cases ha : varB a
  · exact implInsOkA 120 (.agg #[.int .i64 rel, .int .i64 a, .int .i64 b]) 162 (11 : Int) d a b rel lo hi to procs size ⟨(11 : Int), 0, a, b, rel, 0, 0, 0⟩ w CO (fun n w => methAssert n rel a b w) (fun args w => by kernel_rfl) (fun w => insAssert rel a b w) hq hd ha
  cases hb : varB b
  · exact implInsOkB 120 (.agg #[.int .i64 rel, .int .i64 a, .int .i64 b]) 162 (11 : Int) d a b rel lo hi to procs size ⟨(11 : Int), 0, a, b, rel, 0, 0, 0⟩ w CO (fun n w => methAssert n rel a b w) (fun args w => by kernel_rfl) (fun w => insAssert rel a b w) hq hd ha hb
  exact implInsOkTAssert d a b rel lo hi to procs size w  hq hd ha hb

theorem implInsOkRet (d a b rel lo hi to procs size : Int) (w : World) :
    Calls Try.prog 66 #[Ins.v ⟨(12 : Int), d, a, b, rel, lo, hi, to⟩, .int .i64 procs, .int .i64 size] w fun e w' => e = .returned (.bool (insOkB ⟨(12 : Int), d, a, b, rel, lo, hi, to⟩ procs size)) ∧ Grew w w' := by
  have hr : (decide (1 ≤ (12 : Int)) && decide ((12 : Int) ≤ 12)) = true := rfl
  have hf : decide (formV ⟨(12 : Int), d, a, b, rel, lo, hi, to⟩ = ⟨0, 0, 0, 0, 0, 0, 0, 0⟩) = insEqB ⟨(12 : Int), 0, a, 0, 0, 0, 0, 0⟩ ⟨(12 : Int), d, a, b, rel, lo, hi, to⟩ := by
    simp [formV, insEqB, eq_comm]
  have CO := fun w => codeOf ⟨(12 : Int), d, a, b, rel, lo, hi, to⟩ w
  have hcv : codeV ⟨(12 : Int), d, a, b, rel, lo, hi, to⟩ = .iface 143 (.agg #[.int .i64 a]) := rfl
  rw [hcv] at CO
  rw [insOkB_of hr hf]
  cases hq : insEqB ⟨(12 : Int), 0, a, 0, 0, 0, 0, 0⟩ ⟨(12 : Int), d, a, b, rel, lo, hi, to⟩
  · exact implInsOkF 143 (.agg #[.int .i64 a]) 166 (12 : Int) d a b rel lo hi to procs size ⟨(12 : Int), 0, a, 0, 0, 0, 0, 0⟩ w CO (fun n w => methRet n a w) (fun args w => by kernel_rfl) (fun w => insRet a w) hq
  simp only [Bool.true_and]
  cases hd : varB d
  · exact implInsOkD 143 (.agg #[.int .i64 a]) 166 (12 : Int) d a b rel lo hi to procs size ⟨(12 : Int), 0, a, 0, 0, 0, 0, 0⟩ w CO (fun n w => methRet n a w) (fun args w => by kernel_rfl) (fun w => insRet a w) hq hd
  cases ha : varB a
  · exact implInsOkA 143 (.agg #[.int .i64 a]) 166 (12 : Int) d a b rel lo hi to procs size ⟨(12 : Int), 0, a, 0, 0, 0, 0, 0⟩ w CO (fun n w => methRet n a w) (fun args w => by kernel_rfl) (fun w => insRet a w) hq hd ha
  cases hb : varB b
  · exact implInsOkB 143 (.agg #[.int .i64 a]) 166 (12 : Int) d a b rel lo hi to procs size ⟨(12 : Int), 0, a, 0, 0, 0, 0, 0⟩ w CO (fun n w => methRet n a w) (fun args w => by kernel_rfl) (fun w => insRet a w) hq hd ha hb
  exact implInsOkTRet d a b rel lo hi to procs size w  hq hd ha hb

theorem implInsOk (i : Ins) (procs size : Int) (w : World) :
    Calls Try.prog 66 #[i.v, .int .i64 procs, .int .i64 size] w fun e w' => e = .returned (.bool (insOkB i procs size)) ∧ Grew w w' := by
  obtain ⟨op, d, a, b, rel, lo, hi, to⟩ := i
  by_cases ho : op = 1 ∨ op = 2 ∨ op = 3 ∨ op = 4
  · exact implInsOkArith _ _ _ _ _ _ _ _ _ _ _ ho
  rcases opCases op with h | h | h | h | rfl | rfl | rfl | rfl | rfl | rfl | rfl | rfl | ⟨n1, n2, n3, n4, n5, n6, n7, n8, n9, n10, n11, n12⟩
  · exact absurd (.inl h) ho
  · exact absurd (.inr (.inl h)) ho
  · exact absurd (.inr (.inr (.inl h))) ho
  · exact absurd (.inr (.inr (.inr h))) ho
  · exact implInsOkAny _ _ _ _ _ _ _ _ _ _
  · exact implInsOkLoad _ _ _ _ _ _ _ _ _ _
  · exact implInsOkStore _ _ _ _ _ _ _ _ _ _
  · exact implInsOkIf _ _ _ _ _ _ _ _ _ _
  · exact implInsOkJump _ _ _ _ _ _ _ _ _ _
  · exact implInsOkCall _ _ _ _ _ _ _ _ _ _
  · exact implInsOkAssert _ _ _ _ _ _ _ _ _ _
  · exact implInsOkRet _ _ _ _ _ _ _ _ _ _
  · rw [show insOkB ⟨op, d, a, b, rel, lo, hi, to⟩ procs size = false from by
      have : (decide (1 ≤ op) && decide (op ≤ 12)) = false := by simp; omega
      simp only [insOkB, headB, this, Bool.false_and]]
    exact implInsOkN _ _ _ _ _ _ _ _ _ _ _ (by simp [codeV, n1, n2, n3, n4, n5, n6, n7, n8, n9, n10, n11, n12])

end Go.Proofs.Ytmcfengnihomcaa
/- Contracts of PrgOk of the reference and of the program. No condition. -/
namespace Go.Proofs.Ytmcfengnihomcaa
open Go.RowKit
set_option linter.unusedVariables false
attribute [local go_sem] ext_cell ext_frozen ext_lt ext_le ext_le1 lt_s2 lt_s3 lt_s4 lt_s5 lt_s6 ext_lt1 ext_lt2 ext_lt3

def endsB (i : Ins) : Bool := decide (i.op = 12) || decide (i.op = 9)
def lastB (is : List Ins) : Bool := match is.getLast? with | some i => endsB i | none => false
def prcOkB (p : Prc) (procs : Int) : Bool := itvOkB p.lo p.hi && (decide (1 ≤ p.code.length) && decide (p.code.length ≤ 10)) && p.code.all (fun i => insOkB i procs p.code.length) && lastB p.code
def prgOkB (ps : List Prc) : Bool := (decide (1 ≤ ps.length) && decide (ps.length ≤ 4)) && ps.all (fun p => prcOkB p ps.length)

theorem lastB_of {is : List Ins} {i : Ins} {m : Nat} (hl : is.length = m + 1) (h : is[m]? = some i) : lastB is = endsB i := by
  have : is.getLast? = some i := by rw [List.getLast?_eq_getElem?, hl]; exact h
  rw [lastB, this]

set_option maxHeartbeats 2000000 in
theorem specL3Proc (lo hi : Int) (a : Option Addr) (n cap : Nat) (is : List Ins) (procs : Int) (w : World) (hr : RdL EIns 8 w a n is) (hn : n ≤ 9223372036854775807) :
    Calls Try.prog 75 #[.agg #[.int .i64 lo, .int .i64 hi, .slice a n cap], .int .i64 procs] w fun e w' => e = .returned (.bool (prcOkB ⟨lo, hi, is⟩ procs)) ∧ Grew w w' := by
  have HL := Lib.hid hr.len
  have HR := Lib.hid hr; clear hr
  by_cases hh : -32768 ≤ lo ∧ lo ≤ 32767 ∧ -32768 ≤ hi ∧ hi ≤ 32767 ∧ lo ≤ hi ∧ 1 ≤ n ∧ n ≤ 10
  · obtain ⟨h1, h2, h3, h4, h5, h6, h7⟩ := hh
    have HH : Hid (prcOkB ⟨lo, hi, is⟩ procs = (is.all (fun i => insOkB i procs n) && lastB is)) := Lib.hid (by
      have := HL.out
      simp [prcOkB, itvOkB, h1, h2, h3, h4, h5, this, h6, h7])
    have h8 : (1 : Int) ≤ (n : Int) := by omega
    have h9 : (n : Int) ≤ 10 := by omega
    have h5' : ¬ hi < lo := by omega
    go_enter Try.func75, Try.ntmps75
    go_wp2_with (first | ((with_reducible refine (specNumOk _ _).mono ?_); rintro e w' ⟨rfl, rfl⟩) | ((with_reducible refine (l1In _ _ _ _).mono ?_); rintro e w' ⟨rfl, rfl⟩))
    go_loopw [6] (fun i wr => ∃ k : Nat, k ≤ n ∧ i = .int .i64 k ∧ (∃ x, wr = ext (w.alloc (.cells #[.int .i64 lo, .int .i64 hi, .slice a n cap] 57)) x) ∧ ∀ i, i ∈ is.take k → insOkB i procs n = true) (fun i _ => n - (Go.RowKit.intOf i).toNat)
    case atStart => exact ⟨0, Nat.zero_le _, rfl, ext_of (Below.refl _ _), by simp⟩
    case round =>
      obtain ⟨k, hk, rfl, ⟨x, rfl⟩, hall⟩ := hrel
      have HA := Lib.hid hall; clear hall
      have HG : Hid (Grew w (ext (w.alloc (.cells #[.int .i64 lo, .int .i64 hi, .slice a n cap] 57)) x)) := Lib.hid (by repeat (first | with_reducible exact Below.refl _ _ | with_reducible assumption | with_reducible apply grew_ext | with_reducible apply grew_al | with_reducible apply grew_dn | with_reducible apply grew_d | (with_reducible refine grew_set ?_ (by first | omega | (repeat (first | with_reducible exact Nat.le_refl _ | with_reducible apply le_pl | with_reducible apply le_ext | with_reducible apply le_al))) _)))
      by_cases hlt : k < n
      · obtain ⟨b, off, op, d, ia, ib, rel, lo', hi', to, rfl, hx, c0, c1, c2, c3, c4, c5, c6, c7, hb⟩ := rdI_at (HR.out.grew stays_ins HG.out) hlt
        have HX := Lib.hid hx; clear hx
        have C := fun w => specInsOk ⟨op, d, ia, ib, rel, lo', hi', to⟩ procs n w
        cases hq : insOkB ⟨op, d, ia, ib, rel, lo', hi', to⟩ procs n
        · rw [hq] at C
          have HC := Lib.hid C; clear C
          have HQ := Lib.hid hq; clear hq
          go_wp2_with ((with_reducible refine (HC.out _).mono ?_); rintro e w' ⟨rfl, g'⟩; (first | obtain ⟨y, rfl⟩ := ext_cold g' | obtain ⟨y, rfl⟩ := ext_col g' | obtain ⟨y, rfl⟩ := ext_of g'); clear g')
          go_ret
          refine ⟨?_, ?_⟩
          · rw [HH.out]
            have : is.all (fun i => insOkB i procs n) = false := by
              rw [List.all_eq_false]
              exact ⟨_, List.mem_of_getElem? HX.out, by simp [HQ.out]⟩
            rw [this]
            rfl
          · repeat (first | with_reducible exact Below.refl _ _ | with_reducible assumption | with_reducible apply grew_ext | with_reducible apply grew_al | with_reducible apply grew_dn | with_reducible apply grew_d | (with_reducible refine grew_set ?_ (by first | omega | (repeat (first | with_reducible exact Nat.le_refl _ | with_reducible apply le_pl | with_reducible apply le_ext | with_reducible apply le_al))) _))
        · rw [hq] at C
          have HC := Lib.hid C; clear C
          have HQ := Lib.hid hq; clear hq
          go_wp2_with ((with_reducible refine (HC.out _).mono ?_); rintro e w' ⟨rfl, g'⟩; (first | obtain ⟨y, rfl⟩ := ext_cold g' | obtain ⟨y, rfl⟩ := ext_col g' | obtain ⟨y, rfl⟩ := ext_of g'); clear g')
          go_roundw
          case rel =>
            refine ⟨k + 1, by omega, by go_num, ext_of (by repeat (first | with_reducible exact Below.refl _ _ | with_reducible assumption | with_reducible apply grew_ext | with_reducible apply grew_al | with_reducible apply grew_dn | with_reducible apply grew_d | (with_reducible refine grew_set ?_ (by first | omega | (repeat (first | with_reducible exact Nat.le_refl _ | with_reducible apply le_pl | with_reducible apply le_ext | with_reducible apply le_al))) _))), fun i hi => ?_⟩
            rw [take_get HX.out] at hi
            rcases List.mem_append.1 hi with hi | hi
            · exact HA.out i hi
            · obtain rfl := List.mem_singleton.1 hi
              exact HQ.out
          case measure => simp [Go.RowKit.intOf]; omega
      · have hall : is.all (fun i => insOkB i procs n) = true := by
          rw [List.all_eq_true]
          intro i hi
          exact HA.out i (by rw [List.take_of_length_le (by have := HL.out; omega)]; exact hi)
        have HF := Lib.hid hall; clear hall
        obtain ⟨b, off, op, d, ia, ib, rel, lo', hi', to, rfl, hx, c0, c1, c2, c3, c4, c5, c6, c7, hb⟩ := rdI_at (HR.out.grew stays_ins HG.out) (k := n - 1) (by omega)
        have HE : Hid (prcOkB ⟨lo, hi, is⟩ procs = (decide (op = 12) || decide (op = 9))) := Lib.hid (by
          rw [HH.out, HF.out, lastB_of (m := n - 1) (by have := HL.out; omega) hx]
          rfl)
        clear hx
        go_wp2
        all_goals
          go_ret
          refine ⟨by rw [HE.out]; go_light; by_cases h12 : op = 12 <;> by_cases h9' : op = 9 <;> simp_all, ?_⟩
          repeat (first | with_reducible exact Below.refl _ _ | with_reducible assumption | with_reducible apply grew_ext | with_reducible apply grew_al | with_reducible apply grew_dn | with_reducible apply grew_d | (with_reducible refine grew_set ?_ (by first | omega | (repeat (first | with_reducible exact Nat.le_refl _ | with_reducible apply le_pl | with_reducible apply le_ext | with_reducible apply le_al))) _))
  · have HF : Hid (prcOkB ⟨lo, hi, is⟩ procs = false) := Lib.hid (by
      have h1 := HL.out
      rw [Bool.eq_false_iff]
      intro h
      simp only [prcOkB, itvOkB, Bool.and_eq_true, decide_eq_true_eq, h1] at h
      obtain ⟨⟨⟨⟨⟨⟨a1, a2⟩, a3, a4⟩, a5⟩, a6, a7⟩, _⟩, _⟩ := h
      exact hh ⟨a1, a2, a3, a4, a5, a6, a7⟩)
    rw [HF.out]
    clear HF HR HL
    by_cases h1 : -32768 ≤ lo ∧ lo ≤ 32767
    · obtain ⟨h1, h2⟩ := h1
      by_cases h3 : -32768 ≤ hi ∧ hi ≤ 32767
      · obtain ⟨h3, h4⟩ := h3
        by_cases h5 : hi < lo
        · clear hh
          go_enter Try.func75, Try.ntmps75
          go_wp2_with (first | ((with_reducible refine (specNumOk _ _).mono ?_); rintro e w' ⟨rfl, rfl⟩) | ((with_reducible refine (l1In _ _ _ _).mono ?_); rintro e w' ⟨rfl, rfl⟩))
          go_ret
          refine ⟨rfl, ?_⟩
          repeat (first | with_reducible exact Below.refl _ _ | with_reducible assumption | with_reducible apply grew_ext | with_reducible apply grew_al | with_reducible apply grew_dn | with_reducible apply grew_d | (with_reducible refine grew_set ?_ (by first | omega | (repeat (first | with_reducible exact Nat.le_refl _ | with_reducible apply le_pl | with_reducible apply le_ext | with_reducible apply le_al))) _))
        · have C := fun w => bool_is (b := false) (l1In n 1 10 w) (by rw [Bool.eq_false_iff]; simp only [ne_eq, Bool.and_eq_true, decide_eq_true_eq]; omega)
          have HC := Lib.hid C; clear C hh
          go_enter Try.func75, Try.ntmps75
          go_wp2_with (first | ((with_reducible refine (specNumOk _ _).mono ?_); rintro e w' ⟨rfl, rfl⟩) | ((with_reducible refine (HC.out _).mono ?_); rintro e w' ⟨rfl, rfl⟩))
          go_ret
          refine ⟨rfl, ?_⟩
          repeat (first | with_reducible exact Below.refl _ _ | with_reducible assumption | with_reducible apply grew_ext | with_reducible apply grew_al | with_reducible apply grew_dn | with_reducible apply grew_d | (with_reducible refine grew_set ?_ (by first | omega | (repeat (first | with_reducible exact Nat.le_refl _ | with_reducible apply le_pl | with_reducible apply le_ext | with_reducible apply le_al))) _))
      · have C := fun w => bool_is (b := false) (specNumOk hi w) (by rw [Bool.eq_false_iff]; simp only [ne_eq, Bool.and_eq_true, decide_eq_true_eq]; omega)
        have C0 := fun w => bool_is (b := true) (specNumOk lo w) (by simp only [Bool.and_eq_true, decide_eq_true_eq]; omega)
        have HC := Lib.hid C; clear C hh
        have HC0 := Lib.hid C0; clear C0 h3 h1 h2
        go_enter Try.func75, Try.ntmps75
        go_wp2_with (first | ((with_reducible refine (HC0.out _).mono ?_); rintro e w' ⟨rfl, rfl⟩) | ((with_reducible refine (HC.out _).mono ?_); rintro e w' ⟨rfl, rfl⟩))
        go_ret
        refine ⟨rfl, ?_⟩
        repeat (first | with_reducible exact Below.refl _ _ | with_reducible assumption | with_reducible apply grew_ext | with_reducible apply grew_al | with_reducible apply grew_dn | with_reducible apply grew_d | (with_reducible refine grew_set ?_ (by first | omega | (repeat (first | with_reducible exact Nat.le_refl _ | with_reducible apply le_pl | with_reducible apply le_ext | with_reducible apply le_al))) _))
    · have C := fun w => bool_is (b := false) (specNumOk lo w) (by rw [Bool.eq_false_iff]; simp only [ne_eq, Bool.and_eq_true, decide_eq_true_eq]; omega)
      have HC := Lib.hid C; clear C hh h1
      go_enter Try.func75, Try.ntmps75
      go_wp2_with (first | ((with_reducible refine (HC.out _).mono ?_); rintro e w' ⟨rfl, rfl⟩))
      go_ret
      refine ⟨rfl, ?_⟩
      repeat (first | with_reducible exact Below.refl _ _ | with_reducible assumption | with_reducible apply grew_ext | with_reducible apply grew_al | with_reducible apply grew_dn | with_reducible apply grew_d | (with_reducible refine grew_set ?_ (by first | omega | (repeat (first | with_reducible exact Nat.le_refl _ | with_reducible apply le_pl | with_reducible apply le_ext | with_reducible apply le_al))) _))

set_option maxHeartbeats 1000000 in
theorem specPrgOk (a : Option Addr) (n cap : Nat) (ps : List Prc) (w : World) (hr : RdP w a n ps) (hn : n ≤ 9223372036854775807) :
    Calls Try.prog 41 #[.agg #[.slice a n cap]] w fun e w' => e = .returned (.bool (prgOkB ps)) ∧ Grew w w' := by
  have HL := Lib.hid hr.len
  have HR := Lib.hid hr; clear hr
  by_cases hh : 1 ≤ n ∧ n ≤ 4
  · obtain ⟨h6, h7⟩ := hh
    have HH : Hid (prgOkB ps = ps.all (fun p => prcOkB p n)) := Lib.hid (by
      have := HL.out
      simp [prgOkB, this, h6, h7])
    have h8 : (1 : Int) ≤ (n : Int) := by omega
    have h9 : (n : Int) ≤ 4 := by omega
    go_enter Try.func41, Try.ntmps41
    go_wp2_with ((with_reducible refine (l1In _ _ _ _).mono ?_); rintro e w' ⟨rfl, rfl⟩)
    go_loopw [3] (fun i wr => ∃ k : Nat, k ≤ n ∧ i = .int .i64 k ∧ (∃ x, wr = ext (w.alloc (.cells #[.slice a n cap] 30)) x) ∧ ∀ p, p ∈ ps.take k → prcOkB p n = true) (fun i _ => n - (Go.RowKit.intOf i).toNat)
    case atStart => exact ⟨0, Nat.zero_le _, rfl, ext_of (Below.refl _ _), by simp⟩
    case round =>
      obtain ⟨k, hk, rfl, ⟨x, rfl⟩, hall⟩ := hrel
      have HA := Lib.hid hall; clear hall
      have HG : Hid (Grew w (ext (w.alloc (.cells #[.slice a n cap] 30)) x)) := Lib.hid (by repeat (first | with_reducible exact Below.refl _ _ | with_reducible assumption | with_reducible apply grew_ext | with_reducible apply grew_al | with_reducible apply grew_dn | with_reducible apply grew_d | (with_reducible refine grew_set ?_ (by first | omega | (repeat (first | with_reducible exact Nat.le_refl _ | with_reducible apply le_pl | with_reducible apply le_ext | with_reducible apply le_al))) _)))
      by_cases hlt : k < n
      · obtain ⟨b, off, lo, hi, is, ia, ic, rfl, hx, c0, c1, c2, hb, hi1, hi2, hi3⟩ := rdP_at HR.out hlt
        obtain ⟨q0, q1, q2⟩ := lt3 hb
        have HX := Lib.hid hx; clear hx
        have C := fun y => specL3Proc lo hi ia is.length ic is n (ext (w.alloc (.cells #[.slice (some ⟨b, off, none⟩) n cap] 30)) y) (hi1.grew stays_ins (by repeat (first | with_reducible exact Below.refl _ _ | with_reducible assumption | with_reducible apply grew_ext | with_reducible apply grew_al | with_reducible apply grew_dn | with_reducible apply grew_d | (with_reducible refine grew_set ?_ (by first | omega | (repeat (first | with_reducible exact Nat.le_refl _ | with_reducible apply le_pl | with_reducible apply le_ext | with_reducible apply le_al))) _)))) (by unfold maxLen at hi3; omega)
        clear hi1 hi2 hi3
        cases hq : prcOkB ⟨lo, hi, is⟩ n
        · rw [hq] at C
          have HC := Lib.hid C; clear C
          have HQ := Lib.hid hq; clear hq
          go_wp2_with fail
          first | refine wp_region_ext2 (by kernel_rfl) (by kernel_rfl) ?_ | refine wp_region_ext (by kernel_rfl) (by kernel_rfl) ?_
          repeat (go_big_quiet_step ((first | (with_reducible exact ext_grow (HC.out _)))))
          refine wpQuiet_nil ?_
          intro _ hw'
          obtain ⟨y, hw''⟩ := hw'
          subst hw''
          go_wp2
          go_ret
          refine ⟨?_, ?_⟩
          · rw [HH.out]
            have : ps.all (fun p => prcOkB p n) = false := by
              rw [List.all_eq_false]
              exact ⟨_, List.mem_of_getElem? HX.out, by simp [HQ.out]⟩
            rw [this]
            rfl
          · repeat (first | with_reducible exact Below.refl _ _ | with_reducible assumption | with_reducible apply grew_ext | with_reducible apply grew_al | with_reducible apply grew_dn | with_reducible apply grew_d | (with_reducible refine grew_set ?_ (by first | omega | (repeat (first | with_reducible exact Nat.le_refl _ | with_reducible apply le_pl | with_reducible apply le_ext | with_reducible apply le_al))) _))
        · rw [hq] at C
          have HC := Lib.hid C; clear C
          have HQ := Lib.hid hq; clear hq
          go_wp2_with fail
          first | refine wp_region_ext2 (by kernel_rfl) (by kernel_rfl) ?_ | refine wp_region_ext (by kernel_rfl) (by kernel_rfl) ?_
          repeat (go_big_quiet_step ((first | (with_reducible exact ext_grow (HC.out _)))))
          refine wpQuiet_nil ?_
          intro _ hw'
          obtain ⟨y, hw''⟩ := hw'
          subst hw''
          go_wp2
          go_roundw
          case rel =>
            refine ⟨k + 1, by omega, by go_num, ext_of (by repeat (first | with_reducible exact Below.refl _ _ | with_reducible assumption | with_reducible apply grew_ext | with_reducible apply grew_al | with_reducible apply grew_dn | with_reducible apply grew_d | (with_reducible refine grew_set ?_ (by first | omega | (repeat (first | with_reducible exact Nat.le_refl _ | with_reducible apply le_pl | with_reducible apply le_ext | with_reducible apply le_al))) _))), fun p hp => ?_⟩
            rw [take_get HX.out] at hp
            rcases List.mem_append.1 hp with hp | hp
            · exact HA.out p hp
            · obtain rfl := List.mem_singleton.1 hp
              exact HQ.out
          case measure => simp [Go.RowKit.intOf]; omega
      · have hall : ps.all (fun p => prcOkB p n) = true := by
          rw [List.all_eq_true]
          intro p hp
          exact HA.out p (by rw [List.take_of_length_le (by have := HL.out; omega)]; exact hp)
        have HF := Lib.hid hall; clear hall
        go_wp2
        go_ret
        refine ⟨by rw [HH.out, HF.out]; rfl, ?_⟩
        repeat (first | with_reducible exact Below.refl _ _ | with_reducible assumption | with_reducible apply grew_ext | with_reducible apply grew_al | with_reducible apply grew_dn | with_reducible apply grew_d | (with_reducible refine grew_set ?_ (by first | omega | (repeat (first | with_reducible exact Nat.le_refl _ | with_reducible apply le_pl | with_reducible apply le_ext | with_reducible apply le_al))) _))
  · have HF : Hid (prgOkB ps = false) := Lib.hid (by
      have h1 := HL.out
      rw [Bool.eq_false_iff]
      intro h
      simp only [prgOkB, Bool.and_eq_true, decide_eq_true_eq, h1] at h
      exact hh h.1)
    have C := fun w => bool_is (b := false) (l1In n 1 4 w) (by rw [Bool.eq_false_iff]; simp only [ne_eq, Bool.and_eq_true, decide_eq_true_eq]; omega)
    have HC := Lib.hid C; clear C hh
    go_enter Try.func41, Try.ntmps41
    go_wp2_with ((with_reducible refine (HC.out _).mono ?_); rintro e w' ⟨rfl, rfl⟩)
    go_ret
    refine ⟨by rw [HF.out]; rfl, ?_⟩
    repeat (first | with_reducible exact Below.refl _ _ | with_reducible assumption | with_reducible apply grew_ext | with_reducible apply grew_al | with_reducible apply grew_dn | with_reducible apply grew_d | (with_reducible refine grew_set ?_ (by first | omega | (repeat (first | with_reducible exact Nat.le_refl _ | with_reducible apply le_pl | with_reducible apply le_ext | with_reducible apply le_al))) _))
end Go.Proofs.Ytmcfengnihomcaa

/- Contract of the program's PrgOk. No condition. -/
namespace Go.Proofs.Ytmcfengnihomcaa
open Go.RowKit
set_option linter.unusedVariables false
attribute [local go_sem] ext_cell ext_frozen ext_lt ext_le ext_le1 lt_s2 lt_s3 lt_s4 lt_s5 lt_s6 ext_lt1 ext_lt2 ext_lt3

theorem any_not {α : Type} (f : α → Bool) (l : List α) : l.any (fun i => !f i) = !l.all f := by
  induction l with
  | nil => rfl
  | cons x xs ih => rw [List.any_cons, List.all_cons, ih, Bool.not_and]

theorem prcItv (lo hi : Int) (v : Value) (w : World) :
    Calls Try.prog 104 #[.agg #[.int .i64 lo, .int .i64 hi, v]] w fun e w' => e = .returned (.agg #[.int .i64 lo, .int .i64 hi]) ∧ Grew w w' := by
  go_enter Try.func104, Try.ntmps104
  go_wp2
  go_returns
  exact ⟨rfl, by unfold Grew; go_grown⟩

theorem implEnds (i : Ins) (w : World) :
    Calls Try.prog 105 #[i.v] w fun e w' => e = .returned (.bool (endsB i)) ∧ Grew w w' := by
  obtain ⟨op, d, a, b, rel, lo, hi, to⟩ := i
  go_enter Try.func105, Try.ntmps105
  go_wp2
  all_goals
    go_ret
    refine ⟨by go_light; by_cases h12 : op = 12 <;> by_cases h9' : op = 9 <;> simp_all [endsB], ?_⟩
    repeat (first | with_reducible exact Below.refl _ _ | with_reducible assumption | with_reducible apply grew_ext | with_reducible apply grew_al | with_reducible apply grew_dn | with_reducible apply grew_d | (with_reducible refine grew_set ?_ (by first | omega | (repeat (first | with_reducible exact Nat.le_refl _ | with_reducible apply le_pl | with_reducible apply le_ext | with_reducible apply le_al))) _))

theorem prgOkF1 (i : Ins) (bp bs n cap : Nat) (a : Option Addr) (size : Int) (w : World) (hp : w.cell? ⟨bp, 0, none⟩ = some (.slice a n cap)) (hs : w.cell? ⟨bs, 0, none⟩ = some (.int .i64 size)) (hbp : bp < w.heap.size) (hbs : bs < w.heap.size) :
    Calls Try.prog 107 #[i.v, .pointer (some ⟨bp, 0, none⟩), .pointer (some ⟨bs, 0, none⟩)] w fun e w' => e = .returned (.bool (!insOkB i n size)) ∧ Grew w w' := by
  obtain ⟨op, d, a, b, rel, lo, hi, to⟩ := i
  have C := fun w => implInsOk ⟨op, d, a, b, rel, lo, hi, to⟩ n size w
  obtain ⟨B, hB⟩ : ∃ B, insOkB ⟨op, d, a, b, rel, lo, hi, to⟩ n size = B := ⟨_, rfl⟩
  rw [hB] at C ⊢
  have HC := Lib.hid C; clear C hB
  go_enter Try.func107, Try.ntmps107
  go_wp2_with ((with_reducible refine (HC.out _).mono ?_); rintro e w' ⟨rfl, g'⟩; (first | obtain ⟨x, rfl⟩ := ext_cold g' | obtain ⟨x, rfl⟩ := ext_col g' | obtain ⟨x, rfl⟩ := ext_of g'); clear g')
  go_ret
  refine ⟨rfl, ?_⟩
  repeat (first | with_reducible exact Below.refl _ _ | with_reducible assumption | with_reducible apply grew_ext | with_reducible apply grew_al | with_reducible apply grew_dn | with_reducible apply grew_d | (with_reducible refine grew_set ?_ (by first | omega | (repeat (first | with_reducible exact Nat.le_refl _ | with_reducible apply le_pl | with_reducible apply le_ext | with_reducible apply le_al))) _))

/-- Where the first is that is so; -1, if none is. -/
def RetIdx {α : Type} (p : α → Bool) (xs : List α) (w : World) (e : Ending) (w' : World) : Prop := ∃ z : Int, e = .returned (.int .i64 z) ∧ decide (0 ≤ z) = xs.any p ∧ Grew w w'

set_option maxHeartbeats 1000000 in
theorem indexFuncIns (a : Option Addr) (n cap : Nat) (is : List Ins) (bp bs pn pcap : Nat) (pa : Option Addr) (size : Int) (w : World) (hr : RdL EIns 8 w a n is) (hn : n ≤ 9223372036854775807)
    (hp : w.cell? ⟨bp, 0, none⟩ = some (.slice pa pn pcap)) (hs : w.cell? ⟨bs, 0, none⟩ = some (.int .i64 size)) (hbp : bp < w.heap.size) (hbs : bs < w.heap.size) :
    Calls Try.prog 129 #[.slice a n cap, .func (.func 107) #[] #[.pointer (some ⟨bp, 0, none⟩), .pointer (some ⟨bs, 0, none⟩)]] w (RetIdx (fun i => !insOkB i pn size) is w) := by
  have HL := Lib.hid hr.len
  have HR := Lib.hid hr; clear hr
  have HP := Lib.hid hp; clear hp
  have HS := Lib.hid hs; clear hs
  go_enter Try.func129, Try.ntmps129
  go_wp2
  go_loopw [8] (fun i wr => ∃ k : Nat, k ≤ n ∧ i = .int .i64 k ∧ (∃ x, wr = ext w x) ∧ ∀ i, i ∈ is.take k → insOkB i pn size = true) (fun i _ => n - (Go.RowKit.intOf i).toNat)
  case atStart => exact ⟨0, Nat.zero_le _, rfl, ext_of (Below.refl _ _), by simp⟩
  case round =>
    obtain ⟨k, hk, rfl, ⟨x, rfl⟩, hall⟩ := hrel
    have HA := Lib.hid hall; clear hall
    by_cases hlt : k < n
    · obtain ⟨b, off, op, d, ia, ib, rel, lo', hi', to, rfl, hx, c0, c1, c2, c3, c4, c5, c6, c7, hb⟩ := rdI_at (HR.out.grew stays_ins (ext_grew w x)) hlt
      have HX := Lib.hid hx; clear hx
      have C := prgOkF1 ⟨op, d, ia, ib, rel, lo', hi', to⟩ bp bs pn pcap pa size (ext w x) (by rw [ext_cell _ _ _ hbp]; exact HP.out) (by rw [ext_cell _ _ _ hbs]; exact HS.out) (ext_lt _ _ _ hbp) (ext_lt _ _ _ hbs)
      cases hq : insOkB ⟨op, d, ia, ib, rel, lo', hi', to⟩ pn size
      · rw [hq] at C
        have HC := Lib.hid C; clear C
        have HQ := Lib.hid hq; clear hq
        go_wp2_with ((with_reducible refine (HC.out).mono ?_); rintro e w' ⟨rfl, g'⟩; (first | obtain ⟨y, rfl⟩ := ext_cold g' | obtain ⟨y, rfl⟩ := ext_col g' | obtain ⟨y, rfl⟩ := ext_of g'); clear g')
        go_ret
        refine ⟨k, rfl, ?_, by repeat (first | with_reducible exact Below.refl _ _ | with_reducible assumption | with_reducible apply grew_ext | with_reducible apply grew_al | with_reducible apply grew_dn | with_reducible apply grew_d | (with_reducible refine grew_set ?_ (by first | omega | (repeat (first | with_reducible exact Nat.le_refl _ | with_reducible apply le_pl | with_reducible apply le_ext | with_reducible apply le_al))) _))⟩
        rw [decide_eq_true (by omega), eq_comm, List.any_eq_true]
        exact ⟨_, List.mem_of_getElem? HX.out, by simp [HQ.out]⟩
      · rw [hq] at C
        have HC := Lib.hid C; clear C
        have HQ := Lib.hid hq; clear hq
        go_wp2_with ((with_reducible refine (HC.out).mono ?_); rintro e w' ⟨rfl, g'⟩; (first | obtain ⟨y, rfl⟩ := ext_cold g' | obtain ⟨y, rfl⟩ := ext_col g' | obtain ⟨y, rfl⟩ := ext_of g'); clear g')
        go_roundw
        case rel =>
          refine ⟨k + 1, by omega, by go_num, ext_of (by repeat (first | with_reducible exact Below.refl _ _ | with_reducible assumption | with_reducible apply grew_ext | with_reducible apply grew_al | with_reducible apply grew_dn | with_reducible apply grew_d | (with_reducible refine grew_set ?_ (by first | omega | (repeat (first | with_reducible exact Nat.le_refl _ | with_reducible apply le_pl | with_reducible apply le_ext | with_reducible apply le_al))) _))), fun i hi => ?_⟩
          rw [take_get HX.out] at hi
          rcases List.mem_append.1 hi with hi | hi
          · exact HA.out i hi
          · obtain rfl := List.mem_singleton.1 hi
            exact HQ.out
        case measure => simp [Go.RowKit.intOf]; omega
    · go_wp2
      go_ret
      refine ⟨-1, rfl, ?_, by repeat (first | with_reducible exact Below.refl _ _ | with_reducible assumption | with_reducible apply grew_ext | with_reducible apply grew_al | with_reducible apply grew_dn | with_reducible apply grew_d | (with_reducible refine grew_set ?_ (by first | omega | (repeat (first | with_reducible exact Nat.le_refl _ | with_reducible apply le_pl | with_reducible apply le_ext | with_reducible apply le_al))) _))⟩
      rw [eq_comm]
      show is.any _ = false
      rw [List.any_eq_false]
      intro i hi
      have := HA.out i (by rw [List.take_of_length_le (by have := HL.out; omega)]; exact hi)
      simp [this]

theorem containsFuncIns (a : Option Addr) (n cap : Nat) (is : List Ins) (bp bs pn pcap : Nat) (pa : Option Addr) (size : Int) (w : World) (hr : RdL EIns 8 w a n is) (hn : n ≤ 9223372036854775807)
    (hp : w.cell? ⟨bp, 0, none⟩ = some (.slice pa pn pcap)) (hs : w.cell? ⟨bs, 0, none⟩ = some (.int .i64 size)) (hbp : bp < w.heap.size) (hbs : bs < w.heap.size) :
    Calls Try.prog 106 #[.slice a n cap, .func (.func 107) #[] #[.pointer (some ⟨bp, 0, none⟩), .pointer (some ⟨bs, 0, none⟩)]] w fun e w' => e = .returned (.bool (is.any (fun i => !insOkB i pn size))) ∧ Grew w w' := by
  have C := Lib.hid (indexFuncIns a n cap is bp bs pn pcap pa size w hr hn hp hs hbp hbs)
  clear hr hp hs
  go_enter Try.func106, Try.ntmps106
  go_wp2_with fail
  refine C.out.mono ?_
  rintro e w1 ⟨z, rfl, hz, g1⟩
  have HZ := Lib.hid hz; clear hz
  have HG := Lib.hid g1; clear g1
  go_wp2
  go_ret
  exact ⟨by rw [← HZ.out]; rfl, HG.out⟩

set_option maxHeartbeats 4000000 in
theorem implPrgOk (a : Option Addr) (n cap : Nat) (ps : List Prc) (w : World) (hr : RdP w a n ps) (hn : n ≤ 9223372036854775807) :
    Calls Try.prog 79 #[.agg #[.slice a n cap]] w fun e w' => e = .returned (.bool (prgOkB ps)) ∧ Grew w w' := by
  have HL := Lib.hid hr.len
  have HR := Lib.hid hr; clear hr
  by_cases hh : 1 ≤ n ∧ n ≤ 4
  · obtain ⟨h6, h7⟩ := hh
    have HH : Hid (prgOkB ps = ps.all (fun p => prcOkB p n)) := Lib.hid (by
      have := HL.out
      simp [prgOkB, this, h6, h7])
    have h8 : ¬ (n : Int) < 1 := by omega
    have h9 : ¬ (4 : Int) < (n : Int) := by omega
    go_enter Try.func79, Try.ntmps79
    go_wp2
    go_loopw [19] (fun i wr => ∃ k : Nat, k ≤ n ∧ i = .int .i64 k ∧ (∃ x, wr = ext (w.alloc (.cells #[.slice a n cap] 30)) x) ∧ ∀ p, p ∈ ps.take k → prcOkB p n = true) (fun i _ => n - (Go.RowKit.intOf i).toNat)
    case atStart => exact ⟨0, Nat.zero_le _, rfl, ext_of (Below.refl _ _), by simp⟩
    case round =>
      obtain ⟨k, hk, rfl, ⟨x, rfl⟩, hall⟩ := hrel
      have HA := Lib.hid hall; clear hall
      have HG : Hid (Grew w (ext (w.alloc (.cells #[.slice a n cap] 30)) x)) := Lib.hid (by repeat (first | with_reducible exact Below.refl _ _ | with_reducible assumption | with_reducible apply grew_ext | with_reducible apply grew_al | with_reducible apply grew_dn | with_reducible apply grew_d | (with_reducible refine grew_set ?_ (by first | omega | (repeat (first | with_reducible exact Nat.le_refl _ | with_reducible apply le_pl | with_reducible apply le_ext | with_reducible apply le_al))) _)))
      by_cases hlt : k < n
      · obtain ⟨b, off, lo, hi, is, ia, ic, rfl, hx, c0, c1, c2, hb, hi1, hi2, hi3⟩ := rdP_at (HR.out.grew HG.out) hlt
        have HX := Lib.hid hx; clear hx
        unfold maxLen at hi3
        have HI := Lib.hid hi1; clear hi1
        have hlen : is.length ≤ 9223372036854775807 := by omega
        clear hi2 hi3
        have CI := Lib.hid (fun w => prcItv lo hi (.slice ia is.length ic) w)
        have CO := fun w => itvOk lo hi w
        have hfalse : prcOkB ⟨lo, hi, is⟩ n = false → prgOkB ps = false := fun h => by
          rw [HH.out, List.all_eq_false]
          exact ⟨_, List.mem_of_getElem? HX.out, by simp [h]⟩
        have HF := Lib.hid hfalse; clear hfalse
        cases hq : itvOkB lo hi
        · have HQ := Lib.hid (HF.out (by simp [prcOkB, hq]))
          rw [hq] at CO
          have HCO := Lib.hid CO; clear CO hq
          go_wp2_with (first | ((with_reducible refine (CI.out _).mono ?_); rintro e w' ⟨rfl, g'⟩; (first | obtain ⟨y, rfl⟩ := ext_cold g' | obtain ⟨y, rfl⟩ := ext_col g' | obtain ⟨y, rfl⟩ := ext_of g'); clear g') | ((with_reducible refine (HCO.out _).mono ?_); rintro e w' ⟨rfl, g'⟩; (first | obtain ⟨z, rfl⟩ := ext_cold g' | obtain ⟨z, rfl⟩ := ext_col g' | obtain ⟨z, rfl⟩ := ext_of g'); clear g'))
          go_ret
          refine ⟨by rw [HQ.out]; rfl, ?_⟩
          repeat (first | with_reducible exact Below.refl _ _ | with_reducible assumption | with_reducible apply grew_ext | with_reducible apply grew_al | with_reducible apply grew_dn | with_reducible apply grew_d | (with_reducible refine grew_set ?_ (by first | omega | (repeat (first | with_reducible exact Nat.le_refl _ | with_reducible apply le_pl | with_reducible apply le_ext | with_reducible apply le_al))) _))
        rw [hq] at CO
        have HCO := Lib.hid CO; clear CO
        by_cases hl : 1 ≤ is.length ∧ is.length ≤ 10
        · obtain ⟨h1, h2⟩ := hl
          have h1' : ¬ (is.length : Int) < 1 := by omega
          have h2' : ¬ (10 : Int) < (is.length : Int) := by omega
          have HP : Hid (prcOkB ⟨lo, hi, is⟩ n = (is.all (fun i => insOkB i n is.length) && lastB is)) := Lib.hid (by simp [prcOkB, hq, h1, h2])
          clear hq
          have HIx := HI.out.grew stays_ins (Below.refl _ _)
          obtain ⟨b', off', op', d', ia', ib', rel', lo', hi', to', rfl, hx', c0', c1', c2', c3', c4', c5', c6', c7', hb'⟩ := rdI_at HIx (k := is.length - 1) (by omega)
          clear HIx
          obtain ⟨q0, q1, q2⟩ := lt3 hb'
          have HLB : Hid (lastB is = endsB ⟨op', d', ia', ib', rel', lo', hi', to'⟩) := Lib.hid (lastB_of (m := is.length - 1) (by omega) hx')
          clear hx'
          have CE := fun w => implEnds ⟨op', d', ia', ib', rel', lo', hi', to'⟩ w
          cases he : endsB ⟨op', d', ia', ib', rel', lo', hi', to'⟩
          · rw [he] at CE
            have HQ := Lib.hid (HF.out (by rw [HP.out, HLB.out, he, Bool.and_false]))
            have HCE := Lib.hid CE; clear CE he
            go_wp2_with (first | ((with_reducible refine (CI.out _).mono ?_); rintro e w' ⟨rfl, g'⟩; (first | obtain ⟨y, rfl⟩ := ext_cold g' | obtain ⟨y, rfl⟩ := ext_col g' | obtain ⟨y, rfl⟩ := ext_of g'); clear g') | ((with_reducible refine (HCO.out _).mono ?_); rintro e w' ⟨rfl, g'⟩; (first | obtain ⟨z, rfl⟩ := ext_cold g' | obtain ⟨z, rfl⟩ := ext_col g' | obtain ⟨z, rfl⟩ := ext_of g'); clear g') | ((with_reducible refine (HCE.out _).mono ?_); rintro e w' ⟨rfl, g'⟩; (first | obtain ⟨u, rfl⟩ := ext_cold g' | obtain ⟨u, rfl⟩ := ext_col g' | obtain ⟨u, rfl⟩ := ext_of g'); clear g'))
            go_ret
            refine ⟨by rw [HQ.out]; rfl, ?_⟩
            repeat (first | with_reducible exact Below.refl _ _ | with_reducible assumption | with_reducible apply grew_ext | with_reducible apply grew_al | with_reducible apply grew_dn | with_reducible apply grew_d | (with_reducible refine grew_set ?_ (by first | omega | (repeat (first | with_reducible exact Nat.le_refl _ | with_reducible apply le_pl | with_reducible apply le_ext | with_reducible apply le_al))) _))
          · rw [he] at CE
            have HP2 : Hid (prcOkB ⟨lo, hi, is⟩ n = is.all (fun i => insOkB i n is.length)) := Lib.hid (by rw [HP.out, HLB.out, he, Bool.and_true])
            have HCE := Lib.hid CE; clear CE he
            go_wp2_with (first | ((with_reducible refine (CI.out _).mono ?_); rintro e w' ⟨rfl, g'⟩; (first | obtain ⟨y, rfl⟩ := ext_cold g' | obtain ⟨y, rfl⟩ := ext_col g' | obtain ⟨y, rfl⟩ := ext_of g'); clear g') | ((with_reducible refine (HCO.out _).mono ?_); rintro e w' ⟨rfl, g'⟩; (first | obtain ⟨z, rfl⟩ := ext_cold g' | obtain ⟨z, rfl⟩ := ext_col g' | obtain ⟨z, rfl⟩ := ext_of g'); clear g') | ((with_reducible refine (HCE.out _).mono ?_); rintro e w' ⟨rfl, g'⟩; (first | obtain ⟨u, rfl⟩ := ext_cold g' | obtain ⟨u, rfl⟩ := ext_col g' | obtain ⟨u, rfl⟩ := ext_of g'); clear g'))
            have HP3 : Hid (is.any (fun i => !insOkB i n is.length) = !prcOkB ⟨lo, hi, is⟩ n) := Lib.hid (by rw [HP2.out]; exact any_not _ _)
            have s1 := ext_size (w.alloc (.cells #[.slice (some ⟨b, off, none⟩) n cap] 30)) x
            have s2 := ext_size _ u
            simp only [World.size_alloc] at s1 s2
            refine (containsFuncIns _ _ ic is _ _ n cap (some ⟨b, off, none⟩) is.length _ (HI.out.grew stays_ins (by repeat (first | with_reducible exact Below.refl _ _ | with_reducible assumption | with_reducible apply grew_ext | with_reducible apply grew_al | with_reducible apply grew_dn | with_reducible apply grew_d | (with_reducible refine grew_set ?_ (by first | omega | (repeat (first | with_reducible exact Nat.le_refl _ | with_reducible apply le_pl | with_reducible apply le_ext | with_reducible apply le_al))) _)))) hlen (by simp [go_sem]) (by simp [go_sem]) (by omega) (by omega)).mono ?_
            rintro e w2 ⟨rfl, g2⟩
            obtain ⟨v, rfl⟩ := ext_col g2
            clear g2 s1 s2
            rw [HP3.out]
            cases hq2 : prcOkB ⟨lo, hi, is⟩ n
            · have HQ := Lib.hid (HF.out hq2)
              clear hq2
              go_wp2
              go_ret
              refine ⟨by rw [HQ.out]; rfl, ?_⟩
              repeat (first | with_reducible exact Below.refl _ _ | with_reducible assumption | with_reducible apply grew_ext | with_reducible apply grew_al | with_reducible apply grew_dn | with_reducible apply grew_d | (with_reducible refine grew_set ?_ (by first | omega | (repeat (first | with_reducible exact Nat.le_refl _ | with_reducible apply le_pl | with_reducible apply le_ext | with_reducible apply le_al))) _))
            · have HQ := Lib.hid hq2
              clear hq2
              go_wp2
              go_roundw
              case rel =>
                refine ⟨k + 1, by omega, by go_num, ext_of (by repeat (first | with_reducible exact Below.refl _ _ | with_reducible assumption | with_reducible apply grew_ext | with_reducible apply grew_al | with_reducible apply grew_dn | with_reducible apply grew_d | (with_reducible refine grew_set ?_ (by first | omega | (repeat (first | with_reducible exact Nat.le_refl _ | with_reducible apply le_pl | with_reducible apply le_ext | with_reducible apply le_al))) _))), fun p hp => ?_⟩
                rw [take_get HX.out] at hp
                rcases List.mem_append.1 hp with hp | hp
                · exact HA.out p hp
                · obtain rfl := List.mem_singleton.1 hp
                  exact HQ.out
              case measure => simp [Go.RowKit.intOf]; omega
        · have HQ := Lib.hid (HF.out (by
            rw [Bool.eq_false_iff]
            intro h
            simp only [prcOkB, Bool.and_eq_true, decide_eq_true_eq] at h
            exact hl h.1.1.2))
          clear hq
          by_cases hl1 : is.length < 1
          · have h1' : (is.length : Int) < 1 := by omega
            clear hl
            go_wp2_with (first | ((with_reducible refine (CI.out _).mono ?_); rintro e w' ⟨rfl, g'⟩; (first | obtain ⟨y, rfl⟩ := ext_cold g' | obtain ⟨y, rfl⟩ := ext_col g' | obtain ⟨y, rfl⟩ := ext_of g'); clear g') | ((with_reducible refine (HCO.out _).mono ?_); rintro e w' ⟨rfl, g'⟩; (first | obtain ⟨z, rfl⟩ := ext_cold g' | obtain ⟨z, rfl⟩ := ext_col g' | obtain ⟨z, rfl⟩ := ext_of g'); clear g'))
            go_ret
            refine ⟨by rw [HQ.out]; rfl, ?_⟩
            repeat (first | with_reducible exact Below.refl _ _ | with_reducible assumption | with_reducible apply grew_ext | with_reducible apply grew_al | with_reducible apply grew_dn | with_reducible apply grew_d | (with_reducible refine grew_set ?_ (by first | omega | (repeat (first | with_reducible exact Nat.le_refl _ | with_reducible apply le_pl | with_reducible apply le_ext | with_reducible apply le_al))) _))
          · have h1' : ¬ (is.length : Int) < 1 := by omega
            have h2' : (10 : Int) < (is.length : Int) := by omega
            clear hl
            go_wp2_with (first | ((with_reducible refine (CI.out _).mono ?_); rintro e w' ⟨rfl, g'⟩; (first | obtain ⟨y, rfl⟩ := ext_cold g' | obtain ⟨y, rfl⟩ := ext_col g' | obtain ⟨y, rfl⟩ := ext_of g'); clear g') | ((with_reducible refine (HCO.out _).mono ?_); rintro e w' ⟨rfl, g'⟩; (first | obtain ⟨z, rfl⟩ := ext_cold g' | obtain ⟨z, rfl⟩ := ext_col g' | obtain ⟨z, rfl⟩ := ext_of g'); clear g'))
            go_ret
            refine ⟨by rw [HQ.out]; rfl, ?_⟩
            repeat (first | with_reducible exact Below.refl _ _ | with_reducible assumption | with_reducible apply grew_ext | with_reducible apply grew_al | with_reducible apply grew_dn | with_reducible apply grew_d | (with_reducible refine grew_set ?_ (by first | omega | (repeat (first | with_reducible exact Nat.le_refl _ | with_reducible apply le_pl | with_reducible apply le_ext | with_reducible apply le_al))) _))
      · have hall : ps.all (fun p => prcOkB p n) = true := by
          rw [List.all_eq_true]
          intro p hp
          exact HA.out p (by rw [List.take_of_length_le (by have := HL.out; omega)]; exact hp)
        have HF := Lib.hid hall; clear hall
        go_wp2
        go_ret
        refine ⟨by rw [HH.out, HF.out]; rfl, ?_⟩
        repeat (first | with_reducible exact Below.refl _ _ | with_reducible assumption | with_reducible apply grew_ext | with_reducible apply grew_al | with_reducible apply grew_dn | with_reducible apply grew_d | (with_reducible refine grew_set ?_ (by first | omega | (repeat (first | with_reducible exact Nat.le_refl _ | with_reducible apply le_pl | with_reducible apply le_ext | with_reducible apply le_al))) _))
  · have HF : Hid (prgOkB ps = false) := Lib.hid (by
      have h1 := HL.out
      rw [Bool.eq_false_iff]
      intro h
      simp only [prgOkB, Bool.and_eq_true, decide_eq_true_eq, h1] at h
      exact hh h.1)
    by_cases h1 : n < 1
    · have h2 : (n : Int) < 1 := by omega
      clear hh
      go_enter Try.func79, Try.ntmps79
      go_wp2
      go_ret
      refine ⟨by rw [HF.out]; rfl, ?_⟩
      repeat (first | with_reducible exact Below.refl _ _ | with_reducible assumption | with_reducible apply grew_ext | with_reducible apply grew_al | with_reducible apply grew_dn | with_reducible apply grew_d | (with_reducible refine grew_set ?_ (by first | omega | (repeat (first | with_reducible exact Nat.le_refl _ | with_reducible apply le_pl | with_reducible apply le_ext | with_reducible apply le_al))) _))
    · have h2 : ¬ (n : Int) < 1 := by omega
      have h3 : (4 : Int) < (n : Int) := by omega
      clear hh
      go_enter Try.func79, Try.ntmps79
      go_wp2
      go_ret
      refine ⟨by rw [HF.out]; rfl, ?_⟩
      repeat (first | with_reducible exact Below.refl _ _ | with_reducible assumption | with_reducible apply grew_ext | with_reducible apply grew_al | with_reducible apply grew_dn | with_reducible apply grew_d | (with_reducible refine grew_set ?_ (by first | omega | (repeat (first | with_reducible exact Nat.le_refl _ | with_reducible apply le_pl | with_reducible apply le_ext | with_reducible apply le_al))) _))
end Go.Proofs.Ytmcfengnihomcaa

/- Slices of bounds and of sums: copied, compared, measured, searched. No condition. -/
namespace Go.Proofs.Ytmcfengnihomcaa
open Go.RowKit Go.ChangeShapes Go.WideShapes Go.Deep
set_option linter.unusedVariables false
attribute [local go_sem] ext_cell ext_frozen ext_lt ext_le ext_le1 lt_s2 lt_s3 lt_s4 lt_s5 lt_s6 ext_lt1 ext_lt2 ext_lt3

/-- Bounds. -/
structure Itv where
  lo : Int
  hi : Int
  deriving DecidableEq
/-- A sum. -/
structure Sum where
  on : Bool
  lo : Int
  hi : Int
  deriving DecidableEq
abbrev Itv.v (x : Itv) : Value := .agg #[.int .i64 x.lo, .int .i64 x.hi]
abbrev Sum.v (x : Sum) : Value := .agg #[.bool x.on, .int .i64 x.lo, .int .i64 x.hi]
structure ItvWf (x : Itv) : Prop where
  lo : I64 x.lo
  hi : I64 x.hi
structure SumWf (x : Sum) : Prop where
  lo : I64 x.lo
  hi : I64 x.hi

def Itv.cells (x : Itv) : List Value := [.int .i64 x.lo, .int .i64 x.hi]
def EItv : World → List Value → Itv → Prop := fun _ cs x => cs = x.cells
theorem staysItv : Stays EItv := fun _ _ _ _ _ h => h
theorem itv_len (x : Itv) : x.cells.length = 2 := rfl
theorem itv_one (xs : List Itv) : ∀ u ∈ xs.flatMap Itv.cells, u.oneCell' = true := by
  intro u hu
  obtain ⟨i, _, hi⟩ := List.mem_flatMap.1 hu
  simp only [Itv.cells, List.mem_cons, List.not_mem_nil, or_false] at hi
  rcases hi with rfl | rfl <;> rfl
theorem rdItv_at {w : World} {a : Option Addr} {n : Nat} {xs : List Itv} (h : RdL EItv 2 w a n xs) {k : Nat} (hk : k < n) : ∃ b off lo hi, a = some ⟨b, off, none⟩ ∧ xs[k]? = some ⟨lo, hi⟩ ∧
    w.cell? ⟨b, off + k * 2, none⟩ = some (.int .i64 lo) ∧ w.cell? ⟨b, off + k * 2 + 1, none⟩ = some (.int .i64 hi) ∧ b < w.heap.size := by
  obtain ⟨b, off, ⟨lo, hi⟩, cs, rfl, hx, _, hc, rfl⟩ := h.at_ hk
  exact ⟨b, off, lo, hi, rfl, hx, hc 0 _ rfl, hc 1 _ rfl, h.lt (by omega) rfl⟩
theorem itvInfo : (Try.prog.info? 112).map (fun i => (i.zero, i.size, i.bytes)) = some (some (.agg #[.int .i64 0, .int .i64 0]), 2, 16) := by kernel_rfl
theorem itvEl : El Try.prog 171 112 (.agg #[.int .i64 0, .int .i64 0]) 2 16 := El.mk' itvInfo Try.underlying171 rfl (by omega)
theorem rdItv_of_own {w : World} {B n cap : Nat} {a : Option Addr} {xs : List Itv} (hn : xs.length = n) (h : w.ownsRow B 112 2 (.slice a n cap) n (xs.flatMap Itv.cells)) : RdL EItv 2 w a n xs :=
  rdl_of_rd Itv.cells (by omega) itv_len hn (owns_rd h) (fun x _ => rfl)

def Sum.cells (x : Sum) : List Value := [.bool x.on, .int .i64 x.lo, .int .i64 x.hi]
def ESum : World → List Value → Sum → Prop := fun _ cs x => cs = x.cells
theorem staysSum : Stays ESum := fun _ _ _ _ _ h => h
theorem sum_len (x : Sum) : x.cells.length = 3 := rfl
theorem sum_one (xs : List Sum) : ∀ u ∈ xs.flatMap Sum.cells, u.oneCell' = true := by
  intro u hu
  obtain ⟨i, _, hi⟩ := List.mem_flatMap.1 hu
  simp only [Sum.cells, List.mem_cons, List.not_mem_nil, or_false] at hi
  rcases hi with rfl | rfl | rfl <;> rfl
theorem rdSum_at {w : World} {a : Option Addr} {n : Nat} {xs : List Sum} (h : RdL ESum 3 w a n xs) {k : Nat} (hk : k < n) : ∃ b off on lo hi, a = some ⟨b, off, none⟩ ∧ xs[k]? = some ⟨on, lo, hi⟩ ∧
    w.cell? ⟨b, off + k * 3, none⟩ = some (.bool on) ∧ w.cell? ⟨b, off + k * 3 + 1, none⟩ = some (.int .i64 lo) ∧ w.cell? ⟨b, off + k * 3 + 2, none⟩ = some (.int .i64 hi) ∧ b < w.heap.size := by
  obtain ⟨b, off, ⟨on, lo, hi⟩, cs, rfl, hx, _, hc, rfl⟩ := h.at_ hk
  exact ⟨b, off, on, lo, hi, rfl, hx, hc 0 _ rfl, hc 1 _ rfl, hc 2 _ rfl, h.lt (by omega) rfl⟩

def itvEqB (x y : Itv) : Bool := decide (x = y)
def sumEqB (x y : Sum) : Bool := decide (x = y)
end Go.Proofs.Ytmcfengnihomcaa
/- What the laws mark in memory, and that the marks are held. No condition. -/
namespace Go.Proofs.Ytmcfengnihomcaa
open Go.RowKit
set_option linter.unusedVariables false
attribute [local go_sem] ext_cell ext_frozen ext_lt ext_le ext_le1 lt_s2 lt_s3 lt_s4 lt_s5 lt_s6 ext_lt1 ext_lt2 ext_lt3

/-- What marking writes: the numbers from k on. -/
def markI (k m : Nat) : List Value := (List.range m).map fun j => .int .i64 ((k + j : Nat) : Int)
theorem markI_len (k m : Nat) : (markI k m).length = m := by simp [markI]
theorem markI_get (k m j : Nat) (h : j < m) : (markI k m)[j]? = some (.int .i64 ((k + j : Nat) : Int)) := by simp [markI, h]
theorem mark_step {k0 k C N : Nat} {ys : List Value} (hl : ys.length = N) (hN : k * C + C ≤ N) (cs : List Value) (hcl : cs.length = C) (hcs : ∀ r, r < C → cs[r]? = some (.int .i64 ((k0 + k * C + r : Nat) : Int)))
    (h : ∀ j, j < k * C → ys[j]? = (markI k0 N)[j]?) : ∀ j, j < (k + 1) * C → (sets ys (k * C) cs)[j]? = (markI k0 N)[j]? := by
  intro j hj
  rw [Nat.succ_mul] at hj
  rw [sets_get _ _ _ _ (by omega), hcl]
  by_cases h1 : j < k * C
  · rw [if_neg (by omega)]
    exact h j h1
  · rw [if_pos (by omega), hcs _ (by omega), markI_get _ _ _ (by omega), show k0 + k * C + (j - k * C) = k0 + j from by omega]
theorem mark_all {k0 C n : Nat} {ys : List Value} (hl : ys.length = n * C) (h : ∀ j, j < n * C → ys[j]? = (markI k0 (n * C))[j]?) : ys = markI k0 (n * C) := by
  apply List.ext_getElem?
  intro j
  by_cases hj : j < n * C
  · exact h j hj
  · rw [List.getElem?_eq_none (by omega), List.getElem?_eq_none (by rw [markI_len]; omega)]

set_option maxHeartbeats 4000000 in
theorem markInsInsS (a : Option Addr) (n cap : Nat) (k0 : Nat) (cs : List Value) (B : Nat) (w : World) (ho : w.ownsRow B 44 8 (.slice a n cap) n cs) (hk0 : k0 ≤ 1125899906842624) (hm : n ≤ 1099511627776) :
    Calls Try.prog 82 #[.slice a n cap, .int .i64 k0] w fun e w' => e = .returned (.int .i64 ((k0 + n * 8 : Nat) : Int)) ∧
      w'.ownsRow B 44 8 (.slice a n cap) n (markI k0 (n * 8)) ∧ Chg (fun b => (Value.slice a n cap).ownBlock = some b) w w' := by
  have HO := Lib.hid ho; clear ho
  go_enter Try.func82, Try.ntmps82
  go_wp2
  go_loopw [1, 5] (fun kk i wr => ∃ k K : Nat, k ≤ n ∧ K = k0 + k * 8 ∧ i = .int .i64 k ∧ kk = .int .i64 K ∧ Chg (fun b => (Value.slice a n cap).ownBlock = some b) w wr ∧
    ∃ ys, wr.ownsRow B 44 8 (.slice a n cap) n ys ∧ ∀ j, j < k * 8 → ys[j]? = (markI k0 (n * 8))[j]?) (fun _ i _ => n - (Go.RowKit.intOf i).toNat)
  case atStart => exact ⟨0, k0, Nat.zero_le _, by omega, rfl, rfl, Chg.refl _ _, _, HO.out, fun j hj => absurd hj (by omega)⟩
  case round =>
    obtain ⟨k, K, hk, hK, rfl, rfl, hg, ys, how, hys⟩ := hrel
    have hK1 : K ≤ 1135000000000000 := by omega
    have HK := Lib.hid hK; clear hK
    by_cases hlt : k < n
    · obtain ⟨g, rfl⟩ : ∃ g, a = some ⟨g, 0, none⟩ := by
        rcases how.2 with ⟨h1, h2⟩ | ⟨g, cap', cur, h1, _⟩
        · omega
        · simp only [Value.slice.injEq] at h1
          exact ⟨g, h1.1⟩
      have HH := Lib.hid hys; clear hys
      have HG := Lib.hid hg; clear hg
      have HW := Lib.hid how; clear how
      obtain ⟨y0, e0⟩ := own_some HW.out (j := k * 8) (by omega)
      obtain ⟨y1, e1⟩ := own_some HW.out (j := k * 8 + 1) (by omega)
      obtain ⟨y2, e2⟩ := own_some HW.out (j := k * 8 + 2) (by omega)
      obtain ⟨y3, e3⟩ := own_some HW.out (j := k * 8 + 3) (by omega)
      obtain ⟨y4, e4⟩ := own_some HW.out (j := k * 8 + 4) (by omega)
      obtain ⟨y5, e5⟩ := own_some HW.out (j := k * 8 + 5) (by omega)
      obtain ⟨y6, e6⟩ := own_some HW.out (j := k * 8 + 6) (by omega)
      obtain ⟨y7, e7⟩ := own_some HW.out (j := k * 8 + 7) (by omega)
      have f0 := fun j => HW.out.frozenAt j
      go_wp2
      go_roundw
      case rel =>
        have hK := HK.out
        obtain ⟨ho', hg'⟩ := own_sets ([.int .i64 (K : Int), .int .i64 ((K : Int) + 1), .int .i64 ((K : Int) + 1 + 1), .int .i64 ((K : Int) + 1 + 1 + 1), .int .i64 ((K : Int) + 1 + 1 + 1 + 1), .int .i64 ((K : Int) + 1 + 1 + 1 + 1 + 1), .int .i64 ((K : Int) + 1 + 1 + 1 + 1 + 1 + 1), .int .i64 ((K : Int) + 1 + 1 + 1 + 1 + 1 + 1 + 1)]) _ _ (k * 8) HW.out
        refine ⟨k + 1, K + 8, by omega, by omega, by go_num, by go_num, (HG.out.trans (Chg.of_grownBy hg') (fun _ _ h => h) (fun i _ h => h)), _, ho', mark_step HW.out.1 (by omega) _ rfl (fun r hr => ?_) HH.out⟩
        match r, hr with
          | 0, _ => rw [← hK]; rfl
          | 1, _ => rw [← hK]; rfl
          | 2, _ => rw [← hK]; rfl
          | 3, _ => rw [← hK]; rfl
          | 4, _ => rw [← hK]; rfl
          | 5, _ => rw [← hK]; rfl
          | 6, _ => rw [← hK]; rfl
          | 7, _ => rw [← hK]; rfl
      case measure => simp [Go.RowKit.intOf]; omega
    · obtain rfl : k = n := by omega
      have hfin := mark_all how.1 hys
      subst hfin
      clear hys
      have HW := Lib.hid how; clear how
      have HG := Lib.hid hg; clear hg
      go_wp2
      go_ret
      exact ⟨by rw [HK.out]; rfl, HW.out, HG.out⟩

end Go.Proofs.Ytmcfengnihomcaa
/- Boxes whose cells are known, and the marking of a procedure. No condition. -/
namespace Go.Proofs.Ytmcfengnihomcaa
open Go.RowKit
set_option linter.unusedVariables false
attribute [local go_sem] ext_cell ext_frozen ext_lt ext_le ext_le1 lt_s2 lt_s3 lt_s4 lt_s5 lt_s6 ext_lt1 ext_lt2 ext_lt3

/-- A box: a block whose cells are known. -/
def Boxd (w : World) (b : Nat) (cs : Array Value) : Prop := b < w.heap.size ∧ ∀ (j : Nat) (u : Value), cs[j]? = some u → w.cell? ⟨b, j, none⟩ = some u
theorem Boxd.new (w : World) (t : TypeId) (cs : Array Value) : Boxd (w.alloc (.cells cs t)) w.heap.size cs := ⟨by simp, fun j u hu => by rw [World.cell?_alloc_new]; exact hu⟩
theorem Boxd.grew {w w' : World} {b : Nat} {cs : Array Value} (h : Boxd w b cs) (g : Grew w w') : Boxd w' b cs := ⟨Nat.lt_of_lt_of_le h.1 g.size, fun j u hu => (g.cell (p := ⟨b, j, none⟩) h.1).trans (h.2 j u hu)⟩
theorem Boxd.chg {F : Nat → Prop} {w w' : World} {b : Nat} {cs : Array Value} (h : Boxd w b cs) (c : Chg F w w') (hF : ¬ F b) : Boxd w' b cs :=
  ⟨Nat.lt_of_lt_of_le h.1 c.size, fun j u hu => (World.cell?_of_block (w := w) (w' := w') (a := ⟨b, j, none⟩) (c.block b h.1 hF)).trans (h.2 j u hu)⟩

end Go.Proofs.Ytmcfengnihomcaa

/- What copies of programs are in memory. No condition. -/
namespace Go.Proofs.Ytmcfengnihomcaa
open Go.RowKit
set_option linter.unusedVariables false

theorem int_is {P : Program} {f : FuncId} {args : Array Value} {w : World} {X b : Int} {R : World → Prop} (c : Calls P f args w fun e w' => e = .returned (.int .i64 X) ∧ R w') (h : X = b) :
    Calls P f args w fun e w' => e = .returned (.int .i64 b) ∧ R w' := by subst h; exact c
theorem prg_rd {w : World} {B n cap : Nat} {a : Option Addr} {ms : List (Prc × Value)} {ps : List Prc} (h : OwnP w B (.slice a n cap) n ms) (e : ms.map (·.1) = ps) : RdP w a n ps := by subst e; exact h.rd
end Go.Proofs.Ytmcfengnihomcaa

/- The marking of a program. No condition. -/
namespace Go.Proofs.Ytmcfengnihomcaa
open Go.RowKit
set_option linter.unusedVariables false
attribute [local go_sem] ext_cell ext_frozen ext_lt ext_le ext_le1 lt_s2 lt_s3 lt_s4 lt_s5 lt_s6 ext_lt1 ext_lt2 ext_lt3

theorem own_ne {w : World} {B B2 : Nat} {e e2 : TypeId} {s s2 n n2 : Nat} {v v2 : Value} {xs ys : List Value} (h : w.ownsRow B e s v n xs) (h2 : w.ownsRow B2 e2 s2 v2 n2 ys) (hne : e ≠ e2) {b : Nat} (hb : v.ownBlock = some b) : v2.ownBlock ≠ some b := by
  intro hb2
  rcases h.2 with ⟨rfl, _⟩ | ⟨g, cap, cur, rfl, _, h3, _⟩
  · cases hb
  rcases h2.2 with ⟨rfl, _⟩ | ⟨g', cap', cur', rfl, _, h4, _⟩
  · cases hb2
  simp only [Value.ownBlock, Option.some.injEq] at hb hb2
  subst hb hb2
  rw [h3] at h4
  simp only [Option.some.injEq, Obj.cells.injEq] at h4
  exact hne h4.2.1
theorem own_mark {w w' : World} {B : Nat} {e : TypeId} {s n n2 : Nat} {v v2 : Value} {xs ys zs : List Value} (h : w.ownsRow B e s v n xs) (o : w.ownsRow B e s v2 n2 ys) (o' : w'.ownsRow B e s v2 n2 zs) (c : Chg (fun b => v2.ownBlock = some b) w w') : ∃ xs', w'.ownsRow B e s v n xs' := by
  rcases h.2 with h0 | ⟨g, cap, cur, rfl, hg, h3, h4, h5, h6, h7⟩
  · exact ⟨xs, h.1, .inl h0⟩
  by_cases hb : v2.ownBlock = some g
  · rcases o.2 with ⟨rfl, _⟩ | ⟨g2, cap2, cur2, rfl, _, k3, k4, k5, k6, k7⟩
    · cases hb
    simp only [Value.ownBlock, Option.some.injEq] at hb
    subst hb
    rcases o'.2 with ⟨hx, _⟩ | ⟨g3, cap3, cur3, hx, _, l3, l4, l5, l6, l7⟩
    · simp at hx
    simp only [Value.slice.injEq, Option.some.injEq, Addr.mk.injEq, true_and] at hx
    obtain ⟨⟨rfl, -⟩, rfl⟩ := hx
    rw [h3] at k3
    simp only [Option.some.injEq, Obj.cells.injEq] at k3
    obtain ⟨rfl, -⟩ := k3
    refine ⟨cur3.toList.take (n * s), ?_, .inr ⟨_, cap, cur3, rfl, hg, l3, h4, h5, by rw [l6, ← k6, h6], rfl⟩⟩
    rw [List.length_take, Array.length_toList, l6, ← k6, h6]
    exact Nat.min_eq_left (Nat.mul_le_mul_right _ h4)
  · exact ⟨xs, owns_chg h c (fun b hb' => by simp only [Value.ownBlock, Option.some.injEq] at hb'; subst hb'; exact hb)⟩

/-- The blocks of a copy lie between. -/
def BlkP (B N : Nat) (v : Value) (ms : List (Prc × Value)) : Prop := ∀ b, (v.ownBlock = some b ∨ ∃ m, m ∈ ms ∧ m.2.ownBlock = some b) → B ≤ b ∧ b < N
theorem OwnP.blk {w : World} {B n : Nat} {v : Value} {ms : List (Prc × Value)} (h : OwnP w B v n ms) : BlkP B w.heap.size v ms := by
  rintro b (hb | ⟨m, hm, hb⟩)
  · exact h.2.1.lt b hb
  · exact (h.2.2 m hm).lt b hb
def MInv (w : World) (B N n cap : Nat) (a : Option Addr) (ms : List (Prc × Value)) (wr : World) : Prop :=
  Chg (fun b => B ≤ b ∧ b < N) w wr ∧ (∃ ys, wr.ownsRow B 57 3 (.slice a n cap) n ys ∧ ∀ k m, ms[k]? = some m → ys[k * 3 + 2]? = some m.2) ∧ ∀ m, m ∈ ms → ∃ xs, wr.ownsRow B 44 8 m.2 m.1.code.length xs
theorem prcCells_get : ∀ (ms : List (Prc × Value)) (k : Nat) (m : Prc × Value), ms[k]? = some m → (ms.flatMap prcCells)[k * 3 + 2]? = some m.2
  | [], k, m, h => by simp at h
  | x :: ms, 0, m, h => by
    simp only [List.getElem?_cons_zero, Option.some.injEq] at h
    subst h
    rfl
  | x :: ms, k + 1, m, h => by
    rw [List.getElem?_cons_succ] at h
    rw [List.flatMap_cons, List.getElem?_append_right (by rw [prc_len]; omega), prc_len, show (k + 1) * 3 + 2 - 3 = k * 3 + 2 from by omega]
    exact prcCells_get ms k m h

set_option maxHeartbeats 4000000 in
theorem markPrcProcS (a : Option Addr) (n cap : Nat) (k0 : Nat) (B N : Nat) (ms : List (Prc × Value)) (w : World) (ho : OwnP w B (.slice a n cap) n ms) (hB : BlkP B N (.slice a n cap) ms) (hk0 : k0 ≤ 1000000) (hn : n ≤ 1048576) (hs : ∀ m, m ∈ ms → m.1.code.length ≤ 1048576) :
    Calls Try.prog 55 #[.slice a n cap, .int .i64 k0] w fun e w' => (∃ K : Nat, e = .returned (.int .i64 K)) ∧ Chg (fun b => B ≤ b ∧ b < N) w w' := by
  have HML := Lib.hid ho.1
  have HI : Hid (MInv w B N n cap a ms w) := Lib.hid ⟨Chg.refl _ _, ⟨_, ho.2.1, fun k m h => prcCells_get ms k m h⟩, fun m hm => ⟨_, ho.2.2 m hm⟩⟩
  have HB := Lib.hid hB; clear hB
  have HS := Lib.hid hs; clear hs ho
  go_enter Try.func55, Try.ntmps55
  go_wp2
  go_loopw [1, 5] (fun kk i wr => ∃ k K : Nat, k ≤ n ∧ K ≤ k0 + k * 8388610 ∧ i = .int .i64 k ∧ kk = .int .i64 K ∧ MInv w B N n cap a ms wr) (fun _ i _ => n - (Go.RowKit.intOf i).toNat)
  case atStart => exact ⟨0, k0, Nat.zero_le _, by omega, rfl, rfl, HI.out⟩
  case round =>
    clear HI
    obtain ⟨k, K, hk, hK, rfl, rfl, hg, ⟨ys, how, hys⟩, hcs⟩ := hrel
    have hKb : K ≤ 11000000000000 := by omega
    have HK := Lib.hid hK; clear hK
    by_cases hlt : k < n
    · obtain ⟨g, rfl⟩ : ∃ g, a = some ⟨g, 0, none⟩ := by
        rcases how.2 with ⟨h1, h2⟩ | ⟨g, cap', cur, h1, _⟩
        · omega
        · simp only [Value.slice.injEq] at h1
          exact ⟨g, h1.1⟩
      obtain ⟨m, hm⟩ : ∃ m, ms[k]? = some m := ⟨_, List.getElem?_eq_getElem (by have := HML.out; omega)⟩
      have hmm : m ∈ ms := List.mem_of_getElem? hm
      obtain ⟨xs, hox⟩ := hcs m hmm
      have hls := HS.out m hmm
      obtain ⟨p, v⟩ := m
      obtain ⟨lo, hi, is⟩ := p
      dsimp only at hox hls
      obtain ⟨ia, ic, rfl⟩ := owns_slice hox
      have e2 : wr.cell? ⟨g, k * 3 + 2, none⟩ = some (.slice ia is.length ic) := (how.cellAt (k * 3 + 2) (by have := how.1; omega)).trans (hys k _ hm)
      obtain ⟨y0, e0⟩ := own_some how (j := k * 3) (by omega)
      obtain ⟨y1, e1⟩ := own_some how (j := k * 3 + 1) (by omega)
      have f0 := fun j => how.frozenAt j
      have HM := Lib.hid hm; clear hm
      have HY := Lib.hid hys; clear hys
      have HC := Lib.hid hcs; clear hcs
      have HG := Lib.hid hg; clear hg
      have HW := Lib.hid how; clear how
      have HX := Lib.hid hox; clear hox
      obtain ⟨K1, hK1⟩ : ∃ K1 : Nat, K1 = K + 1 := ⟨_, rfl⟩
      obtain ⟨K2, hK2⟩ : ∃ K2 : Nat, K2 = K + 2 := ⟨_, rfl⟩
      have w1 : IntKind.i64.wrap ((K : Int) + 1) = (K1 : Int) := by rw [show (K : Int) + 1 = (K1 : Int) from by omega]; first | exact IntWalk.i64_in (by omega) (by omega) | exact IntWalk.i64_in _ (by omega) (by omega) | go_unwrap
      have w2 : IntKind.i64.wrap ((K1 : Int) + 1) = (K2 : Int) := by rw [show (K1 : Int) + 1 = (K2 : Int) from by omega]; first | exact IntWalk.i64_in (by omega) (by omega) | exact IntWalk.i64_in _ (by omega) (by omega) | go_unwrap
      have hKb2 : K2 ≤ 11000000000002 := by omega
      have HK2 := Lib.hid hK2; clear hK2
      have HK1 := Lib.hid hK1; clear hK1
      obtain ⟨ho', hg'⟩ := own_sets ([.int .i64 (K : Int), .int .i64 (K1 : Int)]) _ _ (k * 3) HW.out
      have HO' := Lib.hid ho'; clear ho'
      have HG' := Lib.hid hg'; clear hg'
      go_wp2_with fail
      have hgi : ∀ b, (some g : Option Nat) = some b → (Value.slice ia is.length ic).ownBlock ≠ some b := fun b hb => own_ne HW.out HX.out (by decide) (b := b) (by rw [← hb]; rfl)
      have hox2 := owns_chg HX.out (Chg.of_grownBy HG'.out) (fun b hb hF => hgi b hF hb)
      refine (markInsInsS ia is.length ic K2 xs B _ hox2 (by omega) (by omega)).mono ?_
      rintro e w3 ⟨rfl, o3, c3⟩
      have hnew : MInv w B N n cap (some ⟨g, 0, none⟩) ms w3 := by
        refine ⟨Chg.trans (Chg.trans HG.out (Chg.of_grownBy HG'.out) (fun _ _ h => h) (fun i _ h => ?_)) c3 (fun _ _ h => h) (fun i _ h => ?_), ⟨_, owns_chg HO'.out c3 (fun b hb hF => ?_), fun k' m' hm' => ?_⟩, fun m' hm' => ?_⟩
        · exact HB.out i (.inl (by rw [← h]; rfl))
        · exact HB.out i (.inr ⟨_, List.mem_of_getElem? HM.out, h⟩)
        · exact hgi b hb hF
        · rw [sets_get _ _ _ _ (by rw [HW.out.1]; simp only [List.length_cons, List.length_nil]; omega), if_neg (by simp only [List.length_cons, List.length_nil]; omega)]
          exact HY.out k' m' hm'
        · obtain ⟨xs', hx'⟩ := HC.out m' hm'
          have hx2 := owns_chg hx' (Chg.of_grownBy HG'.out) (fun b hb hF => own_ne HW.out hx' (by decide) (b := b) (by rw [← hF]; rfl) hb)
          exact own_mark hx2 hox2 o3 c3
      have HN := Lib.hid hnew
      clear hnew hgi hox2 o3 c3 e0 e1 e2 f0 HO' HG' HG HC HY HX
      go_wp2
      go_roundw
      case rel => exact ⟨k + 1, K2 + is.length * 8, by omega, by have := HK.out; have := HK2.out; omega, by go_num, rfl, HN.out⟩
      case measure => simp [Go.RowKit.intOf]; omega
    · have HG := Lib.hid hg; clear hg how hys hcs
      go_wp2
      go_ret
      exact ⟨⟨K, rfl⟩, HG.out⟩

theorem markPrgProg (a : Option Addr) (n cap : Nat) (k0 : Nat) (B N : Nat) (ms : List (Prc × Value)) (w : World) (ho : OwnP w B (.slice a n cap) n ms) (hB : BlkP B N (.slice a n cap) ms) (hk0 : k0 ≤ 1000000) (hn : n ≤ 1048576) (hs : ∀ m, m ∈ ms → m.1.code.length ≤ 1048576) :
    Calls Try.prog 19 #[.agg #[.slice a n cap], .int .i64 k0] w fun e w' => ∃ K : Nat, e = .returned (.int .i64 K) ∧ Chg (fun b => B ≤ b ∧ b < N) w w' := by
  have C := markPrcProcS a n cap k0 B N ms (w.alloc (.cells #[.slice a n cap] 30)) (ho.grew (grew_al (Below.refl _ _) _)) hB hk0 hn hs
  have HC := Lib.hid C; clear C ho hB hs
  go_enter Try.func19, Try.ntmps19
  go_wp2_with fail
  refine HC.out.mono ?_
  rintro e w1 ⟨⟨K, rfl⟩, g1⟩
  have G1 := Lib.hid g1; clear g1
  go_wp2
  go_ret
  exact ⟨K, rfl, (Chg.of_below (F := fun b => B ≤ b ∧ b < N) (grew_al (Below.refl _ _) _)).trans G1.out (fun _ _ h => h) (fun _ _ h => h)⟩
end Go.Proofs.Ytmcfengnihomcaa

/- The beginning of a call. No condition. -/
namespace Go.Proofs.Ytmcfengnihomcaa
open Go.RowKit
set_option linter.unusedVariables false
attribute [local go_sem] ext_cell ext_frozen ext_lt ext_le ext_le1 lt_s2 lt_s3 lt_s4 lt_s5 lt_s6 ext_lt1 ext_lt2 ext_lt3

def RetEnter (proc arg : Int) (w : World) (e : Ending) (w' : World) : Prop :=
  ∃ b1 b2, e = .returned (.agg #[.int .i64 proc, .int .i64 0, .slice (some ⟨b1, 0, none⟩) 4 4, .slice (some ⟨b2, 0, none⟩) 4 4]) ∧ Blk w' b1 3 #[.int .i64 arg, .int .i64 0, .int .i64 0, .int .i64 0] ∧ Blk w' b2 3 #[.int .i64 0, .int .i64 0, .int .i64 0, .int .i64 0] ∧
    w.heap.size ≤ b1 ∧ w.heap.size ≤ b2 ∧ b1 ≠ b2 ∧ Grew w w'
theorem Blk.new' {w : World} {t : TypeId} {cs : Array Value} {g : Nat} (h : g = w.heap.size) : Blk (w.alloc (.cells cs t)) g t cs := by subst h; exact Blk.new _ _ _
theorem mk4 (w : World) : (Instr.makeSlice 26 (.int .i64 4) (.int .i64 4)).run Try.prog w = .ok (.slice (some ⟨w.heap.size, 0, none⟩) 4 4) (w.alloc (.cells #[.int .i64 0, .int .i64 0, .int .i64 0, .int .i64 0] 3)) := by kernel_rfl
end Go.Proofs.Ytmcfengnihomcaa

/- One round of l20Proc's loop: a step is drawn and put behind. No condition. -/
namespace Go.Proofs.Ytmcfengnihomcaa
open Go.RowKit
set_option linter.unusedVariables false
set_option linter.unusedSimpArgs false

/-- append to a row, as one operation: its run known ahead. -/
theorem op_append {P : Program} {Q : Exit → Act → World → Prop} {o : Oper} {a : Act} {K : Act → World → Prop} {w w' : World} {v y v' : Value} {t : TypeId} (s x : Operand) (ho : o.op = .call { callee := .builtin .append, args := #[s, x], argTypes := #[t, t] }) (hty : o.type = t) (hs : a.eval s = v) (hx : a.eval x = y)
    (hrun : (Builtin.append_ #[t, t] t #[v, y]).run P w = .ok v' w') (hK : K (a.put o.dst v') w') : o.wp P a w K Q := by
  unfold Oper.wp execOp
  simp only [ho, hty, resolve, invoke, builtin, Sem.run_bind, Sem.run_pure, Result.andThen_ok, List.map_toArray, List.map_cons, List.map_nil, hs, hx, hrun]
  exact hK
theorem op_enter {P : Program} {Q : Exit → Act → World → Prop} {o : Oper} {a : Act} {K : Act → World → Prop} {w : World} {f : FuncId} {vals : Array Value} (h : (execOp a.eval o).run P w = .ok (.enter f vals) w) (hC : Calls P f vals w fun e w' => ∃ v, e = .returned v ∧ K (a.put o.dst v) w') : o.wp P a w K Q := by
  unfold Oper.wp
  rw [h]
  refine Calls.mono hC ?_
  rintro e w' ⟨v, rfl, hK⟩
  exact hK
def OneI (F : Nat → Prop) (W : World) (v : Value) : Prop := ∃ (i : Ins) (b : Nat), v = .slice (some ⟨b, 0, none⟩) 1 1 ∧ Blk W b 44 i.cells.toArray ∧ ¬ F b
def NewI (B : Nat) (F : Nat → Prop) (k : Nat) (is : List Ins) (W : World) (v : Value) : Prop := ∃ (a : Option Addr) (cap : Nat) (i : Ins), v = .slice a (k + 1) cap ∧ W.ownsRow B 44 8 (.slice a (k + 1) cap) (k + 1) ((is ++ [i]).flatMap Ins.cells) ∧ ∀ b, (Value.slice a (k + 1) cap).ownBlock = some b → ¬ F b
def AppN (B b6 : Nat) (y0 y1 : Int) (k : Nat) (is : List Ins) (W : World) : Prop := ∃ (a : Option Addr) (cap : Nat) (i : Ins), Blk W b6 57 #[.int .i64 y0, .int .i64 y1, .slice a (k + 1) cap] ∧ W.ownsRow B 44 8 (.slice a (k + 1) cap) (k + 1) ((is ++ [i]).flatMap Ins.cells)
theorem OneI.chg {F G : Nat → Prop} {W W' : World} {v : Value} (h : OneI F W v) (c : Chg G W W') (hG : ∀ b, G b → F b) : OneI F W' v := by
  obtain ⟨i, b, h1, h2, h3⟩ := h
  exact ⟨i, b, h1, h2.chg c (fun e => h3 (hG b e)), h3⟩
theorem NewI.chg {B : Nat} {F G : Nat → Prop} {k : Nat} {is : List Ins} {W W' : World} {v : Value} (h : NewI B F k is W v) (c : Chg G W W') (hG : ∀ b, B ≤ b → G b → F b) : NewI B F k is W' v := by
  obtain ⟨a, cap, i, h1, h2, h3⟩ := h
  exact ⟨a, cap, i, h1, owns_chg h2 c (fun b hb e => h3 b hb (hG b (h2.lt b hb).1 e)), h3⟩
def cR : List Nat := [0, 0, 0, 0, 0, 27, 0, 0, 0, 0]
/-- What stands while the round's operations run. -/
structure PII (g p0 : Nat) (w : World) (b6 : Nat) (y0 y1 : Int) (k : Nat) (is : List Ins) (a : Option Addr) (cap : Nat) (L : Array Bool) (W : World) : Prop where
  c : ChgG g w W
  r : RdLe W g (p0 + costL (cOf cR) L)
  s : L.size = 10
  z : Blk W w.heap.size 57 #[.int .i64 0, .int .i64 0, .slice none 0 0]
  o : L.getD 7 false = false → W.ownsRow w.heap.size 44 8 (.slice a k cap) k (is.flatMap Ins.cells)
  b : L.getD 9 false = false → Blk W b6 57 #[.int .i64 y0, .int .i64 y1, .slice a k cap]
  n : L.getD 9 false = true → AppN w.heap.size b6 y0 y1 k is W
section
variable {g p0 : Nat} {w : World} {b6 : Nat} {y0 y1 : Int} {k : Nat} {is : List Ins} {a : Option Addr} {cap : Nat} {L : Array Bool} {W W' : World}
theorem PII.keep (h : PII g p0 w b6 y0 y1 k is a cap L W) {i : Nat} (hi : i < 10) (hL : L.getD i true = false) (h7 : i ≠ 7) (h9 : i ≠ 9) : PII g p0 w b6 y0 y1 k is a cap (L.setIfInBounds i true) W := by
  have hc := costL_set (cOf cR) L (i := i) (by rw [h.s]; exact hi) hL
  exact ⟨h.c, h.r.mono (by omega), by simp [h.s], h.z, by rw [getD_set h7]; exact h.o, by rw [getD_set h9]; exact h.b, by rw [getD_set h9]; exact h.n⟩
/-- A change of blocks that are none of ours: the reader's, or new. -/
theorem PII.go (h : PII g p0 w b6 y0 y1 k is a cap L W) {i : Nat} (hi : i < 10) (hL : L.getD i true = false) (h7 : i ≠ 7) (h9 : i ≠ 9) (h9L : L.getD 9 false = false) (c : ChgG g W W') (r : RdLe W' g (p0 + costL (cOf cR) L + cOf cR i)) (hg : g < w.heap.size) (h6 : w.heap.size < b6) : PII g p0 w b6 y0 y1 k is a cap (L.setIfInBounds i true) W' := by
  have hc := costL_set (cOf cR) L (i := i) (by rw [h.s]; exact hi) hL
  refine ⟨h.c.trans c, by rw [hc]; exact r.mono (by omega), by simp [h.s], h.z.chg c (by omega), ?_, ?_, ?_⟩
  · rw [getD_set h7]
    intro e
    exact owns_chg (h.o e) c (fun b hb e2 => by have := ((h.o e).lt b hb).1; omega)
  · rw [getD_set h9]
    intro e
    exact (h.b e).chg c (by omega)
  · rw [getD_set h9, h9L]
    intro e
    cases e
theorem blk_ne {w : World} {g base size n : Nat} {t e : TypeId} {cs : Array Value} {v : Value} {xs : List Value} (h : Blk w g t cs) (ho : w.ownsRow base e size v n xs) (hne : t ≠ e) : v.ownBlock ≠ some g := by
  intro hb
  rcases ho.2 with ⟨rfl, _⟩ | ⟨g', cap, cur, rfl, _, h3, _⟩
  · cases hb
  simp only [Value.ownBlock, Option.some.injEq] at hb
  subst hb
  have h1 : w.heap[g']? = _ := h
  rw [h1] at h3
  simp only [Option.some.injEq, Obj.cells.injEq] at h3
  exact hne h3.2.1
theorem rd_own {g P : Nat} {w w' : World} {base : Nat} {o : Option Nat} (h : RdLe w g P) (c : Chg (fun b => o = some b) w w') (ho : ∀ b, o = some b → base ≤ b) (hg : g < base) : RdLe w' g P :=
  h.chg c (fun b hb e => by have := ho b e; omega)
theorem chg_own {g : Nat} {w W W' : World} {o : Option Nat} (h : ChgG g w W) (c : Chg (fun b => o = some b) W W') (ho : ∀ b, o = some b → w.heap.size ≤ b) : ChgG g w W' :=
  Chg.trans h c (fun _ _ h => h) (fun i hi e => by have := ho i e; omega)
theorem PII.app (h : PII g p0 w b6 y0 y1 k is a cap L W) (hL : L.getD 7 true = false) (h7 : L.getD 7 false = false) (h9L : L.getD 9 false = false) (c : Chg (fun b => (Value.slice a k cap).ownBlock = some b) W W') (hg : g < w.heap.size) : PII g p0 w b6 y0 y1 k is a cap (L.setIfInBounds 7 true) W' := by
  have hc := costL_set (cOf cR) L (i := 7) (by rw [h.s]; omega) hL
  have ho := h.o h7
  have hlt := fun b hb => (ho.lt b hb).1
  refine ⟨chg_own h.c c hlt, (rd_own h.r c hlt hg).mono (by omega), by simp [h.s], h.z.chg c (blk_ne h.z ho (by decide)), ?_, ?_, ?_⟩
  · rw [getD_set1 (by rw [h.s]; omega)]
    intro e
    cases e
  · rw [getD_set (by omega)]
    intro e
    exact (h.b e).chg c (blk_ne (h.b e) ho (by decide))
  · rw [getD_set (by omega), h9L]
    intro e
    cases e
theorem PII.store (h : PII g p0 w b6 y0 y1 k is a cap L W) (hL : L.getD 9 true = false) (h9 : L.getD 9 false = false) (h7 : L.getD 7 false = true) {a2 : Option Addr} {cap2 : Nat} {i : Ins} (ho : W.ownsRow w.heap.size 44 8 (.slice a2 (k + 1) cap2) (k + 1) ((is ++ [i]).flatMap Ins.cells)) (hn : ∀ b, (Value.slice a2 (k + 1) cap2).ownBlock = some b → ¬ (b = b6 ∨ b = w.heap.size)) (hg : g < w.heap.size) (h6 : w.heap.size < b6) : PII g p0 w b6 y0 y1 k is a cap (L.setIfInBounds 9 true) (W.setCell ⟨b6, 2, none⟩ (.slice a2 (k + 1) cap2)) := by
  have hc := costL_set (cOf cR) L (i := 9) (by rw [h.s]; omega) hL
  refine ⟨chg_set h.c (by simp only; omega) _, (rd_set h.r (by simp only; omega) _).mono (by omega), by simp [h.s], h.z.far (by simp only; omega) _, ?_, ?_, ?_⟩
  · rw [getD_set (by omega), h7]
    intro e
    cases e
  · rw [getD_set1 (by rw [h.s]; omega)]
    intro e
    cases e
  · intro _
    exact ⟨a2, cap2, i, (h.b h9).set_ 2 _, owns_far ho (fun e => hn _ e (.inl rfl)) _⟩
end
end Go.Proofs.Ytmcfengnihomcaa
