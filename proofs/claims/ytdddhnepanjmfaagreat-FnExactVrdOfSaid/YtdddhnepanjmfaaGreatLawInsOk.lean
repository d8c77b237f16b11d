/- The program's InsOk is the reference's, and the walk of the law on it. No condition. -/
import Derived.Test.YtdddhnepanjmfaaGreatInsOkI
import Derived.Test.YtdddhnepanjmfaaGreatDIns
namespace Go.Proofs.YtdddhnepanjmfaaGreat
open Go.RowKit
set_option linter.unusedVariables false
attribute [local go_sem] ext_cell ext_lt ext_le ext_le1

theorem insOkB_of {i : Ins} {procs size : Int} {q : Bool} (h : (decide (1 ≤ i.op) && decide (i.op ≤ 12)) = true) (hq : decide (formV i = ⟨0, 0, 0, 0, 0, 0, 0, 0⟩) = q) :
    insOkB i procs size = (q && (varB i.d && (varB i.a && varB i.b)) && tailB i procs size) := by
  simp only [insOkB, headB, h, hq, Bool.true_and]

theorem implInsOkArith (op d a b rel lo hi to procs size : Int) (w : World) (ho : op = 1 ∨ op = 2 ∨ op = 3 ∨ op = 4) :
    Calls Tryz.prog 91 #[Ins.v ⟨op, d, a, b, rel, lo, hi, to⟩, .int .i64 procs, .int .i64 size] w fun e w' => e = .returned (.bool (insOkB ⟨op, d, a, b, rel, lo, hi, to⟩ procs size)) ∧ Grew w w' := by
  have hr : (decide (1 ≤ op) && decide (op ≤ 12)) = true := by simp; omega
  have hf : decide (formV ⟨op, d, a, b, rel, lo, hi, to⟩ = ⟨0, 0, 0, 0, 0, 0, 0, 0⟩) = insEqB ⟨op, d, a, b, 0, 0, 0, 0⟩ ⟨op, d, a, b, rel, lo, hi, to⟩ := by
    rcases ho with rfl | rfl | rfl | rfl <;> simp [formV, insEqB, eq_comm]
  have CO := fun w => codeOf ⟨op, d, a, b, rel, lo, hi, to⟩ w
  have hcv : codeV ⟨op, d, a, b, rel, lo, hi, to⟩ = .iface 205 (.agg #[.int .i64 op, .int .i64 d, .int .i64 a, .int .i64 b]) := by simp [codeV, ho]
  rw [hcv] at CO
  rw [insOkB_of hr hf]
  cases hq : insEqB ⟨op, d, a, b, 0, 0, 0, 0⟩ ⟨op, d, a, b, rel, lo, hi, to⟩
  · exact implInsOkF 205 (.agg #[.int .i64 op, .int .i64 d, .int .i64 a, .int .i64 b]) 200 op d a b rel lo hi to procs size ⟨op, d, a, b, 0, 0, 0, 0⟩ w CO (fun n w => methArith n op d a b w) (fun args w => by kernel_rfl) (fun w => insArith op d a b w) hq
  simp only [Bool.true_and]
  cases hd : varB d
  · exact implInsOkD 205 (.agg #[.int .i64 op, .int .i64 d, .int .i64 a, .int .i64 b]) 200 op d a b rel lo hi to procs size ⟨op, d, a, b, 0, 0, 0, 0⟩ w CO (fun n w => methArith n op d a b w) (fun args w => by kernel_rfl) (fun w => insArith op d a b w) hq hd
  cases ha : varB a
  · exact implInsOkA 205 (.agg #[.int .i64 op, .int .i64 d, .int .i64 a, .int .i64 b]) 200 op d a b rel lo hi to procs size ⟨op, d, a, b, 0, 0, 0, 0⟩ w CO (fun n w => methArith n op d a b w) (fun args w => by kernel_rfl) (fun w => insArith op d a b w) hq hd ha
  cases hb : varB b
  · exact implInsOkB 205 (.agg #[.int .i64 op, .int .i64 d, .int .i64 a, .int .i64 b]) 200 op d a b rel lo hi to procs size ⟨op, d, a, b, 0, 0, 0, 0⟩ w CO (fun n w => methArith n op d a b w) (fun args w => by kernel_rfl) (fun w => insArith op d a b w) hq hd ha hb
  exact implInsOkTArith op d a b rel lo hi to procs size w ho hq hd ha hb

theorem implInsOkAny (d a b rel lo hi to procs size : Int) (w : World) :
    Calls Tryz.prog 91 #[Ins.v ⟨(5 : Int), d, a, b, rel, lo, hi, to⟩, .int .i64 procs, .int .i64 size] w fun e w' => e = .returned (.bool (insOkB ⟨(5 : Int), d, a, b, rel, lo, hi, to⟩ procs size)) ∧ Grew w w' := by
  have hr : (decide (1 ≤ (5 : Int)) && decide ((5 : Int) ≤ 12)) = true := rfl
  have hf : decide (formV ⟨(5 : Int), d, a, b, rel, lo, hi, to⟩ = ⟨0, 0, 0, 0, 0, 0, 0, 0⟩) = insEqB ⟨(5 : Int), d, 0, 0, 0, lo, hi, 0⟩ ⟨(5 : Int), d, a, b, rel, lo, hi, to⟩ := by
    simp [formV, insEqB, eq_comm]
  have CO := fun w => codeOf ⟨(5 : Int), d, a, b, rel, lo, hi, to⟩ w
  have hcv : codeV ⟨(5 : Int), d, a, b, rel, lo, hi, to⟩ = .iface 192 (.agg #[.int .i64 d, .int .i64 lo, .int .i64 hi]) := rfl
  rw [hcv] at CO
  rw [insOkB_of hr hf]
  cases hq : insEqB ⟨(5 : Int), d, 0, 0, 0, lo, hi, 0⟩ ⟨(5 : Int), d, a, b, rel, lo, hi, to⟩
  · exact implInsOkF 192 (.agg #[.int .i64 d, .int .i64 lo, .int .i64 hi]) 195 (5 : Int) d a b rel lo hi to procs size ⟨(5 : Int), d, 0, 0, 0, lo, hi, 0⟩ w CO (fun n w => methAny n d lo hi w) (fun args w => by kernel_rfl) (fun w => insAny d lo hi w) hq
  simp only [Bool.true_and]
  cases hd : varB d
  · exact implInsOkD 192 (.agg #[.int .i64 d, .int .i64 lo, .int .i64 hi]) 195 (5 : Int) d a b rel lo hi to procs size ⟨(5 : Int), d, 0, 0, 0, lo, hi, 0⟩ w CO (fun n w => methAny n d lo hi w) (fun args w => by kernel_rfl) (fun w => insAny d lo hi w) hq hd
  cases ha : varB a
  · exact implInsOkA 192 (.agg #[.int .i64 d, .int .i64 lo, .int .i64 hi]) 195 (5 : Int) d a b rel lo hi to procs size ⟨(5 : Int), d, 0, 0, 0, lo, hi, 0⟩ w CO (fun n w => methAny n d lo hi w) (fun args w => by kernel_rfl) (fun w => insAny d lo hi w) hq hd ha
  cases hb : varB b
  · exact implInsOkB 192 (.agg #[.int .i64 d, .int .i64 lo, .int .i64 hi]) 195 (5 : Int) d a b rel lo hi to procs size ⟨(5 : Int), d, 0, 0, 0, lo, hi, 0⟩ w CO (fun n w => methAny n d lo hi w) (fun args w => by kernel_rfl) (fun w => insAny d lo hi w) hq hd ha hb
  exact implInsOkTAny d a b rel lo hi to procs size w  hq hd ha hb

theorem implInsOkLoad (d a b rel lo hi to procs size : Int) (w : World) :
    Calls Tryz.prog 91 #[Ins.v ⟨(6 : Int), d, a, b, rel, lo, hi, to⟩, .int .i64 procs, .int .i64 size] w fun e w' => e = .returned (.bool (insOkB ⟨(6 : Int), d, a, b, rel, lo, hi, to⟩ procs size)) ∧ Grew w w' := by
  have hr : (decide (1 ≤ (6 : Int)) && decide ((6 : Int) ≤ 12)) = true := rfl
  have hf : decide (formV ⟨(6 : Int), d, a, b, rel, lo, hi, to⟩ = ⟨0, 0, 0, 0, 0, 0, 0, 0⟩) = insEqB ⟨(6 : Int), d, a, 0, 0, 0, 0, 0⟩ ⟨(6 : Int), d, a, b, rel, lo, hi, to⟩ := by
    simp [formV, insEqB, eq_comm]
  have CO := fun w => codeOf ⟨(6 : Int), d, a, b, rel, lo, hi, to⟩ w
  have hcv : codeV ⟨(6 : Int), d, a, b, rel, lo, hi, to⟩ = .iface 207 (.agg #[.int .i64 d, .int .i64 a]) := rfl
  rw [hcv] at CO
  rw [insOkB_of hr hf]
  cases hq : insEqB ⟨(6 : Int), d, a, 0, 0, 0, 0, 0⟩ ⟨(6 : Int), d, a, b, rel, lo, hi, to⟩
  · exact implInsOkF 207 (.agg #[.int .i64 d, .int .i64 a]) 201 (6 : Int) d a b rel lo hi to procs size ⟨(6 : Int), d, a, 0, 0, 0, 0, 0⟩ w CO (fun n w => methLoad n d a w) (fun args w => by kernel_rfl) (fun w => insLoad d a w) hq
  simp only [Bool.true_and]
  cases hd : varB d
  · exact implInsOkD 207 (.agg #[.int .i64 d, .int .i64 a]) 201 (6 : Int) d a b rel lo hi to procs size ⟨(6 : Int), d, a, 0, 0, 0, 0, 0⟩ w CO (fun n w => methLoad n d a w) (fun args w => by kernel_rfl) (fun w => insLoad d a w) hq hd
  cases ha : varB a
  · exact implInsOkA 207 (.agg #[.int .i64 d, .int .i64 a]) 201 (6 : Int) d a b rel lo hi to procs size ⟨(6 : Int), d, a, 0, 0, 0, 0, 0⟩ w CO (fun n w => methLoad n d a w) (fun args w => by kernel_rfl) (fun w => insLoad d a w) hq hd ha
  cases hb : varB b
  · exact implInsOkB 207 (.agg #[.int .i64 d, .int .i64 a]) 201 (6 : Int) d a b rel lo hi to procs size ⟨(6 : Int), d, a, 0, 0, 0, 0, 0⟩ w CO (fun n w => methLoad n d a w) (fun args w => by kernel_rfl) (fun w => insLoad d a w) hq hd ha hb
  exact implInsOkTLoad d a b rel lo hi to procs size w  hq hd ha hb

theorem implInsOkStore (d a b rel lo hi to procs size : Int) (w : World) :
    Calls Tryz.prog 91 #[Ins.v ⟨(7 : Int), d, a, b, rel, lo, hi, to⟩, .int .i64 procs, .int .i64 size] w fun e w' => e = .returned (.bool (insOkB ⟨(7 : Int), d, a, b, rel, lo, hi, to⟩ procs size)) ∧ Grew w w' := by
  have hr : (decide (1 ≤ (7 : Int)) && decide ((7 : Int) ≤ 12)) = true := rfl
  have hf : decide (formV ⟨(7 : Int), d, a, b, rel, lo, hi, to⟩ = ⟨0, 0, 0, 0, 0, 0, 0, 0⟩) = insEqB ⟨(7 : Int), 0, a, b, 0, 0, 0, 0⟩ ⟨(7 : Int), d, a, b, rel, lo, hi, to⟩ := by
    simp [formV, insEqB, eq_comm]
  have CO := fun w => codeOf ⟨(7 : Int), d, a, b, rel, lo, hi, to⟩ w
  have hcv : codeV ⟨(7 : Int), d, a, b, rel, lo, hi, to⟩ = .iface 209 (.agg #[.int .i64 a, .int .i64 b]) := rfl
  rw [hcv] at CO
  rw [insOkB_of hr hf]
  cases hq : insEqB ⟨(7 : Int), 0, a, b, 0, 0, 0, 0⟩ ⟨(7 : Int), d, a, b, rel, lo, hi, to⟩
  · exact implInsOkF 209 (.agg #[.int .i64 a, .int .i64 b]) 202 (7 : Int) d a b rel lo hi to procs size ⟨(7 : Int), 0, a, b, 0, 0, 0, 0⟩ w CO (fun n w => methStore n a b w) (fun args w => by kernel_rfl) (fun w => insStore a b w) hq
  simp only [Bool.true_and]
  cases hd : varB d
  · exact implInsOkD 209 (.agg #[.int .i64 a, .int .i64 b]) 202 (7 : Int) d a b rel lo hi to procs size ⟨(7 : Int), 0, a, b, 0, 0, 0, 0⟩ w CO (fun n w => methStore n a b w) (fun args w => by kernel_rfl) (fun w => insStore a b w) hq hd
  cases ha : varB a
  · exact implInsOkA 209 (.agg #[.int .i64 a, .int .i64 b]) 202 (7 : Int) d a b rel lo hi to procs size ⟨(7 : Int), 0, a, b, 0, 0, 0, 0⟩ w CO (fun n w => methStore n a b w) (fun args w => by kernel_rfl) (fun w => insStore a b w) hq hd ha
  cases hb : varB b
  · exact implInsOkB 209 (.agg #[.int .i64 a, .int .i64 b]) 202 (7 : Int) d a b rel lo hi to procs size ⟨(7 : Int), 0, a, b, 0, 0, 0, 0⟩ w CO (fun n w => methStore n a b w) (fun args w => by kernel_rfl) (fun w => insStore a b w) hq hd ha hb
  exact implInsOkTStore d a b rel lo hi to procs size w  hq hd ha hb

theorem implInsOkIf (d a b rel lo hi to procs size : Int) (w : World) :
    Calls Tryz.prog 91 #[Ins.v ⟨(8 : Int), d, a, b, rel, lo, hi, to⟩, .int .i64 procs, .int .i64 size] w fun e w' => e = .returned (.bool (insOkB ⟨(8 : Int), d, a, b, rel, lo, hi, to⟩ procs size)) ∧ Grew w w' := by
  have hr : (decide (1 ≤ (8 : Int)) && decide ((8 : Int) ≤ 12)) = true := rfl
  have hf : decide (formV ⟨(8 : Int), d, a, b, rel, lo, hi, to⟩ = ⟨0, 0, 0, 0, 0, 0, 0, 0⟩) = insEqB ⟨(8 : Int), 0, a, b, rel, 0, 0, to⟩ ⟨(8 : Int), d, a, b, rel, lo, hi, to⟩ := by
    simp [formV, insEqB, eq_comm]
  have CO := fun w => codeOf ⟨(8 : Int), d, a, b, rel, lo, hi, to⟩ w
  have hcv : codeV ⟨(8 : Int), d, a, b, rel, lo, hi, to⟩ = .iface 194 (.agg #[.int .i64 rel, .int .i64 a, .int .i64 b, .int .i64 to]) := rfl
  rw [hcv] at CO
  rw [insOkB_of hr hf]
  cases hq : insEqB ⟨(8 : Int), 0, a, b, rel, 0, 0, to⟩ ⟨(8 : Int), d, a, b, rel, lo, hi, to⟩
  · exact implInsOkF 194 (.agg #[.int .i64 rel, .int .i64 a, .int .i64 b, .int .i64 to]) 196 (8 : Int) d a b rel lo hi to procs size ⟨(8 : Int), 0, a, b, rel, 0, 0, to⟩ w CO (fun n w => methIf n rel a b to w) (fun args w => by kernel_rfl) (fun w => insIf rel a b to w) hq
  simp only [Bool.true_and]
  cases hd : varB d
  · exact implInsOkD 194 (.agg #[.int .i64 rel, .int .i64 a, .int .i64 b, .int .i64 to]) 196 (8 : Int) d a b rel lo hi to procs size ⟨(8 : Int), 0, a, b, rel, 0, 0, to⟩ w CO (fun n w => methIf n rel a b to w) (fun args w => by kernel_rfl) (fun w => insIf rel a b to w) hq hd
  cases ha : varB a
  · exact implInsOkA 194 (.agg #[.int .i64 rel, .int .i64 a, .int .i64 b, .int .i64 to]) 196 (8 : Int) d a b rel lo hi to procs size ⟨(8 : Int), 0, a, b, rel, 0, 0, to⟩ w CO (fun n w => methIf n rel a b to w) (fun args w => by kernel_rfl) (fun w => insIf rel a b to w) hq hd ha
  cases hb : varB b
  · exact implInsOkB 194 (.agg #[.int .i64 rel, .int .i64 a, .int .i64 b, .int .i64 to]) 196 (8 : Int) d a b rel lo hi to procs size ⟨(8 : Int), 0, a, b, rel, 0, 0, to⟩ w CO (fun n w => methIf n rel a b to w) (fun args w => by kernel_rfl) (fun w => insIf rel a b to w) hq hd ha hb
  exact implInsOkTIf d a b rel lo hi to procs size w  hq hd ha hb

theorem implInsOkJump (d a b rel lo hi to procs size : Int) (w : World) :
    Calls Tryz.prog 91 #[Ins.v ⟨(9 : Int), d, a, b, rel, lo, hi, to⟩, .int .i64 procs, .int .i64 size] w fun e w' => e = .returned (.bool (insOkB ⟨(9 : Int), d, a, b, rel, lo, hi, to⟩ procs size)) ∧ Grew w w' := by
  have hr : (decide (1 ≤ (9 : Int)) && decide ((9 : Int) ≤ 12)) = true := rfl
  have hf : decide (formV ⟨(9 : Int), d, a, b, rel, lo, hi, to⟩ = ⟨0, 0, 0, 0, 0, 0, 0, 0⟩) = insEqB ⟨(9 : Int), 0, 0, 0, 0, 0, 0, to⟩ ⟨(9 : Int), d, a, b, rel, lo, hi, to⟩ := by
    simp [formV, insEqB, eq_comm]
  have CO := fun w => codeOf ⟨(9 : Int), d, a, b, rel, lo, hi, to⟩ w
  have hcv : codeV ⟨(9 : Int), d, a, b, rel, lo, hi, to⟩ = .iface 196 (.agg #[.int .i64 to]) := rfl
  rw [hcv] at CO
  rw [insOkB_of hr hf]
  cases hq : insEqB ⟨(9 : Int), 0, 0, 0, 0, 0, 0, to⟩ ⟨(9 : Int), d, a, b, rel, lo, hi, to⟩
  · exact implInsOkF 196 (.agg #[.int .i64 to]) 197 (9 : Int) d a b rel lo hi to procs size ⟨(9 : Int), 0, 0, 0, 0, 0, 0, to⟩ w CO (fun n w => methJump n to w) (fun args w => by kernel_rfl) (fun w => insJump to w) hq
  simp only [Bool.true_and]
  cases hd : varB d
  · exact implInsOkD 196 (.agg #[.int .i64 to]) 197 (9 : Int) d a b rel lo hi to procs size ⟨(9 : Int), 0, 0, 0, 0, 0, 0, to⟩ w CO (fun n w => methJump n to w) (fun args w => by kernel_rfl) (fun w => insJump to w) hq hd
  cases ha : varB a
  · exact implInsOkA 196 (.agg #[.int .i64 to]) 197 (9 : Int) d a b rel lo hi to procs size ⟨(9 : Int), 0, 0, 0, 0, 0, 0, to⟩ w CO (fun n w => methJump n to w) (fun args w => by kernel_rfl) (fun w => insJump to w) hq hd ha
  cases hb : varB b
  · exact implInsOkB 196 (.agg #[.int .i64 to]) 197 (9 : Int) d a b rel lo hi to procs size ⟨(9 : Int), 0, 0, 0, 0, 0, 0, to⟩ w CO (fun n w => methJump n to w) (fun args w => by kernel_rfl) (fun w => insJump to w) hq hd ha hb
  exact implInsOkTJump d a b rel lo hi to procs size w  hq hd ha hb

theorem implInsOkCall (d a b rel lo hi to procs size : Int) (w : World) :
    Calls Tryz.prog 91 #[Ins.v ⟨(10 : Int), d, a, b, rel, lo, hi, to⟩, .int .i64 procs, .int .i64 size] w fun e w' => e = .returned (.bool (insOkB ⟨(10 : Int), d, a, b, rel, lo, hi, to⟩ procs size)) ∧ Grew w w' := by
  have hr : (decide (1 ≤ (10 : Int)) && decide ((10 : Int) ≤ 12)) = true := rfl
  have hf : decide (formV ⟨(10 : Int), d, a, b, rel, lo, hi, to⟩ = ⟨0, 0, 0, 0, 0, 0, 0, 0⟩) = insEqB ⟨(10 : Int), d, a, 0, 0, 0, 0, to⟩ ⟨(10 : Int), d, a, b, rel, lo, hi, to⟩ := by
    simp [formV, insEqB, eq_comm]
  have CO := fun w => codeOf ⟨(10 : Int), d, a, b, rel, lo, hi, to⟩ w
  have hcv : codeV ⟨(10 : Int), d, a, b, rel, lo, hi, to⟩ = .iface 198 (.agg #[.int .i64 d, .int .i64 a, .int .i64 to]) := rfl
  rw [hcv] at CO
  rw [insOkB_of hr hf]
  cases hq : insEqB ⟨(10 : Int), d, a, 0, 0, 0, 0, to⟩ ⟨(10 : Int), d, a, b, rel, lo, hi, to⟩
  · exact implInsOkF 198 (.agg #[.int .i64 d, .int .i64 a, .int .i64 to]) 198 (10 : Int) d a b rel lo hi to procs size ⟨(10 : Int), d, a, 0, 0, 0, 0, to⟩ w CO (fun n w => methCall n d a to w) (fun args w => by kernel_rfl) (fun w => insCall d a to w) hq
  simp only [Bool.true_and]
  cases hd : varB d
  · exact implInsOkD 198 (.agg #[.int .i64 d, .int .i64 a, .int .i64 to]) 198 (10 : Int) d a b rel lo hi to procs size ⟨(10 : Int), d, a, 0, 0, 0, 0, to⟩ w CO (fun n w => methCall n d a to w) (fun args w => by kernel_rfl) (fun w => insCall d a to w) hq hd
  cases ha : varB a
  · exact implInsOkA 198 (.agg #[.int .i64 d, .int .i64 a, .int .i64 to]) 198 (10 : Int) d a b rel lo hi to procs size ⟨(10 : Int), d, a, 0, 0, 0, 0, to⟩ w CO (fun n w => methCall n d a to w) (fun args w => by kernel_rfl) (fun w => insCall d a to w) hq hd ha
  cases hb : varB b
  · exact implInsOkB 198 (.agg #[.int .i64 d, .int .i64 a, .int .i64 to]) 198 (10 : Int) d a b rel lo hi to procs size ⟨(10 : Int), d, a, 0, 0, 0, 0, to⟩ w CO (fun n w => methCall n d a to w) (fun args w => by kernel_rfl) (fun w => insCall d a to w) hq hd ha hb
  exact implInsOkTCall d a b rel lo hi to procs size w  hq hd ha hb

theorem implInsOkAssert (d a b rel lo hi to procs size : Int) (w : World) :
    Calls Tryz.prog 91 #[Ins.v ⟨(11 : Int), d, a, b, rel, lo, hi, to⟩, .int .i64 procs, .int .i64 size] w fun e w' => e = .returned (.bool (insOkB ⟨(11 : Int), d, a, b, rel, lo, hi, to⟩ procs size)) ∧ Grew w w' := by
  have hr : (decide (1 ≤ (11 : Int)) && decide ((11 : Int) ≤ 12)) = true := rfl
  have hf : decide (formV ⟨(11 : Int), d, a, b, rel, lo, hi, to⟩ = ⟨0, 0, 0, 0, 0, 0, 0, 0⟩) = insEqB ⟨(11 : Int), 0, a, b, rel, 0, 0, 0⟩ ⟨(11 : Int), d, a, b, rel, lo, hi, to⟩ := by
    simp [formV, insEqB, eq_comm]
  have CO := fun w => codeOf ⟨(11 : Int), d, a, b, rel, lo, hi, to⟩ w
  have hcv : codeV ⟨(11 : Int), d, a, b, rel, lo, hi, to⟩ = .iface 200 (.agg #[.int .i64 rel, .int .i64 a, .int .i64 b]) := rfl
  rw [hcv] at CO
  rw [insOkB_of hr hf]
  cases hq : insEqB ⟨(11 : Int), 0, a, b, rel, 0, 0, 0⟩ ⟨(11 : Int), d, a, b, rel, lo, hi, to⟩
  · exact implInsOkF 200 (.agg #[.int .i64 rel, .int .i64 a, .int .i64 b]) 199 (11 : Int) d a b rel lo hi to procs size ⟨(11 : Int), 0, a, b, rel, 0, 0, 0⟩ w CO (fun n w => methAssert n rel a b w) (fun args w => by kernel_rfl) (fun w => insAssert rel a b w) hq
  simp only [Bool.true_and]
  cases hd : varB d
  · exact implInsOkD 200 (.agg #[.int .i64 rel, .int .i64 a, .int .i64 b]) 199 (11 : Int) d a b rel lo hi to procs size ⟨(11 : Int), 0, a, b, rel, 0, 0, 0⟩ w CO (fun n w => methAssert n rel a b w) (fun args w => by kernel_rfl) (fun w => insAssert rel a b w) hq hd
  cases ha : varB a
  · exact implInsOkA 200 (.agg #[.int .i64 rel, .int .i64 a, .int .i64 b]) 199 (11 : Int) d a b rel lo hi to procs size ⟨(11 : Int), 0, a, b, rel, 0, 0, 0⟩ w CO (fun n w => methAssert n rel a b w) (fun args w => by kernel_rfl) (fun w => insAssert rel a b w) hq hd ha
  cases hb : varB b
  · exact implInsOkB 200 (.agg #[.int .i64 rel, .int .i64 a, .int .i64 b]) 199 (11 : Int) d a b rel lo hi to procs size ⟨(11 : Int), 0, a, b, rel, 0, 0, 0⟩ w CO (fun n w => methAssert n rel a b w) (fun args w => by kernel_rfl) (fun w => insAssert rel a b w) hq hd ha hb
  exact implInsOkTAssert d a b rel lo hi to procs size w  hq hd ha hb

theorem implInsOkRet (d a b rel lo hi to procs size : Int) (w : World) :
    Calls Tryz.prog 91 #[Ins.v ⟨(12 : Int), d, a, b, rel, lo, hi, to⟩, .int .i64 procs, .int .i64 size] w fun e w' => e = .returned (.bool (insOkB ⟨(12 : Int), d, a, b, rel, lo, hi, to⟩ procs size)) ∧ Grew w w' := by
  have hr : (decide (1 ≤ (12 : Int)) && decide ((12 : Int) ≤ 12)) = true := rfl
  have hf : decide (formV ⟨(12 : Int), d, a, b, rel, lo, hi, to⟩ = ⟨0, 0, 0, 0, 0, 0, 0, 0⟩) = insEqB ⟨(12 : Int), 0, a, 0, 0, 0, 0, 0⟩ ⟨(12 : Int), d, a, b, rel, lo, hi, to⟩ := by
    simp [formV, insEqB, eq_comm]
  have CO := fun w => codeOf ⟨(12 : Int), d, a, b, rel, lo, hi, to⟩ w
  have hcv : codeV ⟨(12 : Int), d, a, b, rel, lo, hi, to⟩ = .iface 229 (.agg #[.int .i64 a]) := rfl
  rw [hcv] at CO
  rw [insOkB_of hr hf]
  cases hq : insEqB ⟨(12 : Int), 0, a, 0, 0, 0, 0, 0⟩ ⟨(12 : Int), d, a, b, rel, lo, hi, to⟩
  · exact implInsOkF 229 (.agg #[.int .i64 a]) 203 (12 : Int) d a b rel lo hi to procs size ⟨(12 : Int), 0, a, 0, 0, 0, 0, 0⟩ w CO (fun n w => methRet n a w) (fun args w => by kernel_rfl) (fun w => insRet a w) hq
  simp only [Bool.true_and]
  cases hd : varB d
  · exact implInsOkD 229 (.agg #[.int .i64 a]) 203 (12 : Int) d a b rel lo hi to procs size ⟨(12 : Int), 0, a, 0, 0, 0, 0, 0⟩ w CO (fun n w => methRet n a w) (fun args w => by kernel_rfl) (fun w => insRet a w) hq hd
  cases ha : varB a
  · exact implInsOkA 229 (.agg #[.int .i64 a]) 203 (12 : Int) d a b rel lo hi to procs size ⟨(12 : Int), 0, a, 0, 0, 0, 0, 0⟩ w CO (fun n w => methRet n a w) (fun args w => by kernel_rfl) (fun w => insRet a w) hq hd ha
  cases hb : varB b
  · exact implInsOkB 229 (.agg #[.int .i64 a]) 203 (12 : Int) d a b rel lo hi to procs size ⟨(12 : Int), 0, a, 0, 0, 0, 0, 0⟩ w CO (fun n w => methRet n a w) (fun args w => by kernel_rfl) (fun w => insRet a w) hq hd ha hb
  exact implInsOkTRet d a b rel lo hi to procs size w  hq hd ha hb

theorem implInsOk (i : Ins) (procs size : Int) (w : World) :
    Calls Tryz.prog 91 #[i.v, .int .i64 procs, .int .i64 size] w fun e w' => e = .returned (.bool (insOkB i procs size)) ∧ Grew w w' := by
  obtain ⟨op, d, a, b, rel, lo, hi, to⟩ := i
  by_cases ho : op = 1 ∨ op = 2 ∨ op = 3 ∨ op = 4
  · exact implInsOkArith _ _ _ _ _ _ _ _ _ _ _ ho
  rcases opCases op with h | h | h | h | rfl | rfl | rfl | rfl | rfl | rfl | rfl | rfl | ⟨n1, n2, n3, n4, n5, n6, n7, n8, n9, n10, n11, n12⟩
  · exact absurd (.inl h) ho
  · exact absurd (.inr (.inl h)) ho
  · exact absurd (.inr (.inr (.inl h))) ho
  · exact absurd (.inr (.inr (.inr h))) ho
  · exact implInsOkAny _ _ _ _ _ _ _ _ _ _
  · exact implInsOkLoad _ _ _ _ _ _ _ _ _ _
  · exact implInsOkStore _ _ _ _ _ _ _ _ _ _
  · exact implInsOkIf _ _ _ _ _ _ _ _ _ _
  · exact implInsOkJump _ _ _ _ _ _ _ _ _ _
  · exact implInsOkCall _ _ _ _ _ _ _ _ _ _
  · exact implInsOkAssert _ _ _ _ _ _ _ _ _ _
  · exact implInsOkRet _ _ _ _ _ _ _ _ _ _
  · rw [show insOkB ⟨op, d, a, b, rel, lo, hi, to⟩ procs size = false from by
      have : (decide (1 ≤ op) && decide (op ≤ 12)) = false := by simp; omega
      simp only [insOkB, headB, this, Bool.false_and]]
    exact implInsOkN _ _ _ _ _ _ _ _ _ _ _ (by simp [codeV, n1, n2, n3, n4, n5, n6, n7, n8, n9, n10, n11, n12])

end Go.Proofs.YtdddhnepanjmfaaGreat