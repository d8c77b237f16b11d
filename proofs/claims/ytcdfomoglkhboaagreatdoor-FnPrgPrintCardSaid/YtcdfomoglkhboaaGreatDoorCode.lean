/- Contracts of codeOf and of the reference's l3Form. No condition. -/
import Derived.Test.YtcdfomoglkhboaaGreatDoorDrR
namespace Go.Proofs.YtcdfomoglkhboaaGreatDoor
open Go.RowKit
set_option linter.unusedVariables false

/-- What codeOf makes of an instruction. -/
def codeV (i : Ins) : Value :=
  if i.op = 1 ∨ i.op = 2 ∨ i.op = 3 ∨ i.op = 4 then .iface 143 (.agg #[.int .i64 i.op, .int .i64 i.d, .int .i64 i.a, .int .i64 i.b])
  else if i.op = 5 then .iface 93 (.agg #[.int .i64 i.d, .int .i64 i.lo, .int .i64 i.hi])
  else if i.op = 6 then .iface 137 (.agg #[.int .i64 i.d, .int .i64 i.a])
  else if i.op = 7 then .iface 139 (.agg #[.int .i64 i.a, .int .i64 i.b])
  else if i.op = 8 then .iface 98 (.agg #[.int .i64 i.rel, .int .i64 i.a, .int .i64 i.b, .int .i64 i.to])
  else if i.op = 9 then .iface 101 (.agg #[.int .i64 i.to])
  else if i.op = 10 then .iface 103 (.agg #[.int .i64 i.d, .int .i64 i.a, .int .i64 i.to])
  else if i.op = 11 then .iface 105 (.agg #[.int .i64 i.rel, .int .i64 i.a, .int .i64 i.b])
  else if i.op = 12 then .iface 141 (.agg #[.int .i64 i.a])
  else .nilIface

theorem opCases (op : Int) : op = 1 ∨ op = 2 ∨ op = 3 ∨ op = 4 ∨ op = 5 ∨ op = 6 ∨ op = 7 ∨ op = 8 ∨ op = 9 ∨ op = 10 ∨ op = 11 ∨ op = 12 ∨ (op ≠ 1 ∧ op ≠ 2 ∧ op ≠ 3 ∧ op ≠ 4 ∧ op ≠ 5 ∧ op ≠ 6 ∧ op ≠ 7 ∧ op ≠ 8 ∧ op ≠ 9 ∧ op ≠ 10 ∧ op ≠ 11 ∧ op ≠ 12) := by omega

set_option maxRecDepth 100000 in
set_option maxHeartbeats 8000000 in
theorem codeOf (i : Ins) (w : World) :
    Calls Tryz.prog 47 #[i.v] w fun e w' => e = .returned (codeV i) ∧ Grew w w' := by
  obtain ⟨op, d, a, b, rel, lo, hi, to⟩ := i
  rcases opCases op with rfl | rfl | rfl | rfl | rfl | rfl | rfl | rfl | rfl | rfl | rfl | rfl | ⟨n1, n2, n3, n4, n5, n6, n7, n8, n9, n10, n11, n12⟩
  · go_enter Tryz.func47, Tryz.ntmps47
    go_wp2
    go_returns
    exact ⟨rfl, by unfold Grew; go_grown⟩
  · go_enter Tryz.func47, Tryz.ntmps47
    go_wp2
    go_returns
    exact ⟨rfl, by unfold Grew; go_grown⟩
  · go_enter Tryz.func47, Tryz.ntmps47
    go_wp2
    go_returns
    exact ⟨rfl, by unfold Grew; go_grown⟩
  · go_enter Tryz.func47, Tryz.ntmps47
    go_wp2
    go_returns
    exact ⟨rfl, by unfold Grew; go_grown⟩
  · go_enter Tryz.func47, Tryz.ntmps47
    go_wp2
    go_returns
    exact ⟨rfl, by unfold Grew; go_grown⟩
  · go_enter Tryz.func47, Tryz.ntmps47
    go_wp2
    go_returns
    exact ⟨rfl, by unfold Grew; go_grown⟩
  · go_enter Tryz.func47, Tryz.ntmps47
    go_wp2
    go_returns
    exact ⟨rfl, by unfold Grew; go_grown⟩
  · go_enter Tryz.func47, Tryz.ntmps47
    go_wp2
    go_returns
    exact ⟨rfl, by unfold Grew; go_grown⟩
  · go_enter Tryz.func47, Tryz.ntmps47
    go_wp2
    go_returns
    exact ⟨rfl, by unfold Grew; go_grown⟩
  · go_enter Tryz.func47, Tryz.ntmps47
    go_wp2
    go_returns
    exact ⟨rfl, by unfold Grew; go_grown⟩
  · go_enter Tryz.func47, Tryz.ntmps47
    go_wp2
    go_returns
    exact ⟨rfl, by unfold Grew; go_grown⟩
  · go_enter Tryz.func47, Tryz.ntmps47
    go_wp2
    go_returns
    exact ⟨rfl, by unfold Grew; go_grown⟩
  · have HV : Hid (codeV ⟨op, d, a, b, rel, lo, hi, to⟩ = .nilIface) := Lib.hid (by unfold codeV; simp [n1, n2, n3, n4, n5, n6, n7, n8, n9, n10, n11, n12])
    have d1 : (op == 1) = false := by simpa using n1
    have d2 : (op == 2) = false := by simpa using n2
    have d3 : (op == 3) = false := by simpa using n3
    have d4 : (op == 4) = false := by simpa using n4
    have d5 : (op == 5) = false := by simpa using n5
    have d6 : (op == 6) = false := by simpa using n6
    have d7 : (op == 7) = false := by simpa using n7
    have d8 : (op == 8) = false := by simpa using n8
    have d9 : (op == 9) = false := by simpa using n9
    have d10 : (op == 10) = false := by simpa using n10
    have d11 : (op == 11) = false := by simpa using n11
    have d12 : (op == 12) = false := by simpa using n12
    clear n1 n2 n3 n4 n5 n6 n7 n8 n9 n10 n11 n12
    go_enter Tryz.func47, Tryz.ntmps47
    go_wp2
    go_returns
    exact ⟨by rw [HV.out]; rfl, by unfold Grew; go_grown⟩

/-- What an instruction has beside what its kind has. -/
def formV (i : Ins) : Ins :=
  if i.op = 1 then ⟨0, 0, 0, 0, i.rel, i.lo, i.hi, i.to⟩
  else if i.op = 2 then ⟨0, 0, 0, 0, i.rel, i.lo, i.hi, i.to⟩
  else if i.op = 3 then ⟨0, 0, 0, 0, i.rel, i.lo, i.hi, i.to⟩
  else if i.op = 4 then ⟨0, 0, 0, 0, i.rel, i.lo, i.hi, i.to⟩
  else if i.op = 5 then ⟨0, 0, i.a, i.b, i.rel, 0, 0, i.to⟩
  else if i.op = 6 then ⟨0, 0, 0, i.b, i.rel, i.lo, i.hi, i.to⟩
  else if i.op = 7 then ⟨0, i.d, 0, 0, i.rel, i.lo, i.hi, i.to⟩
  else if i.op = 8 then ⟨0, i.d, 0, 0, 0, i.lo, i.hi, 0⟩
  else if i.op = 9 then ⟨0, i.d, i.a, i.b, i.rel, i.lo, i.hi, 0⟩
  else if i.op = 10 then ⟨0, 0, 0, i.b, i.rel, i.lo, i.hi, 0⟩
  else if i.op = 11 then ⟨0, i.d, 0, 0, 0, i.lo, i.hi, i.to⟩
  else if i.op = 12 then ⟨0, i.d, 0, i.b, i.rel, i.lo, i.hi, i.to⟩
  else { i with op := 0 }

set_option maxRecDepth 100000 in
set_option maxHeartbeats 8000000 in
theorem l3Form (i : Ins) (w : World) (h1 : 1 ≤ i.op) (h2 : i.op ≤ 12) :
    Calls Tryz.prog 52 #[i.v] w fun e w' => e = .returned (formV i).v ∧ Grew w w' := by
  obtain ⟨op, d, a, b, rel, lo, hi, to⟩ := i
  simp only at h1 h2
  have h : op = 1 ∨ op = 2 ∨ op = 3 ∨ op = 4 ∨ op = 5 ∨ op = 6 ∨ op = 7 ∨ op = 8 ∨ op = 9 ∨ op = 10 ∨ op = 11 ∨ op = 12 := by omega
  rcases h with rfl | rfl | rfl | rfl | rfl | rfl | rfl | rfl | rfl | rfl | rfl | rfl
  · clear h1 h2
    go_enter Tryz.func52, Tryz.ntmps52
    go_wp2
    go_returns
    exact ⟨rfl, by unfold Grew; go_grown⟩
  · clear h1 h2
    go_enter Tryz.func52, Tryz.ntmps52
    go_wp2
    go_returns
    exact ⟨rfl, by unfold Grew; go_grown⟩
  · clear h1 h2
    go_enter Tryz.func52, Tryz.ntmps52
    go_wp2
    go_returns
    exact ⟨rfl, by unfold Grew; go_grown⟩
  · clear h1 h2
    go_enter Tryz.func52, Tryz.ntmps52
    go_wp2
    go_returns
    exact ⟨rfl, by unfold Grew; go_grown⟩
  · clear h1 h2
    go_enter Tryz.func52, Tryz.ntmps52
    go_wp2
    go_returns
    exact ⟨rfl, by unfold Grew; go_grown⟩
  · clear h1 h2
    go_enter Tryz.func52, Tryz.ntmps52
    go_wp2
    go_returns
    exact ⟨rfl, by unfold Grew; go_grown⟩
  · clear h1 h2
    go_enter Tryz.func52, Tryz.ntmps52
    go_wp2
    go_returns
    exact ⟨rfl, by unfold Grew; go_grown⟩
  · clear h1 h2
    go_enter Tryz.func52, Tryz.ntmps52
    go_wp2
    go_returns
    exact ⟨rfl, by unfold Grew; go_grown⟩
  · clear h1 h2
    go_enter Tryz.func52, Tryz.ntmps52
    go_wp2
    go_returns
    exact ⟨rfl, by unfold Grew; go_grown⟩
  · clear h1 h2
    go_enter Tryz.func52, Tryz.ntmps52
    go_wp2
    go_returns
    exact ⟨rfl, by unfold Grew; go_grown⟩
  · clear h1 h2
    go_enter Tryz.func52, Tryz.ntmps52
    go_wp2
    go_returns
    exact ⟨rfl, by unfold Grew; go_grown⟩
  · clear h1 h2
    go_enter Tryz.func52, Tryz.ntmps52
    go_wp2
    go_returns
    exact ⟨rfl, by unfold Grew; go_grown⟩

end Go.Proofs.YtcdfomoglkhboaaGreatDoor
