/- The kinds of instructions: type assertions and the method ins. No condition. -/
import Derived.Test.YtcdfomoglkhboaaGreatDoorDr
namespace Go.Proofs.YtcdfomoglkhboaaGreatDoor
open Go.RowKit
set_option linter.unusedVariables false

theorem methArith (n : Nat) (op d a b : Int) (w : World) : (method (n + 1) 143 (.agg #[.int .i64 op, .int .i64 d, .int .i64 a, .int .i64 b]) "loop.example/outwork/impl.ins").run Tryz.prog w = .ok (190, .agg #[.int .i64 op, .int .i64 d, .int .i64 a, .int .i64 b]) w := by kernel_rfl
theorem asArith (v : Value) (xT : TypeId) (w : World) : (Instr.typeAssert (.iface 143 v) xT 143 true).run Tryz.prog w = .ok (.tuple #[v, .bool true]) w := by kernel_rfl
theorem asNotArith (t : TypeId) (v : Value) (xT : TypeId) (w : World) (h : t ≠ 143) : (Instr.typeAssert (.iface t v) xT 143 true).run Tryz.prog w = .ok (.tuple #[.agg #[.int .i64 0, .int .i64 0, .int .i64 0, .int .i64 0], .bool false]) w := by simp [Instr.typeAssert, go_sem, h]
theorem asNilArith (xT : TypeId) (w : World) : (Instr.typeAssert .nilIface xT 143 true).run Tryz.prog w = .ok (.tuple #[.agg #[.int .i64 0, .int .i64 0, .int .i64 0, .int .i64 0], .bool false]) w := by kernel_rfl
theorem methAny (n : Nat) (d lo hi : Int) (w : World) : (method (n + 1) 93 (.agg #[.int .i64 d, .int .i64 lo, .int .i64 hi]) "loop.example/outwork/impl.ins").run Tryz.prog w = .ok (179, .agg #[.int .i64 d, .int .i64 lo, .int .i64 hi]) w := by kernel_rfl
theorem asAny (v : Value) (xT : TypeId) (w : World) : (Instr.typeAssert (.iface 93 v) xT 93 true).run Tryz.prog w = .ok (.tuple #[v, .bool true]) w := by kernel_rfl
theorem asNotAny (t : TypeId) (v : Value) (xT : TypeId) (w : World) (h : t ≠ 93) : (Instr.typeAssert (.iface t v) xT 93 true).run Tryz.prog w = .ok (.tuple #[.agg #[.int .i64 0, .int .i64 0, .int .i64 0], .bool false]) w := by simp [Instr.typeAssert, go_sem, h]
theorem asNilAny (xT : TypeId) (w : World) : (Instr.typeAssert .nilIface xT 93 true).run Tryz.prog w = .ok (.tuple #[.agg #[.int .i64 0, .int .i64 0, .int .i64 0], .bool false]) w := by kernel_rfl
theorem methLoad (n : Nat) (d a : Int) (w : World) : (method (n + 1) 137 (.agg #[.int .i64 d, .int .i64 a]) "loop.example/outwork/impl.ins").run Tryz.prog w = .ok (187, .agg #[.int .i64 d, .int .i64 a]) w := by kernel_rfl
theorem asLoad (v : Value) (xT : TypeId) (w : World) : (Instr.typeAssert (.iface 137 v) xT 137 true).run Tryz.prog w = .ok (.tuple #[v, .bool true]) w := by kernel_rfl
theorem asNotLoad (t : TypeId) (v : Value) (xT : TypeId) (w : World) (h : t ≠ 137) : (Instr.typeAssert (.iface t v) xT 137 true).run Tryz.prog w = .ok (.tuple #[.agg #[.int .i64 0, .int .i64 0], .bool false]) w := by simp [Instr.typeAssert, go_sem, h]
theorem asNilLoad (xT : TypeId) (w : World) : (Instr.typeAssert .nilIface xT 137 true).run Tryz.prog w = .ok (.tuple #[.agg #[.int .i64 0, .int .i64 0], .bool false]) w := by kernel_rfl
theorem methStore (n : Nat) (a b : Int) (w : World) : (method (n + 1) 139 (.agg #[.int .i64 a, .int .i64 b]) "loop.example/outwork/impl.ins").run Tryz.prog w = .ok (188, .agg #[.int .i64 a, .int .i64 b]) w := by kernel_rfl
theorem asStore (v : Value) (xT : TypeId) (w : World) : (Instr.typeAssert (.iface 139 v) xT 139 true).run Tryz.prog w = .ok (.tuple #[v, .bool true]) w := by kernel_rfl
theorem asNotStore (t : TypeId) (v : Value) (xT : TypeId) (w : World) (h : t ≠ 139) : (Instr.typeAssert (.iface t v) xT 139 true).run Tryz.prog w = .ok (.tuple #[.agg #[.int .i64 0, .int .i64 0], .bool false]) w := by simp [Instr.typeAssert, go_sem, h]
theorem asNilStore (xT : TypeId) (w : World) : (Instr.typeAssert .nilIface xT 139 true).run Tryz.prog w = .ok (.tuple #[.agg #[.int .i64 0, .int .i64 0], .bool false]) w := by kernel_rfl
theorem methIf (n : Nat) (rel a b to : Int) (w : World) : (method (n + 1) 98 (.agg #[.int .i64 rel, .int .i64 a, .int .i64 b, .int .i64 to]) "loop.example/outwork/impl.ins").run Tryz.prog w = .ok (180, .agg #[.int .i64 rel, .int .i64 a, .int .i64 b, .int .i64 to]) w := by kernel_rfl
theorem asIf (v : Value) (xT : TypeId) (w : World) : (Instr.typeAssert (.iface 98 v) xT 98 true).run Tryz.prog w = .ok (.tuple #[v, .bool true]) w := by kernel_rfl
theorem asNotIf (t : TypeId) (v : Value) (xT : TypeId) (w : World) (h : t ≠ 98) : (Instr.typeAssert (.iface t v) xT 98 true).run Tryz.prog w = .ok (.tuple #[.agg #[.int .i64 0, .int .i64 0, .int .i64 0, .int .i64 0], .bool false]) w := by simp [Instr.typeAssert, go_sem, h]
theorem asNilIf (xT : TypeId) (w : World) : (Instr.typeAssert .nilIface xT 98 true).run Tryz.prog w = .ok (.tuple #[.agg #[.int .i64 0, .int .i64 0, .int .i64 0, .int .i64 0], .bool false]) w := by kernel_rfl
theorem methJump (n : Nat) (to : Int) (w : World) : (method (n + 1) 101 (.agg #[.int .i64 to]) "loop.example/outwork/impl.ins").run Tryz.prog w = .ok (181, .agg #[.int .i64 to]) w := by kernel_rfl
theorem asJump (v : Value) (xT : TypeId) (w : World) : (Instr.typeAssert (.iface 101 v) xT 101 true).run Tryz.prog w = .ok (.tuple #[v, .bool true]) w := by kernel_rfl
theorem asNotJump (t : TypeId) (v : Value) (xT : TypeId) (w : World) (h : t ≠ 101) : (Instr.typeAssert (.iface t v) xT 101 true).run Tryz.prog w = .ok (.tuple #[.agg #[.int .i64 0], .bool false]) w := by simp [Instr.typeAssert, go_sem, h]
theorem asNilJump (xT : TypeId) (w : World) : (Instr.typeAssert .nilIface xT 101 true).run Tryz.prog w = .ok (.tuple #[.agg #[.int .i64 0], .bool false]) w := by kernel_rfl
theorem methCall (n : Nat) (d a to : Int) (w : World) : (method (n + 1) 103 (.agg #[.int .i64 d, .int .i64 a, .int .i64 to]) "loop.example/outwork/impl.ins").run Tryz.prog w = .ok (182, .agg #[.int .i64 d, .int .i64 a, .int .i64 to]) w := by kernel_rfl
theorem asCall (v : Value) (xT : TypeId) (w : World) : (Instr.typeAssert (.iface 103 v) xT 103 true).run Tryz.prog w = .ok (.tuple #[v, .bool true]) w := by kernel_rfl
theorem asNotCall (t : TypeId) (v : Value) (xT : TypeId) (w : World) (h : t ≠ 103) : (Instr.typeAssert (.iface t v) xT 103 true).run Tryz.prog w = .ok (.tuple #[.agg #[.int .i64 0, .int .i64 0, .int .i64 0], .bool false]) w := by simp [Instr.typeAssert, go_sem, h]
theorem asNilCall (xT : TypeId) (w : World) : (Instr.typeAssert .nilIface xT 103 true).run Tryz.prog w = .ok (.tuple #[.agg #[.int .i64 0, .int .i64 0, .int .i64 0], .bool false]) w := by kernel_rfl
theorem methAssert (n : Nat) (rel a b : Int) (w : World) : (method (n + 1) 105 (.agg #[.int .i64 rel, .int .i64 a, .int .i64 b]) "loop.example/outwork/impl.ins").run Tryz.prog w = .ok (183, .agg #[.int .i64 rel, .int .i64 a, .int .i64 b]) w := by kernel_rfl
theorem asAssert (v : Value) (xT : TypeId) (w : World) : (Instr.typeAssert (.iface 105 v) xT 105 true).run Tryz.prog w = .ok (.tuple #[v, .bool true]) w := by kernel_rfl
theorem asNotAssert (t : TypeId) (v : Value) (xT : TypeId) (w : World) (h : t ≠ 105) : (Instr.typeAssert (.iface t v) xT 105 true).run Tryz.prog w = .ok (.tuple #[.agg #[.int .i64 0, .int .i64 0, .int .i64 0], .bool false]) w := by simp [Instr.typeAssert, go_sem, h]
theorem asNilAssert (xT : TypeId) (w : World) : (Instr.typeAssert .nilIface xT 105 true).run Tryz.prog w = .ok (.tuple #[.agg #[.int .i64 0, .int .i64 0, .int .i64 0], .bool false]) w := by kernel_rfl
theorem methRet (n : Nat) (a : Int) (w : World) : (method (n + 1) 141 (.agg #[.int .i64 a]) "loop.example/outwork/impl.ins").run Tryz.prog w = .ok (189, .agg #[.int .i64 a]) w := by kernel_rfl
theorem asRet (v : Value) (xT : TypeId) (w : World) : (Instr.typeAssert (.iface 141 v) xT 141 true).run Tryz.prog w = .ok (.tuple #[v, .bool true]) w := by kernel_rfl
theorem asNotRet (t : TypeId) (v : Value) (xT : TypeId) (w : World) (h : t ≠ 141) : (Instr.typeAssert (.iface t v) xT 141 true).run Tryz.prog w = .ok (.tuple #[.agg #[.int .i64 0], .bool false]) w := by simp [Instr.typeAssert, go_sem, h]
theorem asNilRet (xT : TypeId) (w : World) : (Instr.typeAssert .nilIface xT 141 true).run Tryz.prog w = .ok (.tuple #[.agg #[.int .i64 0], .bool false]) w := by kernel_rfl
end Go.Proofs.YtcdfomoglkhboaaGreatDoor
