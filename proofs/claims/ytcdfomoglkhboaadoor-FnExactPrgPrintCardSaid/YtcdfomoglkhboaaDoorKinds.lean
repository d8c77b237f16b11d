/- The kinds of instructions: type assertions and the method ins. No condition. -/
import Derived.Test.YtcdfomoglkhboaaDoorExt
namespace Go.Proofs.YtcdfomoglkhboaaDoor
open Go.RowKit
set_option linter.unusedVariables false

theorem methArith (n : Nat) (op d a b : Int) (w : World) : (method (n + 1) 88 (.agg #[.int .i64 op, .int .i64 d, .int .i64 a, .int .i64 b]) "loop.example/outwork/impl.ins").run Tryd.prog w = .ok (103, .agg #[.int .i64 op, .int .i64 d, .int .i64 a, .int .i64 b]) w := by kernel_rfl
theorem asArith (v : Value) (xT : TypeId) (w : World) : (Instr.typeAssert (.iface 88 v) xT 88 true).run Tryd.prog w = .ok (.tuple #[v, .bool true]) w := by kernel_rfl
theorem asNotArith (t : TypeId) (v : Value) (xT : TypeId) (w : World) (h : t ≠ 88) : (Instr.typeAssert (.iface t v) xT 88 true).run Tryd.prog w = .ok (.tuple #[.agg #[.int .i64 0, .int .i64 0, .int .i64 0, .int .i64 0], .bool false]) w := by simp [Instr.typeAssert, go_sem, h]
theorem asNilArith (xT : TypeId) (w : World) : (Instr.typeAssert .nilIface xT 88 true).run Tryd.prog w = .ok (.tuple #[.agg #[.int .i64 0, .int .i64 0, .int .i64 0, .int .i64 0], .bool false]) w := by kernel_rfl
theorem methAny (n : Nat) (d lo hi : Int) (w : World) : (method (n + 1) 65 (.agg #[.int .i64 d, .int .i64 lo, .int .i64 hi]) "loop.example/outwork/impl.ins").run Tryd.prog w = .ok (97, .agg #[.int .i64 d, .int .i64 lo, .int .i64 hi]) w := by kernel_rfl
theorem asAny (v : Value) (xT : TypeId) (w : World) : (Instr.typeAssert (.iface 65 v) xT 65 true).run Tryd.prog w = .ok (.tuple #[v, .bool true]) w := by kernel_rfl
theorem asNotAny (t : TypeId) (v : Value) (xT : TypeId) (w : World) (h : t ≠ 65) : (Instr.typeAssert (.iface t v) xT 65 true).run Tryd.prog w = .ok (.tuple #[.agg #[.int .i64 0, .int .i64 0, .int .i64 0], .bool false]) w := by simp [Instr.typeAssert, go_sem, h]
theorem asNilAny (xT : TypeId) (w : World) : (Instr.typeAssert .nilIface xT 65 true).run Tryd.prog w = .ok (.tuple #[.agg #[.int .i64 0, .int .i64 0, .int .i64 0], .bool false]) w := by kernel_rfl
theorem methLoad (n : Nat) (d a : Int) (w : World) : (method (n + 1) 90 (.agg #[.int .i64 d, .int .i64 a]) "loop.example/outwork/impl.ins").run Tryd.prog w = .ok (104, .agg #[.int .i64 d, .int .i64 a]) w := by kernel_rfl
theorem asLoad (v : Value) (xT : TypeId) (w : World) : (Instr.typeAssert (.iface 90 v) xT 90 true).run Tryd.prog w = .ok (.tuple #[v, .bool true]) w := by kernel_rfl
theorem asNotLoad (t : TypeId) (v : Value) (xT : TypeId) (w : World) (h : t ≠ 90) : (Instr.typeAssert (.iface t v) xT 90 true).run Tryd.prog w = .ok (.tuple #[.agg #[.int .i64 0, .int .i64 0], .bool false]) w := by simp [Instr.typeAssert, go_sem, h]
theorem asNilLoad (xT : TypeId) (w : World) : (Instr.typeAssert .nilIface xT 90 true).run Tryd.prog w = .ok (.tuple #[.agg #[.int .i64 0, .int .i64 0], .bool false]) w := by kernel_rfl
theorem methStore (n : Nat) (a b : Int) (w : World) : (method (n + 1) 92 (.agg #[.int .i64 a, .int .i64 b]) "loop.example/outwork/impl.ins").run Tryd.prog w = .ok (105, .agg #[.int .i64 a, .int .i64 b]) w := by kernel_rfl
theorem asStore (v : Value) (xT : TypeId) (w : World) : (Instr.typeAssert (.iface 92 v) xT 92 true).run Tryd.prog w = .ok (.tuple #[v, .bool true]) w := by kernel_rfl
theorem asNotStore (t : TypeId) (v : Value) (xT : TypeId) (w : World) (h : t ≠ 92) : (Instr.typeAssert (.iface t v) xT 92 true).run Tryd.prog w = .ok (.tuple #[.agg #[.int .i64 0, .int .i64 0], .bool false]) w := by simp [Instr.typeAssert, go_sem, h]
theorem asNilStore (xT : TypeId) (w : World) : (Instr.typeAssert .nilIface xT 92 true).run Tryd.prog w = .ok (.tuple #[.agg #[.int .i64 0, .int .i64 0], .bool false]) w := by kernel_rfl
theorem methIf (n : Nat) (rel a b to : Int) (w : World) : (method (n + 1) 70 (.agg #[.int .i64 rel, .int .i64 a, .int .i64 b, .int .i64 to]) "loop.example/outwork/impl.ins").run Tryd.prog w = .ok (98, .agg #[.int .i64 rel, .int .i64 a, .int .i64 b, .int .i64 to]) w := by kernel_rfl
theorem asIf (v : Value) (xT : TypeId) (w : World) : (Instr.typeAssert (.iface 70 v) xT 70 true).run Tryd.prog w = .ok (.tuple #[v, .bool true]) w := by kernel_rfl
theorem asNotIf (t : TypeId) (v : Value) (xT : TypeId) (w : World) (h : t ≠ 70) : (Instr.typeAssert (.iface t v) xT 70 true).run Tryd.prog w = .ok (.tuple #[.agg #[.int .i64 0, .int .i64 0, .int .i64 0, .int .i64 0], .bool false]) w := by simp [Instr.typeAssert, go_sem, h]
theorem asNilIf (xT : TypeId) (w : World) : (Instr.typeAssert .nilIface xT 70 true).run Tryd.prog w = .ok (.tuple #[.agg #[.int .i64 0, .int .i64 0, .int .i64 0, .int .i64 0], .bool false]) w := by kernel_rfl
theorem methJump (n : Nat) (to : Int) (w : World) : (method (n + 1) 73 (.agg #[.int .i64 to]) "loop.example/outwork/impl.ins").run Tryd.prog w = .ok (99, .agg #[.int .i64 to]) w := by kernel_rfl
theorem asJump (v : Value) (xT : TypeId) (w : World) : (Instr.typeAssert (.iface 73 v) xT 73 true).run Tryd.prog w = .ok (.tuple #[v, .bool true]) w := by kernel_rfl
theorem asNotJump (t : TypeId) (v : Value) (xT : TypeId) (w : World) (h : t ≠ 73) : (Instr.typeAssert (.iface t v) xT 73 true).run Tryd.prog w = .ok (.tuple #[.agg #[.int .i64 0], .bool false]) w := by simp [Instr.typeAssert, go_sem, h]
theorem asNilJump (xT : TypeId) (w : World) : (Instr.typeAssert .nilIface xT 73 true).run Tryd.prog w = .ok (.tuple #[.agg #[.int .i64 0], .bool false]) w := by kernel_rfl
theorem methCall (n : Nat) (d a to : Int) (w : World) : (method (n + 1) 75 (.agg #[.int .i64 d, .int .i64 a, .int .i64 to]) "loop.example/outwork/impl.ins").run Tryd.prog w = .ok (100, .agg #[.int .i64 d, .int .i64 a, .int .i64 to]) w := by kernel_rfl
theorem asCall (v : Value) (xT : TypeId) (w : World) : (Instr.typeAssert (.iface 75 v) xT 75 true).run Tryd.prog w = .ok (.tuple #[v, .bool true]) w := by kernel_rfl
theorem asNotCall (t : TypeId) (v : Value) (xT : TypeId) (w : World) (h : t ≠ 75) : (Instr.typeAssert (.iface t v) xT 75 true).run Tryd.prog w = .ok (.tuple #[.agg #[.int .i64 0, .int .i64 0, .int .i64 0], .bool false]) w := by simp [Instr.typeAssert, go_sem, h]
theorem asNilCall (xT : TypeId) (w : World) : (Instr.typeAssert .nilIface xT 75 true).run Tryd.prog w = .ok (.tuple #[.agg #[.int .i64 0, .int .i64 0, .int .i64 0], .bool false]) w := by kernel_rfl
theorem methAssert (n : Nat) (rel a b : Int) (w : World) : (method (n + 1) 77 (.agg #[.int .i64 rel, .int .i64 a, .int .i64 b]) "loop.example/outwork/impl.ins").run Tryd.prog w = .ok (101, .agg #[.int .i64 rel, .int .i64 a, .int .i64 b]) w := by kernel_rfl
theorem asAssert (v : Value) (xT : TypeId) (w : World) : (Instr.typeAssert (.iface 77 v) xT 77 true).run Tryd.prog w = .ok (.tuple #[v, .bool true]) w := by kernel_rfl
theorem asNotAssert (t : TypeId) (v : Value) (xT : TypeId) (w : World) (h : t ≠ 77) : (Instr.typeAssert (.iface t v) xT 77 true).run Tryd.prog w = .ok (.tuple #[.agg #[.int .i64 0, .int .i64 0, .int .i64 0], .bool false]) w := by simp [Instr.typeAssert, go_sem, h]
theorem asNilAssert (xT : TypeId) (w : World) : (Instr.typeAssert .nilIface xT 77 true).run Tryd.prog w = .ok (.tuple #[.agg #[.int .i64 0, .int .i64 0, .int .i64 0], .bool false]) w := by kernel_rfl
theorem methRet (n : Nat) (a : Int) (w : World) : (method (n + 1) 94 (.agg #[.int .i64 a]) "loop.example/outwork/impl.ins").run Tryd.prog w = .ok (106, .agg #[.int .i64 a]) w := by kernel_rfl
theorem asRet (v : Value) (xT : TypeId) (w : World) : (Instr.typeAssert (.iface 94 v) xT 94 true).run Tryd.prog w = .ok (.tuple #[v, .bool true]) w := by kernel_rfl
theorem asNotRet (t : TypeId) (v : Value) (xT : TypeId) (w : World) (h : t ≠ 94) : (Instr.typeAssert (.iface t v) xT 94 true).run Tryd.prog w = .ok (.tuple #[.agg #[.int .i64 0], .bool false]) w := by simp [Instr.typeAssert, go_sem, h]
theorem asNilRet (xT : TypeId) (w : World) : (Instr.typeAssert .nilIface xT 94 true).run Tryd.prog w = .ok (.tuple #[.agg #[.int .i64 0], .bool false]) w := by kernel_rfl
end Go.Proofs.YtcdfomoglkhboaaDoor
