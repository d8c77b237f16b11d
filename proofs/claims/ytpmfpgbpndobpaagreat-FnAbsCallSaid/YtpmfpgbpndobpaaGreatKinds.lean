/- The kinds of instructions: type assertions and the method ins. No condition. -/
import Derived.Test.YtpmfpgbpndobpaaGreatDr
namespace Go.Proofs.YtpmfpgbpndobpaaGreat
open Go.RowKit
set_option linter.unusedVariables false

theorem methArith (n : Nat) (op d a b : Int) (w : World) : (method (n + 1) 166 (.agg #[.int .i64 op, .int .i64 d, .int .i64 a, .int .i64 b]) "loop.example/outwork/impl.ins").run Tryz.prog w = .ok (200, .agg #[.int .i64 op, .int .i64 d, .int .i64 a, .int .i64 b]) w := by kernel_rfl
theorem asArith (v : Value) (xT : TypeId) (w : World) : (Instr.typeAssert (.iface 166 v) xT 166 true).run Tryz.prog w = .ok (.tuple #[v, .bool true]) w := by kernel_rfl
theorem asNotArith (t : TypeId) (v : Value) (xT : TypeId) (w : World) (h : t ≠ 166) : (Instr.typeAssert (.iface t v) xT 166 true).run Tryz.prog w = .ok (.tuple #[.agg #[.int .i64 0, .int .i64 0, .int .i64 0, .int .i64 0], .bool false]) w := by simp [Instr.typeAssert, go_sem, h]
theorem methAny (n : Nat) (d lo hi : Int) (w : World) : (method (n + 1) 146 (.agg #[.int .i64 d, .int .i64 lo, .int .i64 hi]) "loop.example/outwork/impl.ins").run Tryz.prog w = .ok (194, .agg #[.int .i64 d, .int .i64 lo, .int .i64 hi]) w := by kernel_rfl
theorem asAny (v : Value) (xT : TypeId) (w : World) : (Instr.typeAssert (.iface 146 v) xT 146 true).run Tryz.prog w = .ok (.tuple #[v, .bool true]) w := by kernel_rfl
theorem asNotAny (t : TypeId) (v : Value) (xT : TypeId) (w : World) (h : t ≠ 146) : (Instr.typeAssert (.iface t v) xT 146 true).run Tryz.prog w = .ok (.tuple #[.agg #[.int .i64 0, .int .i64 0, .int .i64 0], .bool false]) w := by simp [Instr.typeAssert, go_sem, h]
theorem asNilAny (xT : TypeId) (w : World) : (Instr.typeAssert .nilIface xT 146 true).run Tryz.prog w = .ok (.tuple #[.agg #[.int .i64 0, .int .i64 0, .int .i64 0], .bool false]) w := by kernel_rfl
theorem methLoad (n : Nat) (d a : Int) (w : World) : (method (n + 1) 168 (.agg #[.int .i64 d, .int .i64 a]) "loop.example/outwork/impl.ins").run Tryz.prog w = .ok (201, .agg #[.int .i64 d, .int .i64 a]) w := by kernel_rfl
theorem asLoad (v : Value) (xT : TypeId) (w : World) : (Instr.typeAssert (.iface 168 v) xT 168 true).run Tryz.prog w = .ok (.tuple #[v, .bool true]) w := by kernel_rfl
theorem asNotLoad (t : TypeId) (v : Value) (xT : TypeId) (w : World) (h : t ≠ 168) : (Instr.typeAssert (.iface t v) xT 168 true).run Tryz.prog w = .ok (.tuple #[.agg #[.int .i64 0, .int .i64 0], .bool false]) w := by simp [Instr.typeAssert, go_sem, h]
theorem methStore (n : Nat) (a b : Int) (w : World) : (method (n + 1) 170 (.agg #[.int .i64 a, .int .i64 b]) "loop.example/outwork/impl.ins").run Tryz.prog w = .ok (202, .agg #[.int .i64 a, .int .i64 b]) w := by kernel_rfl
theorem asStore (v : Value) (xT : TypeId) (w : World) : (Instr.typeAssert (.iface 170 v) xT 170 true).run Tryz.prog w = .ok (.tuple #[v, .bool true]) w := by kernel_rfl
theorem asNotStore (t : TypeId) (v : Value) (xT : TypeId) (w : World) (h : t ≠ 170) : (Instr.typeAssert (.iface t v) xT 170 true).run Tryz.prog w = .ok (.tuple #[.agg #[.int .i64 0, .int .i64 0], .bool false]) w := by simp [Instr.typeAssert, go_sem, h]
theorem methIf (n : Nat) (rel a b to : Int) (w : World) : (method (n + 1) 148 (.agg #[.int .i64 rel, .int .i64 a, .int .i64 b, .int .i64 to]) "loop.example/outwork/impl.ins").run Tryz.prog w = .ok (195, .agg #[.int .i64 rel, .int .i64 a, .int .i64 b, .int .i64 to]) w := by kernel_rfl
theorem asIf (v : Value) (xT : TypeId) (w : World) : (Instr.typeAssert (.iface 148 v) xT 148 true).run Tryz.prog w = .ok (.tuple #[v, .bool true]) w := by kernel_rfl
theorem asNotIf (t : TypeId) (v : Value) (xT : TypeId) (w : World) (h : t ≠ 148) : (Instr.typeAssert (.iface t v) xT 148 true).run Tryz.prog w = .ok (.tuple #[.agg #[.int .i64 0, .int .i64 0, .int .i64 0, .int .i64 0], .bool false]) w := by simp [Instr.typeAssert, go_sem, h]
theorem asNilIf (xT : TypeId) (w : World) : (Instr.typeAssert .nilIface xT 148 true).run Tryz.prog w = .ok (.tuple #[.agg #[.int .i64 0, .int .i64 0, .int .i64 0, .int .i64 0], .bool false]) w := by kernel_rfl
theorem methJump (n : Nat) (to : Int) (w : World) : (method (n + 1) 150 (.agg #[.int .i64 to]) "loop.example/outwork/impl.ins").run Tryz.prog w = .ok (196, .agg #[.int .i64 to]) w := by kernel_rfl
theorem asJump (v : Value) (xT : TypeId) (w : World) : (Instr.typeAssert (.iface 150 v) xT 150 true).run Tryz.prog w = .ok (.tuple #[v, .bool true]) w := by kernel_rfl
theorem asNotJump (t : TypeId) (v : Value) (xT : TypeId) (w : World) (h : t ≠ 150) : (Instr.typeAssert (.iface t v) xT 150 true).run Tryz.prog w = .ok (.tuple #[.agg #[.int .i64 0], .bool false]) w := by simp [Instr.typeAssert, go_sem, h]
theorem asNilJump (xT : TypeId) (w : World) : (Instr.typeAssert .nilIface xT 150 true).run Tryz.prog w = .ok (.tuple #[.agg #[.int .i64 0], .bool false]) w := by kernel_rfl
theorem methCall (n : Nat) (d a to : Int) (w : World) : (method (n + 1) 152 (.agg #[.int .i64 d, .int .i64 a, .int .i64 to]) "loop.example/outwork/impl.ins").run Tryz.prog w = .ok (197, .agg #[.int .i64 d, .int .i64 a, .int .i64 to]) w := by kernel_rfl
theorem asCall (v : Value) (xT : TypeId) (w : World) : (Instr.typeAssert (.iface 152 v) xT 152 true).run Tryz.prog w = .ok (.tuple #[v, .bool true]) w := by kernel_rfl
theorem asNotCall (t : TypeId) (v : Value) (xT : TypeId) (w : World) (h : t ≠ 152) : (Instr.typeAssert (.iface t v) xT 152 true).run Tryz.prog w = .ok (.tuple #[.agg #[.int .i64 0, .int .i64 0, .int .i64 0], .bool false]) w := by simp [Instr.typeAssert, go_sem, h]
theorem asNilCall (xT : TypeId) (w : World) : (Instr.typeAssert .nilIface xT 152 true).run Tryz.prog w = .ok (.tuple #[.agg #[.int .i64 0, .int .i64 0, .int .i64 0], .bool false]) w := by kernel_rfl
theorem methAssert (n : Nat) (rel a b : Int) (w : World) : (method (n + 1) 154 (.agg #[.int .i64 rel, .int .i64 a, .int .i64 b]) "loop.example/outwork/impl.ins").run Tryz.prog w = .ok (198, .agg #[.int .i64 rel, .int .i64 a, .int .i64 b]) w := by kernel_rfl
theorem asAssert (v : Value) (xT : TypeId) (w : World) : (Instr.typeAssert (.iface 154 v) xT 154 true).run Tryz.prog w = .ok (.tuple #[v, .bool true]) w := by kernel_rfl
theorem asNotAssert (t : TypeId) (v : Value) (xT : TypeId) (w : World) (h : t ≠ 154) : (Instr.typeAssert (.iface t v) xT 154 true).run Tryz.prog w = .ok (.tuple #[.agg #[.int .i64 0, .int .i64 0, .int .i64 0], .bool false]) w := by simp [Instr.typeAssert, go_sem, h]
theorem asNilAssert (xT : TypeId) (w : World) : (Instr.typeAssert .nilIface xT 154 true).run Tryz.prog w = .ok (.tuple #[.agg #[.int .i64 0, .int .i64 0, .int .i64 0], .bool false]) w := by kernel_rfl
theorem methRet (n : Nat) (a : Int) (w : World) : (method (n + 1) 156 (.agg #[.int .i64 a]) "loop.example/outwork/impl.ins").run Tryz.prog w = .ok (199, .agg #[.int .i64 a]) w := by kernel_rfl
theorem asRet (v : Value) (xT : TypeId) (w : World) : (Instr.typeAssert (.iface 156 v) xT 156 true).run Tryz.prog w = .ok (.tuple #[v, .bool true]) w := by kernel_rfl
theorem asNotRet (t : TypeId) (v : Value) (xT : TypeId) (w : World) (h : t ≠ 156) : (Instr.typeAssert (.iface t v) xT 156 true).run Tryz.prog w = .ok (.tuple #[.agg #[.int .i64 0], .bool false]) w := by simp [Instr.typeAssert, go_sem, h]
end Go.Proofs.YtpmfpgbpndobpaaGreat
