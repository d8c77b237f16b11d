/- The kinds of instructions: type assertions and the method ins. No condition. -/
import Derived.Test.YtmknnbbhhnmpaaaExt
namespace Go.Proofs.Ytmknnbbhhnmpaaa
open Go.RowKit
set_option linter.unusedVariables false

theorem methArith (n : Nat) (op d a b : Int) (w : World) : (method (n + 1) 188 (.agg #[.int .i64 op, .int .i64 d, .int .i64 a, .int .i64 b]) "loop.example/outwork/impl.ins").run Try.prog w = .ok (217, .agg #[.int .i64 op, .int .i64 d, .int .i64 a, .int .i64 b]) w := by kernel_rfl
theorem asArith (v : Value) (xT : TypeId) (w : World) : (Instr.typeAssert (.iface 188 v) xT 188 true).run Try.prog w = .ok (.tuple #[v, .bool true]) w := by kernel_rfl
theorem asNotArith (t : TypeId) (v : Value) (xT : TypeId) (w : World) (h : t ≠ 188) : (Instr.typeAssert (.iface t v) xT 188 true).run Try.prog w = .ok (.tuple #[.agg #[.int .i64 0, .int .i64 0, .int .i64 0, .int .i64 0], .bool false]) w := by simp [Instr.typeAssert, go_sem, h]
theorem asNilArith (xT : TypeId) (w : World) : (Instr.typeAssert .nilIface xT 188 true).run Try.prog w = .ok (.tuple #[.agg #[.int .i64 0, .int .i64 0, .int .i64 0, .int .i64 0], .bool false]) w := by kernel_rfl
theorem methAny (n : Nat) (d lo hi : Int) (w : World) : (method (n + 1) 116 (.agg #[.int .i64 d, .int .i64 lo, .int .i64 hi]) "loop.example/outwork/impl.ins").run Try.prog w = .ok (212, .agg #[.int .i64 d, .int .i64 lo, .int .i64 hi]) w := by kernel_rfl
theorem asAny (v : Value) (xT : TypeId) (w : World) : (Instr.typeAssert (.iface 116 v) xT 116 true).run Try.prog w = .ok (.tuple #[v, .bool true]) w := by kernel_rfl
theorem asNotAny (t : TypeId) (v : Value) (xT : TypeId) (w : World) (h : t ≠ 116) : (Instr.typeAssert (.iface t v) xT 116 true).run Try.prog w = .ok (.tuple #[.agg #[.int .i64 0, .int .i64 0, .int .i64 0], .bool false]) w := by simp [Instr.typeAssert, go_sem, h]
theorem asNilAny (xT : TypeId) (w : World) : (Instr.typeAssert .nilIface xT 116 true).run Try.prog w = .ok (.tuple #[.agg #[.int .i64 0, .int .i64 0, .int .i64 0], .bool false]) w := by kernel_rfl
theorem methLoad (n : Nat) (d a : Int) (w : World) : (method (n + 1) 190 (.agg #[.int .i64 d, .int .i64 a]) "loop.example/outwork/impl.ins").run Try.prog w = .ok (218, .agg #[.int .i64 d, .int .i64 a]) w := by kernel_rfl
theorem asLoad (v : Value) (xT : TypeId) (w : World) : (Instr.typeAssert (.iface 190 v) xT 190 true).run Try.prog w = .ok (.tuple #[v, .bool true]) w := by kernel_rfl
theorem asNotLoad (t : TypeId) (v : Value) (xT : TypeId) (w : World) (h : t ≠ 190) : (Instr.typeAssert (.iface t v) xT 190 true).run Try.prog w = .ok (.tuple #[.agg #[.int .i64 0, .int .i64 0], .bool false]) w := by simp [Instr.typeAssert, go_sem, h]
theorem asNilLoad (xT : TypeId) (w : World) : (Instr.typeAssert .nilIface xT 190 true).run Try.prog w = .ok (.tuple #[.agg #[.int .i64 0, .int .i64 0], .bool false]) w := by kernel_rfl
theorem methStore (n : Nat) (a b : Int) (w : World) : (method (n + 1) 192 (.agg #[.int .i64 a, .int .i64 b]) "loop.example/outwork/impl.ins").run Try.prog w = .ok (219, .agg #[.int .i64 a, .int .i64 b]) w := by kernel_rfl
theorem asStore (v : Value) (xT : TypeId) (w : World) : (Instr.typeAssert (.iface 192 v) xT 192 true).run Try.prog w = .ok (.tuple #[v, .bool true]) w := by kernel_rfl
theorem asNotStore (t : TypeId) (v : Value) (xT : TypeId) (w : World) (h : t ≠ 192) : (Instr.typeAssert (.iface t v) xT 192 true).run Try.prog w = .ok (.tuple #[.agg #[.int .i64 0, .int .i64 0], .bool false]) w := by simp [Instr.typeAssert, go_sem, h]
theorem asNilStore (xT : TypeId) (w : World) : (Instr.typeAssert .nilIface xT 192 true).run Try.prog w = .ok (.tuple #[.agg #[.int .i64 0, .int .i64 0], .bool false]) w := by kernel_rfl
theorem methIf (n : Nat) (rel a b to : Int) (w : World) : (method (n + 1) 118 (.agg #[.int .i64 rel, .int .i64 a, .int .i64 b, .int .i64 to]) "loop.example/outwork/impl.ins").run Try.prog w = .ok (213, .agg #[.int .i64 rel, .int .i64 a, .int .i64 b, .int .i64 to]) w := by kernel_rfl
theorem asIf (v : Value) (xT : TypeId) (w : World) : (Instr.typeAssert (.iface 118 v) xT 118 true).run Try.prog w = .ok (.tuple #[v, .bool true]) w := by kernel_rfl
theorem asNotIf (t : TypeId) (v : Value) (xT : TypeId) (w : World) (h : t ≠ 118) : (Instr.typeAssert (.iface t v) xT 118 true).run Try.prog w = .ok (.tuple #[.agg #[.int .i64 0, .int .i64 0, .int .i64 0, .int .i64 0], .bool false]) w := by simp [Instr.typeAssert, go_sem, h]
theorem asNilIf (xT : TypeId) (w : World) : (Instr.typeAssert .nilIface xT 118 true).run Try.prog w = .ok (.tuple #[.agg #[.int .i64 0, .int .i64 0, .int .i64 0, .int .i64 0], .bool false]) w := by kernel_rfl
theorem methJump (n : Nat) (to : Int) (w : World) : (method (n + 1) 121 (.agg #[.int .i64 to]) "loop.example/outwork/impl.ins").run Try.prog w = .ok (214, .agg #[.int .i64 to]) w := by kernel_rfl
theorem asJump (v : Value) (xT : TypeId) (w : World) : (Instr.typeAssert (.iface 121 v) xT 121 true).run Try.prog w = .ok (.tuple #[v, .bool true]) w := by kernel_rfl
theorem asNotJump (t : TypeId) (v : Value) (xT : TypeId) (w : World) (h : t ≠ 121) : (Instr.typeAssert (.iface t v) xT 121 true).run Try.prog w = .ok (.tuple #[.agg #[.int .i64 0], .bool false]) w := by simp [Instr.typeAssert, go_sem, h]
theorem asNilJump (xT : TypeId) (w : World) : (Instr.typeAssert .nilIface xT 121 true).run Try.prog w = .ok (.tuple #[.agg #[.int .i64 0], .bool false]) w := by kernel_rfl
theorem methCall (n : Nat) (d a to : Int) (w : World) : (method (n + 1) 123 (.agg #[.int .i64 d, .int .i64 a, .int .i64 to]) "loop.example/outwork/impl.ins").run Try.prog w = .ok (215, .agg #[.int .i64 d, .int .i64 a, .int .i64 to]) w := by kernel_rfl
theorem asCall (v : Value) (xT : TypeId) (w : World) : (Instr.typeAssert (.iface 123 v) xT 123 true).run Try.prog w = .ok (.tuple #[v, .bool true]) w := by kernel_rfl
theorem asNotCall (t : TypeId) (v : Value) (xT : TypeId) (w : World) (h : t ≠ 123) : (Instr.typeAssert (.iface t v) xT 123 true).run Try.prog w = .ok (.tuple #[.agg #[.int .i64 0, .int .i64 0, .int .i64 0], .bool false]) w := by simp [Instr.typeAssert, go_sem, h]
theorem asNilCall (xT : TypeId) (w : World) : (Instr.typeAssert .nilIface xT 123 true).run Try.prog w = .ok (.tuple #[.agg #[.int .i64 0, .int .i64 0, .int .i64 0], .bool false]) w := by kernel_rfl
theorem methAssert (n : Nat) (rel a b : Int) (w : World) : (method (n + 1) 125 (.agg #[.int .i64 rel, .int .i64 a, .int .i64 b]) "loop.example/outwork/impl.ins").run Try.prog w = .ok (216, .agg #[.int .i64 rel, .int .i64 a, .int .i64 b]) w := by kernel_rfl
theorem asAssert (v : Value) (xT : TypeId) (w : World) : (Instr.typeAssert (.iface 125 v) xT 125 true).run Try.prog w = .ok (.tuple #[v, .bool true]) w := by kernel_rfl
theorem asNotAssert (t : TypeId) (v : Value) (xT : TypeId) (w : World) (h : t ≠ 125) : (Instr.typeAssert (.iface t v) xT 125 true).run Try.prog w = .ok (.tuple #[.agg #[.int .i64 0, .int .i64 0, .int .i64 0], .bool false]) w := by simp [Instr.typeAssert, go_sem, h]
theorem asNilAssert (xT : TypeId) (w : World) : (Instr.typeAssert .nilIface xT 125 true).run Try.prog w = .ok (.tuple #[.agg #[.int .i64 0, .int .i64 0, .int .i64 0], .bool false]) w := by kernel_rfl
theorem methRet (n : Nat) (a : Int) (w : World) : (method (n + 1) 194 (.agg #[.int .i64 a]) "loop.example/outwork/impl.ins").run Try.prog w = .ok (220, .agg #[.int .i64 a]) w := by kernel_rfl
theorem asRet (v : Value) (xT : TypeId) (w : World) : (Instr.typeAssert (.iface 194 v) xT 194 true).run Try.prog w = .ok (.tuple #[v, .bool true]) w := by kernel_rfl
theorem asNotRet (t : TypeId) (v : Value) (xT : TypeId) (w : World) (h : t ≠ 194) : (Instr.typeAssert (.iface t v) xT 194 true).run Try.prog w = .ok (.tuple #[.agg #[.int .i64 0], .bool false]) w := by simp [Instr.typeAssert, go_sem, h]
theorem asNilRet (xT : TypeId) (w : World) : (Instr.typeAssert .nilIface xT 194 true).run Try.prog w = .ok (.tuple #[.agg #[.int .i64 0], .bool false]) w := by kernel_rfl
end Go.Proofs.Ytmknnbbhhnmpaaa
