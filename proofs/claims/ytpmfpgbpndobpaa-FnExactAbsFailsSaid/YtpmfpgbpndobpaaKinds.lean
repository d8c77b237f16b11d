/- The kinds of instructions: type assertions and the method ins. No condition. -/
import Derived.Test.YtpmfpgbpndobpaaExt
namespace Go.Proofs.Ytpmfpgbpndobpaa
open Go.RowKit
set_option linter.unusedVariables false

theorem methArith (n : Nat) (op d a b : Int) (w : World) : (method (n + 1) 102 (.agg #[.int .i64 op, .int .i64 d, .int .i64 a, .int .i64 b]) "loop.example/outwork/impl.ins").run Try.prog w = .ok (95, .agg #[.int .i64 op, .int .i64 d, .int .i64 a, .int .i64 b]) w := by kernel_rfl
theorem asArith (v : Value) (xT : TypeId) (w : World) : (Instr.typeAssert (.iface 102 v) xT 102 true).run Try.prog w = .ok (.tuple #[v, .bool true]) w := by kernel_rfl
theorem asNotArith (t : TypeId) (v : Value) (xT : TypeId) (w : World) (h : t ≠ 102) : (Instr.typeAssert (.iface t v) xT 102 true).run Try.prog w = .ok (.tuple #[.agg #[.int .i64 0, .int .i64 0, .int .i64 0, .int .i64 0], .bool false]) w := by simp [Instr.typeAssert, go_sem, h]
theorem asNilArith (xT : TypeId) (w : World) : (Instr.typeAssert .nilIface xT 102 true).run Try.prog w = .ok (.tuple #[.agg #[.int .i64 0, .int .i64 0, .int .i64 0, .int .i64 0], .bool false]) w := by kernel_rfl
theorem methAny (n : Nat) (d lo hi : Int) (w : World) : (method (n + 1) 91 (.agg #[.int .i64 d, .int .i64 lo, .int .i64 hi]) "loop.example/outwork/impl.ins").run Try.prog w = .ok (90, .agg #[.int .i64 d, .int .i64 lo, .int .i64 hi]) w := by kernel_rfl
theorem asAny (v : Value) (xT : TypeId) (w : World) : (Instr.typeAssert (.iface 91 v) xT 91 true).run Try.prog w = .ok (.tuple #[v, .bool true]) w := by kernel_rfl
theorem asNotAny (t : TypeId) (v : Value) (xT : TypeId) (w : World) (h : t ≠ 91) : (Instr.typeAssert (.iface t v) xT 91 true).run Try.prog w = .ok (.tuple #[.agg #[.int .i64 0, .int .i64 0, .int .i64 0], .bool false]) w := by simp [Instr.typeAssert, go_sem, h]
theorem asNilAny (xT : TypeId) (w : World) : (Instr.typeAssert .nilIface xT 91 true).run Try.prog w = .ok (.tuple #[.agg #[.int .i64 0, .int .i64 0, .int .i64 0], .bool false]) w := by kernel_rfl
theorem methLoad (n : Nat) (d a : Int) (w : World) : (method (n + 1) 104 (.agg #[.int .i64 d, .int .i64 a]) "loop.example/outwork/impl.ins").run Try.prog w = .ok (96, .agg #[.int .i64 d, .int .i64 a]) w := by kernel_rfl
theorem asLoad (v : Value) (xT : TypeId) (w : World) : (Instr.typeAssert (.iface 104 v) xT 104 true).run Try.prog w = .ok (.tuple #[v, .bool true]) w := by kernel_rfl
theorem asNotLoad (t : TypeId) (v : Value) (xT : TypeId) (w : World) (h : t ≠ 104) : (Instr.typeAssert (.iface t v) xT 104 true).run Try.prog w = .ok (.tuple #[.agg #[.int .i64 0, .int .i64 0], .bool false]) w := by simp [Instr.typeAssert, go_sem, h]
theorem asNilLoad (xT : TypeId) (w : World) : (Instr.typeAssert .nilIface xT 104 true).run Try.prog w = .ok (.tuple #[.agg #[.int .i64 0, .int .i64 0], .bool false]) w := by kernel_rfl
theorem methStore (n : Nat) (a b : Int) (w : World) : (method (n + 1) 106 (.agg #[.int .i64 a, .int .i64 b]) "loop.example/outwork/impl.ins").run Try.prog w = .ok (97, .agg #[.int .i64 a, .int .i64 b]) w := by kernel_rfl
theorem asStore (v : Value) (xT : TypeId) (w : World) : (Instr.typeAssert (.iface 106 v) xT 106 true).run Try.prog w = .ok (.tuple #[v, .bool true]) w := by kernel_rfl
theorem asNotStore (t : TypeId) (v : Value) (xT : TypeId) (w : World) (h : t ≠ 106) : (Instr.typeAssert (.iface t v) xT 106 true).run Try.prog w = .ok (.tuple #[.agg #[.int .i64 0, .int .i64 0], .bool false]) w := by simp [Instr.typeAssert, go_sem, h]
theorem asNilStore (xT : TypeId) (w : World) : (Instr.typeAssert .nilIface xT 106 true).run Try.prog w = .ok (.tuple #[.agg #[.int .i64 0, .int .i64 0], .bool false]) w := by kernel_rfl
theorem methIf (n : Nat) (rel a b to : Int) (w : World) : (method (n + 1) 93 (.agg #[.int .i64 rel, .int .i64 a, .int .i64 b, .int .i64 to]) "loop.example/outwork/impl.ins").run Try.prog w = .ok (91, .agg #[.int .i64 rel, .int .i64 a, .int .i64 b, .int .i64 to]) w := by kernel_rfl
theorem asIf (v : Value) (xT : TypeId) (w : World) : (Instr.typeAssert (.iface 93 v) xT 93 true).run Try.prog w = .ok (.tuple #[v, .bool true]) w := by kernel_rfl
theorem asNotIf (t : TypeId) (v : Value) (xT : TypeId) (w : World) (h : t ≠ 93) : (Instr.typeAssert (.iface t v) xT 93 true).run Try.prog w = .ok (.tuple #[.agg #[.int .i64 0, .int .i64 0, .int .i64 0, .int .i64 0], .bool false]) w := by simp [Instr.typeAssert, go_sem, h]
theorem asNilIf (xT : TypeId) (w : World) : (Instr.typeAssert .nilIface xT 93 true).run Try.prog w = .ok (.tuple #[.agg #[.int .i64 0, .int .i64 0, .int .i64 0, .int .i64 0], .bool false]) w := by kernel_rfl
theorem methJump (n : Nat) (to : Int) (w : World) : (method (n + 1) 96 (.agg #[.int .i64 to]) "loop.example/outwork/impl.ins").run Try.prog w = .ok (92, .agg #[.int .i64 to]) w := by kernel_rfl
theorem asJump (v : Value) (xT : TypeId) (w : World) : (Instr.typeAssert (.iface 96 v) xT 96 true).run Try.prog w = .ok (.tuple #[v, .bool true]) w := by kernel_rfl
theorem asNotJump (t : TypeId) (v : Value) (xT : TypeId) (w : World) (h : t ≠ 96) : (Instr.typeAssert (.iface t v) xT 96 true).run Try.prog w = .ok (.tuple #[.agg #[.int .i64 0], .bool false]) w := by simp [Instr.typeAssert, go_sem, h]
theorem asNilJump (xT : TypeId) (w : World) : (Instr.typeAssert .nilIface xT 96 true).run Try.prog w = .ok (.tuple #[.agg #[.int .i64 0], .bool false]) w := by kernel_rfl
theorem methCall (n : Nat) (d a to : Int) (w : World) : (method (n + 1) 98 (.agg #[.int .i64 d, .int .i64 a, .int .i64 to]) "loop.example/outwork/impl.ins").run Try.prog w = .ok (93, .agg #[.int .i64 d, .int .i64 a, .int .i64 to]) w := by kernel_rfl
theorem asCall (v : Value) (xT : TypeId) (w : World) : (Instr.typeAssert (.iface 98 v) xT 98 true).run Try.prog w = .ok (.tuple #[v, .bool true]) w := by kernel_rfl
theorem asNotCall (t : TypeId) (v : Value) (xT : TypeId) (w : World) (h : t ≠ 98) : (Instr.typeAssert (.iface t v) xT 98 true).run Try.prog w = .ok (.tuple #[.agg #[.int .i64 0, .int .i64 0, .int .i64 0], .bool false]) w := by simp [Instr.typeAssert, go_sem, h]
theorem asNilCall (xT : TypeId) (w : World) : (Instr.typeAssert .nilIface xT 98 true).run Try.prog w = .ok (.tuple #[.agg #[.int .i64 0, .int .i64 0, .int .i64 0], .bool false]) w := by kernel_rfl
theorem methAssert (n : Nat) (rel a b : Int) (w : World) : (method (n + 1) 100 (.agg #[.int .i64 rel, .int .i64 a, .int .i64 b]) "loop.example/outwork/impl.ins").run Try.prog w = .ok (94, .agg #[.int .i64 rel, .int .i64 a, .int .i64 b]) w := by kernel_rfl
theorem asAssert (v : Value) (xT : TypeId) (w : World) : (Instr.typeAssert (.iface 100 v) xT 100 true).run Try.prog w = .ok (.tuple #[v, .bool true]) w := by kernel_rfl
theorem asNotAssert (t : TypeId) (v : Value) (xT : TypeId) (w : World) (h : t ≠ 100) : (Instr.typeAssert (.iface t v) xT 100 true).run Try.prog w = .ok (.tuple #[.agg #[.int .i64 0, .int .i64 0, .int .i64 0], .bool false]) w := by simp [Instr.typeAssert, go_sem, h]
theorem asNilAssert (xT : TypeId) (w : World) : (Instr.typeAssert .nilIface xT 100 true).run Try.prog w = .ok (.tuple #[.agg #[.int .i64 0, .int .i64 0, .int .i64 0], .bool false]) w := by kernel_rfl
theorem methRet (n : Nat) (a : Int) (w : World) : (method (n + 1) 116 (.agg #[.int .i64 a]) "loop.example/outwork/impl.ins").run Try.prog w = .ok (98, .agg #[.int .i64 a]) w := by kernel_rfl
theorem asRet (v : Value) (xT : TypeId) (w : World) : (Instr.typeAssert (.iface 116 v) xT 116 true).run Try.prog w = .ok (.tuple #[v, .bool true]) w := by kernel_rfl
theorem asNotRet (t : TypeId) (v : Value) (xT : TypeId) (w : World) (h : t ≠ 116) : (Instr.typeAssert (.iface t v) xT 116 true).run Try.prog w = .ok (.tuple #[.agg #[.int .i64 0], .bool false]) w := by simp [Instr.typeAssert, go_sem, h]
theorem asNilRet (xT : TypeId) (w : World) : (Instr.typeAssert .nilIface xT 116 true).run Try.prog w = .ok (.tuple #[.agg #[.int .i64 0], .bool false]) w := by kernel_rfl
end Go.Proofs.Ytpmfpgbpndobpaa
