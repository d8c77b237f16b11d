/- Contracts of the small functions on instructions. No condition. -/
import Derived.Test.YtcdfomoglkhboaaGreatDoorBase
import Derived.Outline
import Derived.Handy
namespace Go.Proofs.YtcdfomoglkhboaaGreatDoor
open Go.RowKit
set_option linter.unusedVariables false

theorem isVar (a : Int) (w : World) :
    Calls Tryz.prog 48 #[.int .i64 a] w fun e w' => e = .returned (.bool (decide (0 ≤ a) && decide (a < 4))) ∧ w = w' := by
  by_cases h1 : 0 ≤ a
  · go_enter Tryz.func48, Tryz.ntmps48
    go_wp2
    go_ret
    exact ⟨by simp [h1], rfl⟩
  · go_enter Tryz.func48, Tryz.ntmps48
    go_wp2
    go_ret
    exact ⟨by simp; omega, rfl⟩

theorem below (a b : Int) (w : World) :
    Calls Tryz.prog 51 #[.int .i64 a, .int .i64 b] w fun e w' => e = .returned (.bool (decide (0 ≤ a) && decide (a < b))) ∧ w = w' := by
  by_cases h1 : 0 ≤ a
  · go_enter Tryz.func51, Tryz.ntmps51
    go_wp2
    go_ret
    exact ⟨by simp [h1], rfl⟩
  · go_enter Tryz.func51, Tryz.ntmps51
    go_wp2
    go_ret
    exact ⟨by simp; omega, rfl⟩

theorem isRel (a : Int) (w : World) :
    Calls Tryz.prog 50 #[.int .i64 a] w fun e w' => e = .returned (.bool (decide (1 ≤ a) && decide (a ≤ 4))) ∧ w = w' := by
  by_cases h1 : 1 ≤ a
  · go_enter Tryz.func50, Tryz.ntmps50
    go_wp2
    go_ret
    exact ⟨by simp [h1], rfl⟩
  · go_enter Tryz.func50, Tryz.ntmps50
    go_wp2
    go_ret
    exact ⟨by simp; omega, rfl⟩

theorem l1In (a b c : Int) (w : World) :
    Calls Tryz.prog 30 #[.int .i64 a, .int .i64 b, .int .i64 c] w fun e w' => e = .returned (.bool (decide (b ≤ a) && decide (a ≤ c))) ∧ w = w' := by
  by_cases h1 : b ≤ a
  · go_enter Tryz.func30, Tryz.ntmps30
    go_wp2
    go_ret
    exact ⟨by simp [h1], rfl⟩
  · go_enter Tryz.func30, Tryz.ntmps30
    go_wp2
    go_ret
    exact ⟨by simp; omega, rfl⟩

theorem specNumOk (a : Int) (w : World) :
    Calls Tryz.prog 53 #[.int .i64 a] w fun e w' => e = .returned (.bool (decide (-32768 ≤ a) && decide (a ≤ 32767))) ∧ w = w' := by
  by_cases h1 : -32768 ≤ a
  · go_enter Tryz.func53, Tryz.ntmps53
    go_wp2
    go_ret
    exact ⟨by simp [h1], rfl⟩
  · go_enter Tryz.func53, Tryz.ntmps53
    go_wp2
    go_ret
    exact ⟨by simp; omega, rfl⟩

theorem implNumOk (a : Int) (w : World) :
    Calls Tryz.prog 32 #[.int .i64 a] w fun e w' => e = .returned (.bool (decide (-32768 ≤ a) && decide (a ≤ 32767))) ∧ w = w' := by
  by_cases h1 : -32768 ≤ a
  · go_enter Tryz.func32, Tryz.ntmps32
    go_wp2
    go_ret
    exact ⟨by simp [h1], rfl⟩
  · go_enter Tryz.func32, Tryz.ntmps32
    go_wp2
    go_ret
    exact ⟨by simp; omega, rfl⟩

/-- An instruction: its eight numbers. -/
structure Ins where
  (op d a b rel lo hi to : Int)
  deriving DecidableEq
abbrev Ins.v (i : Ins) : Value := .agg #[.int .i64 i.op, .int .i64 i.d, .int .i64 i.a, .int .i64 i.b, .int .i64 i.rel, .int .i64 i.lo, .int .i64 i.hi, .int .i64 i.to]

theorem insArith (op d a b : Int) (w : World) :
    Calls Tryz.prog 190 #[.agg #[.int .i64 op, .int .i64 d, .int .i64 a, .int .i64 b]] w fun e w' => e = .returned (Ins.v ⟨op, d, a, b, 0, 0, 0, 0⟩) ∧ Grew w w' := by
  go_enter Tryz.func190, Tryz.ntmps190
  go_wp2
  go_returns
  exact ⟨rfl, by unfold Grew; go_grown⟩

theorem insAny (d lo hi : Int) (w : World) :
    Calls Tryz.prog 179 #[.agg #[.int .i64 d, .int .i64 lo, .int .i64 hi]] w fun e w' => e = .returned (Ins.v ⟨5, d, 0, 0, 0, lo, hi, 0⟩) ∧ Grew w w' := by
  go_enter Tryz.func179, Tryz.ntmps179
  go_wp2
  go_returns
  exact ⟨rfl, by unfold Grew; go_grown⟩

theorem insLoad (d a : Int) (w : World) :
    Calls Tryz.prog 187 #[.agg #[.int .i64 d, .int .i64 a]] w fun e w' => e = .returned (Ins.v ⟨6, d, a, 0, 0, 0, 0, 0⟩) ∧ Grew w w' := by
  go_enter Tryz.func187, Tryz.ntmps187
  go_wp2
  go_returns
  exact ⟨rfl, by unfold Grew; go_grown⟩

theorem insStore (a b : Int) (w : World) :
    Calls Tryz.prog 188 #[.agg #[.int .i64 a, .int .i64 b]] w fun e w' => e = .returned (Ins.v ⟨7, 0, a, b, 0, 0, 0, 0⟩) ∧ Grew w w' := by
  go_enter Tryz.func188, Tryz.ntmps188
  go_wp2
  go_returns
  exact ⟨rfl, by unfold Grew; go_grown⟩

theorem insIf (rel a b to : Int) (w : World) :
    Calls Tryz.prog 180 #[.agg #[.int .i64 rel, .int .i64 a, .int .i64 b, .int .i64 to]] w fun e w' => e = .returned (Ins.v ⟨8, 0, a, b, rel, 0, 0, to⟩) ∧ Grew w w' := by
  go_enter Tryz.func180, Tryz.ntmps180
  go_wp2
  go_returns
  exact ⟨rfl, by unfold Grew; go_grown⟩

theorem insJump (to : Int) (w : World) :
    Calls Tryz.prog 181 #[.agg #[.int .i64 to]] w fun e w' => e = .returned (Ins.v ⟨9, 0, 0, 0, 0, 0, 0, to⟩) ∧ Grew w w' := by
  go_enter Tryz.func181, Tryz.ntmps181
  go_wp2
  go_returns
  exact ⟨rfl, by unfold Grew; go_grown⟩

theorem insCall (d a to : Int) (w : World) :
    Calls Tryz.prog 182 #[.agg #[.int .i64 d, .int .i64 a, .int .i64 to]] w fun e w' => e = .returned (Ins.v ⟨10, d, a, 0, 0, 0, 0, to⟩) ∧ Grew w w' := by
  go_enter Tryz.func182, Tryz.ntmps182
  go_wp2
  go_returns
  exact ⟨rfl, by unfold Grew; go_grown⟩

theorem insAssert (rel a b : Int) (w : World) :
    Calls Tryz.prog 183 #[.agg #[.int .i64 rel, .int .i64 a, .int .i64 b]] w fun e w' => e = .returned (Ins.v ⟨11, 0, a, b, rel, 0, 0, 0⟩) ∧ Grew w w' := by
  go_enter Tryz.func183, Tryz.ntmps183
  go_wp2
  go_returns
  exact ⟨rfl, by unfold Grew; go_grown⟩

theorem insRet (a : Int) (w : World) :
    Calls Tryz.prog 189 #[.agg #[.int .i64 a]] w fun e w' => e = .returned (Ins.v ⟨12, 0, a, 0, 0, 0, 0, 0⟩) ∧ Grew w w' := by
  go_enter Tryz.func189, Tryz.ntmps189
  go_wp2
  go_returns
  exact ⟨rfl, by unfold Grew; go_grown⟩

end Go.Proofs.YtcdfomoglkhboaaGreatDoor
