/- Contracts of the small functions on instructions. No condition. -/
import Derived.Test.YtnjoofpllhbccaaGreatBase
import Derived.Outline
import Derived.Handy
namespace Go.Proofs.YtnjoofpllhbccaaGreat
open Go.RowKit
set_option linter.unusedVariables false

theorem isVar (a : Int) (w : World) :
    Calls Tryz.prog 76 #[.int .i64 a] w fun e w' => e = .returned (.bool (decide (0 ≤ a) && decide (a < 4))) ∧ w = w' := by
  by_cases h1 : 0 ≤ a
  · go_enter Tryz.func76, Tryz.ntmps76
    go_wp2
    go_ret
    exact ⟨by simp [h1], rfl⟩
  · go_enter Tryz.func76, Tryz.ntmps76
    go_wp2
    go_ret
    exact ⟨by simp; omega, rfl⟩

theorem below (a b : Int) (w : World) :
    Calls Tryz.prog 24 #[.int .i64 a, .int .i64 b] w fun e w' => e = .returned (.bool (decide (0 ≤ a) && decide (a < b))) ∧ w = w' := by
  by_cases h1 : 0 ≤ a
  · go_enter Tryz.func24, Tryz.ntmps24
    go_wp2
    go_ret
    exact ⟨by simp [h1], rfl⟩
  · go_enter Tryz.func24, Tryz.ntmps24
    go_wp2
    go_ret
    exact ⟨by simp; omega, rfl⟩

theorem isRel (a : Int) (w : World) :
    Calls Tryz.prog 77 #[.int .i64 a] w fun e w' => e = .returned (.bool (decide (1 ≤ a) && decide (a ≤ 4))) ∧ w = w' := by
  by_cases h1 : 1 ≤ a
  · go_enter Tryz.func77, Tryz.ntmps77
    go_wp2
    go_ret
    exact ⟨by simp [h1], rfl⟩
  · go_enter Tryz.func77, Tryz.ntmps77
    go_wp2
    go_ret
    exact ⟨by simp; omega, rfl⟩

theorem l1In (a b c : Int) (w : World) :
    Calls Tryz.prog 45 #[.int .i64 a, .int .i64 b, .int .i64 c] w fun e w' => e = .returned (.bool (decide (b ≤ a) && decide (a ≤ c))) ∧ w = w' := by
  by_cases h1 : b ≤ a
  · go_enter Tryz.func45, Tryz.ntmps45
    go_wp2
    go_ret
    exact ⟨by simp [h1], rfl⟩
  · go_enter Tryz.func45, Tryz.ntmps45
    go_wp2
    go_ret
    exact ⟨by simp; omega, rfl⟩

theorem specNumOk (a : Int) (w : World) :
    Calls Tryz.prog 69 #[.int .i64 a] w fun e w' => e = .returned (.bool (decide (-32768 ≤ a) && decide (a ≤ 32767))) ∧ w = w' := by
  by_cases h1 : -32768 ≤ a
  · go_enter Tryz.func69, Tryz.ntmps69
    go_wp2
    go_ret
    exact ⟨by simp [h1], rfl⟩
  · go_enter Tryz.func69, Tryz.ntmps69
    go_wp2
    go_ret
    exact ⟨by simp; omega, rfl⟩

theorem implNumOk (a : Int) (w : World) :
    Calls Tryz.prog 30 #[.int .i64 a] w fun e w' => e = .returned (.bool (decide (-32768 ≤ a) && decide (a ≤ 32767))) ∧ w = w' := by
  by_cases h1 : -32768 ≤ a
  · go_enter Tryz.func30, Tryz.ntmps30
    go_wp2
    go_ret
    exact ⟨by simp [h1], rfl⟩
  · go_enter Tryz.func30, Tryz.ntmps30
    go_wp2
    go_ret
    exact ⟨by simp; omega, rfl⟩

/-- An instruction: its eight numbers. -/
structure Ins where
  (op d a b rel lo hi to : Int)
  deriving DecidableEq
abbrev Ins.v (i : Ins) : Value := .agg #[.int .i64 i.op, .int .i64 i.d, .int .i64 i.a, .int .i64 i.b, .int .i64 i.rel, .int .i64 i.lo, .int .i64 i.hi, .int .i64 i.to]

theorem insArith (op d a b : Int) (w : World) :
    Calls Tryz.prog 129 #[.agg #[.int .i64 op, .int .i64 d, .int .i64 a, .int .i64 b]] w fun e w' => e = .returned (Ins.v ⟨op, d, a, b, 0, 0, 0, 0⟩) ∧ Grew w w' := by
  go_enter Tryz.func129, Tryz.ntmps129
  go_wp2
  go_returns
  exact ⟨rfl, by unfold Grew; go_grown⟩

theorem insAny (d lo hi : Int) (w : World) :
    Calls Tryz.prog 124 #[.agg #[.int .i64 d, .int .i64 lo, .int .i64 hi]] w fun e w' => e = .returned (Ins.v ⟨5, d, 0, 0, 0, lo, hi, 0⟩) ∧ Grew w w' := by
  go_enter Tryz.func124, Tryz.ntmps124
  go_wp2
  go_returns
  exact ⟨rfl, by unfold Grew; go_grown⟩

theorem insLoad (d a : Int) (w : World) :
    Calls Tryz.prog 130 #[.agg #[.int .i64 d, .int .i64 a]] w fun e w' => e = .returned (Ins.v ⟨6, d, a, 0, 0, 0, 0, 0⟩) ∧ Grew w w' := by
  go_enter Tryz.func130, Tryz.ntmps130
  go_wp2
  go_returns
  exact ⟨rfl, by unfold Grew; go_grown⟩

theorem insStore (a b : Int) (w : World) :
    Calls Tryz.prog 131 #[.agg #[.int .i64 a, .int .i64 b]] w fun e w' => e = .returned (Ins.v ⟨7, 0, a, b, 0, 0, 0, 0⟩) ∧ Grew w w' := by
  go_enter Tryz.func131, Tryz.ntmps131
  go_wp2
  go_returns
  exact ⟨rfl, by unfold Grew; go_grown⟩

theorem insIf (rel a b to : Int) (w : World) :
    Calls Tryz.prog 125 #[.agg #[.int .i64 rel, .int .i64 a, .int .i64 b, .int .i64 to]] w fun e w' => e = .returned (Ins.v ⟨8, 0, a, b, rel, 0, 0, to⟩) ∧ Grew w w' := by
  go_enter Tryz.func125, Tryz.ntmps125
  go_wp2
  go_returns
  exact ⟨rfl, by unfold Grew; go_grown⟩

theorem insJump (to : Int) (w : World) :
    Calls Tryz.prog 126 #[.agg #[.int .i64 to]] w fun e w' => e = .returned (Ins.v ⟨9, 0, 0, 0, 0, 0, 0, to⟩) ∧ Grew w w' := by
  go_enter Tryz.func126, Tryz.ntmps126
  go_wp2
  go_returns
  exact ⟨rfl, by unfold Grew; go_grown⟩

theorem insCall (d a to : Int) (w : World) :
    Calls Tryz.prog 127 #[.agg #[.int .i64 d, .int .i64 a, .int .i64 to]] w fun e w' => e = .returned (Ins.v ⟨10, d, a, 0, 0, 0, 0, to⟩) ∧ Grew w w' := by
  go_enter Tryz.func127, Tryz.ntmps127
  go_wp2
  go_returns
  exact ⟨rfl, by unfold Grew; go_grown⟩

theorem insAssert (rel a b : Int) (w : World) :
    Calls Tryz.prog 128 #[.agg #[.int .i64 rel, .int .i64 a, .int .i64 b]] w fun e w' => e = .returned (Ins.v ⟨11, 0, a, b, rel, 0, 0, 0⟩) ∧ Grew w w' := by
  go_enter Tryz.func128, Tryz.ntmps128
  go_wp2
  go_returns
  exact ⟨rfl, by unfold Grew; go_grown⟩

theorem insRet (a : Int) (w : World) :
    Calls Tryz.prog 132 #[.agg #[.int .i64 a]] w fun e w' => e = .returned (Ins.v ⟨12, 0, a, 0, 0, 0, 0, 0⟩) ∧ Grew w w' := by
  go_enter Tryz.func132, Tryz.ntmps132
  go_wp2
  go_returns
  exact ⟨rfl, by unfold Grew; go_grown⟩

end Go.Proofs.YtnjoofpllhbccaaGreat
