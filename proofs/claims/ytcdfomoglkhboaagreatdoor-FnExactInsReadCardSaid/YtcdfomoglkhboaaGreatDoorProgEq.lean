/- Programs: their sizes, and whether two are the same. No condition. -/
import Derived.Test.YtcdfomoglkhboaaGreatDoorProgTo
import Derived.Test.YtcdfomoglkhboaaGreatDoorInsOk
import Derived.Deep.Light
namespace Go.Proofs.YtcdfomoglkhboaaGreatDoor
open Go.RowKit
set_option linter.unusedVariables false
attribute [local go_sem] ext_cell ext_frozen ext_lt ext_le ext_le1 lt_s2 lt_s3 lt_s4 lt_s5 lt_s6 ext_lt1 ext_lt2 ext_lt3

/-- What is told of sizes: too much, or all are small. -/
def RetSz (n : Nat) (ps : List Prc) (left : Int) (w : World) (e : Ending) (w' : World) : Prop :=
  ∃ z : Int, e = .returned (.int .i64 z) ∧ (z = -1 ∨ (0 ≤ z ∧ z ≤ left ∧ n ≤ 1048576 ∧ ∀ p, p ∈ ps → p.code.length ≤ 1048576)) ∧ Grew w w'

set_option maxHeartbeats 2000000 in
theorem eqInsIns (i j : Ins) (w : World) :
    Calls Tryz.prog 17 #[i.v, j.v] w fun e w' => e = .returned (.bool (insEqB i j)) ∧ Grew w w' := by
  obtain ⟨op, d, a, b, rel, lo, hi, to⟩ := i
  obtain ⟨op', d', a', b', rel', lo', hi', to'⟩ := j
  go_enter Tryz.func17, Tryz.ntmps17
  go_wp2
  all_goals
    go_ret
    refine ⟨by go_light; simp_all [insEqB], ?_⟩
    exact gr

theorem insEqB_iff {i j : Ins} : insEqB i j = true ↔ i = j := by simp [insEqB]

/-- Whether two procedures are the same. -/
def prcEqB (p q : Prc) : Bool := decide (p.lo = q.lo) && decide (p.hi = q.hi) && decide (p.code = q.code)
theorem prcEqB_iff {p q : Prc} : prcEqB p q = true ↔ p = q := by
  obtain ⟨a, b, c⟩ := p
  obtain ⟨a', b', c'⟩ := q
  simp [prcEqB, and_assoc]

end Go.Proofs.YtcdfomoglkhboaaGreatDoor
