/-
  THE FIRST LINES, plain: the reference's readers of a program's and of a procedure's first line say what XTxE's say.
-/
import Derived.Test.YtcdfomoglkhboaaGreatDoorTxE
namespace Go.Proofs.YtcdfomoglkhboaaGreatDoor
open Go.Lib
set_option linter.unusedSimpArgs false

/-- The reference's reader of a line that is a step. -/
theorem lineS_eq (s : List UInt8) (procs size : Int) : (if 60 < s.length then none else insReadS s procs size) = lineI s procs size := by
  unfold lineI
  rw [insRead_same]

end Go.Proofs.YtcdfomoglkhboaaGreatDoor
