/-
  THE FIRST LINES, plain: the reference's readers of a program's and of a procedure's first line say what XTxE's say.
-/
import Derived.Test.YtcdfomoglkhboaaGreatDoorTxE
namespace Go.Proofs.YtcdfomoglkhboaaGreatDoor
open Go.Lib
set_option linter.unusedSimpArgs false

theorem words_head {n : Int} : split (headL n) [32] = [procsT, itoa n] := split_join _ _ (by
  intro u hu
  simp only [List.mem_cons, List.not_mem_nil, or_false] at hu
  rcases hu with rfl | rfl
  · decide
  · exact itoa_noSpace n)
theorem words_prc {lo hi n : Int} : split (prcL lo hi n) [32] = [procT, itoa lo, itoa hi, sizeT, itoa n] := split_join _ _ (by
  intro u hu
  simp only [List.mem_cons, List.not_mem_nil, or_false] at hu
  rcases hu with rfl | rfl | rfl | rfl | rfl
  · decide
  · exact itoa_noSpace _
  · exact itoa_noSpace _
  · decide
  · exact itoa_noSpace _)
end Go.Proofs.YtcdfomoglkhboaaGreatDoor
