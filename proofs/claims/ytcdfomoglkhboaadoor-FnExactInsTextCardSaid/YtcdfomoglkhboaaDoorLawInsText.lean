/- The walk of the law FnExactInsText: the program's text of a step is the reference's. Itoa wants the table of powers of ten. -/
import Derived.Test.YtcdfomoglkhboaaDoorTi
import Derived.Test.YtcdfomoglkhboaaDoorDIns
namespace Go.Proofs.YtcdfomoglkhboaaDoor
open Go.RowKit
set_option linter.unusedVariables false
set_option linter.unusedSimpArgs false
attribute [local go_sem] ext_cell ext_frozen ext_lt ext_le ext_le1 lt_s2 lt_s3 lt_s4 lt_s5 lt_s6 ext_lt1 ext_lt2 ext_lt3

theorem lawFnExactInsText (i : Ins) (procs size : Int) (w : World) (T : Tab w) (hi : InsWf i) (hp : I64 procs) (hs : I64 size) :
    Calls Tryd.prog 3 #[i.v, .int .i64 procs, .int .i64 size] w fun e w' => e = .returned (.bool true) ∧ Grew w w' := by
  have hto : i.to ≤ 9223372036854775807 := hi.to.2
  have C1 := Lib.hid (fun w => specInsText i procs size w hto)
  have C2 := Lib.hid (fun w T => implInsText i procs size w hto T)
  obtain ⟨op, d, a, b, rel, lo, hi', to⟩ := i
  have C3 := Lib.hid (fun w => toInsIns ⟨op, d, a, b, rel, lo, hi', to⟩ w)
  have HT := Lib.hid T
  clear hi hp hs T hto
  generalize textB ⟨op, d, a, b, rel, lo, hi', to⟩ procs size = B at *
  go_enter Tryd.func3, Tryd.ntmps3
  go_wp2_with (first
    | ((with_reducible refine (C3.out _).mono ?_); rintro e w' ⟨rfl, g'⟩; (first | obtain ⟨x, rfl⟩ := ext_cold g' | obtain ⟨x, rfl⟩ := ext_col g' | obtain ⟨x, rfl⟩ := ext_of g'); clear g')
    | ((with_reducible refine (C1.out _).mono ?_); rintro e w' ⟨rfl, g'⟩; (first | obtain ⟨y, rfl⟩ := ext_cold g' | obtain ⟨y, rfl⟩ := ext_col g' | obtain ⟨y, rfl⟩ := ext_of g'); clear g')
    | ((with_reducible refine (C2.out _ (HT.out.grew (gr))).mono ?_); rintro e w' ⟨rfl, g'⟩; (first | obtain ⟨z, rfl⟩ := ext_cold g' | obtain ⟨z, rfl⟩ := ext_col g' | obtain ⟨z, rfl⟩ := ext_of g'); clear g'))
  all_goals
    go_ret
    exact ⟨rfl, gr⟩
end Go.Proofs.YtcdfomoglkhboaaDoor
