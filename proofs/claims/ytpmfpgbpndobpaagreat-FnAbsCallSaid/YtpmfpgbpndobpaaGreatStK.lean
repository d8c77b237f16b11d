/- The join of two states that are ok: the program's side, all of it. No condition. -/
import Derived.Test.YtpmfpgbpndobpaaGreatStepA
namespace Go.Proofs.YtpmfpgbpndobpaaGreat
open Go.RowKit
set_option linter.unusedVariables false
set_option linter.unusedSimpArgs false
attribute [local go_sem] ext_cell ext_frozen ext_lt ext_le ext_le1 lt_s2 lt_s3 lt_s4 lt_s5 lt_s6 ext_lt1 ext_lt2 ext_lt3

theorem ptrEq (p : Addr) (w : World) : (binOp .eql 97 (.pointer (some p)) (.pointer none)).run Tryz.prog w = .ok (.bool false) w := by simp [go_sem]
section
attribute [local go_sem ↓] ptrEq
end
end Go.Proofs.YtpmfpgbpndobpaaGreat
