/- The laws' own comparison of states: two that are the same. No condition. -/
import Derived.Test.YtpmfpgbpndobpaaState
namespace Go.Proofs.Ytpmfpgbpndobpaa
open Go.RowKit
set_option linter.unusedVariables false
attribute [local go_sem] ext_cell ext_frozen ext_lt ext_le ext_le1 lt_s2 lt_s3 lt_s4 lt_s5 lt_s6 ext_lt1 ext_lt2 ext_lt3

theorem itvNeqS (lo hi : Int) (w : World) : (binOp .neq 42 (.agg #[.int .i64 lo, .int .i64 hi]) (.agg #[.int .i64 lo, .int .i64 hi])).run Try.prog w = .ok (.bool false) w := by simp [go_sem]
section
attribute [local go_sem ↓] itvNeqS
end
end Go.Proofs.Ytpmfpgbpndobpaa
