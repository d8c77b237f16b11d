/- Lemmas and walks of this proof, some texts one behind the other. No condition. -/
import Derived.Test.YtpmfpgbpndobpaaRunD
import Derived.Test.YtpmfpgbpndobpaaProgEq
import Derived.Test.YtpmfpgbpndobpaaState
set_option linter.unusedSimpArgs false
set_option linter.unusedVariables false
/- Runs: their copies and sizes. No condition. -/
namespace Go.Proofs.Ytpmfpgbpndobpaa
open Go.RowKit
set_option linter.unusedVariables false
attribute [local go_sem] ext_cell ext_frozen ext_lt ext_le ext_le1 lt_s2 lt_s3 lt_s4 lt_s5 lt_s6 ext_lt1 ext_lt2 ext_lt3

def frCells (m : Fr × Value × Value) : List Value := [.int .i64 m.1.proc, .int .i64 m.1.pc, m.2.1, m.2.2]
theorem fr_len (m : Fr × Value × Value) : (frCells m).length = 4 := rfl




end Go.Proofs.Ytpmfpgbpndobpaa

/- Runs: their sizes, and whether two are the same. No condition. -/
namespace Go.Proofs.Ytpmfpgbpndobpaa
open Go.RowKit
set_option linter.unusedVariables false
attribute [local go_sem] ext_cell ext_frozen ext_lt ext_le ext_le1 lt_s2 lt_s3 lt_s4 lt_s5 lt_s6 ext_lt1 ext_lt2 ext_lt3












end Go.Proofs.Ytpmfpgbpndobpaa
