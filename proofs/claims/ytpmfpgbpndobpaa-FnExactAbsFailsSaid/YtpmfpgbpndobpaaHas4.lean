/- Lemmas and walks of this proof, some texts one behind the other. No condition. -/
import Derived.Test.YtpmfpgbpndobpaaReadS
import Derived.Test.YtpmfpgbpndobpaaNewI
set_option linter.unusedSimpArgs false
set_option linter.unusedVariables false
/- AbsHas$1 and its search. No condition. -/
namespace Go.Proofs.Ytpmfpgbpndobpaa
open Go.RowKit
set_option linter.unusedVariables false
attribute [local go_sem] ext_cell ext_frozen ext_lt ext_le ext_le1 lt_s2 lt_s3 lt_s4 lt_s5 lt_s6 ext_lt1 ext_lt2 ext_lt3

def inB (lo hi x : Int) : Bool := decide (lo ≤ x) && decide (x ≤ hi)
end Go.Proofs.Ytpmfpgbpndobpaa

/- AbsHas of a state that is on and ok. No condition. -/
namespace Go.Proofs.Ytpmfpgbpndobpaa
open Go.RowKit
set_option linter.unusedVariables false
attribute [local go_sem] ext_cell ext_frozen ext_lt ext_le ext_le1 lt_s2 lt_s3 lt_s4 lt_s5 lt_s6 ext_lt1 ext_lt2 ext_lt3

end Go.Proofs.Ytpmfpgbpndobpaa
