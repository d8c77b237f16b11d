/- Whether a run is ok: the reference's walk. No condition. -/
import Derived.Test.YtnjoofpllhbccaaRunOk
namespace Go.Proofs.Ytnjoofpllhbccaa
open Go.RowKit
set_option linter.unusedVariables false
attribute [local go_sem] ext_cell ext_frozen ext_lt ext_le ext_le1 lt_s2 lt_s3 lt_s4 lt_s5 lt_s6 ext_lt1 ext_lt2 ext_lt3

theorem okAt_of {ps : List Prc} {fs : List Fr} {k : Nat} {f : Fr} (h : fs[k]? = some f) : okAt ps fs k = (frB ps f && linkB ps f fs[k + 1]?) := by rw [okAt, h]
theorem framesB_false {ps : List Prc} {fs : List Fr} {k : Nat} (hk : k < fs.length) (h : okAt ps fs k = false) : framesB ps fs = false := by
  rw [framesB, List.all_eq_false]
  exact ⟨k, List.mem_range.2 hk, by simp [h]⟩
theorem framesB_true {ps : List Prc} {fs : List Fr} (h : ∀ j, j < fs.length → okAt ps fs j = true) : framesB ps fs = true := by
  rw [framesB, List.all_eq_true]
  exact fun k hk => h k (List.mem_range.1 hk)

end Go.Proofs.Ytnjoofpllhbccaa
