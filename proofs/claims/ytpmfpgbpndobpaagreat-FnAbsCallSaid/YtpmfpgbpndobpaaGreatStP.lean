/- Plain law: what a state has its join with another one has, and each state that it is within. No condition. -/
import Derived.Test.YtpmfpgbpndobpaaGreatStK
import Derived.Test.YtpmfpgbpndobpaaGreatDrAI
namespace Go.Proofs.YtpmfpgbpndobpaaGreat
open Go.RowKit
set_option linter.unusedVariables false
set_option linter.unusedSimpArgs false
attribute [local go_sem] ext_cell ext_frozen ext_lt ext_le ext_le1 lt_s2 lt_s3 lt_s4 lt_s5 lt_s6 ext_lt1 ext_lt2 ext_lt3

theorem hasB_of {xs : List Itv} {lo hi : Int} {vs cs : List Int} (h1 : stOkB true xs lo hi = true) (h2 : vs.length = 4) (h3 : cs.length = 4) (h4 : (xs.zip vs).all inP = true) (h5 : ∀ c, c ∈ cs → lo ≤ c ∧ c ≤ hi) : hasB true xs lo hi vs cs = true := by
  simp only [hasB, Bool.and_eq_true, decide_eq_true_eq, List.all_eq_true (p := inB lo hi)]
  refine ⟨⟨⟨h1, trivial⟩, h2, h3⟩, h4, fun c hc => ?_⟩
  have := h5 c hc
  simp only [inB, Bool.and_eq_true, decide_eq_true_eq]
  exact this
end Go.Proofs.YtpmfpgbpndobpaaGreat
