/- Whether a state has variables and cells: the reference's side. No condition. -/
import Derived.Test.YtpmfpgbpndobpaaStH
namespace Go.Proofs.Ytpmfpgbpndobpaa
open Go.RowKit
set_option linter.unusedVariables false
set_option linter.unusedSimpArgs false
attribute [local go_sem] ext_cell ext_frozen ext_lt ext_le ext_le1 lt_s2 lt_s3 lt_s4 lt_s5 lt_s6 ext_lt1 ext_lt2 ext_lt3

theorem zip_at {xs : List Itv} {vs : List Int} {k : Nat} {x : Itv} {v : Int} (h1 : xs[k]? = some x) (h2 : vs[k]? = some v) : (xs.zip vs)[k]? = some (x, v) := by
  rw [List.getElem?_zip_eq_some]
  exact ⟨h1, h2⟩
theorem itvB_all {xs : List Itv} {lo hi : Int} (h : stOkB true xs lo hi = true) : ∀ x, x ∈ xs → itvB x = true := by
  obtain ⟨_, x0, x1, x2, x3, rfl, b0, b1, b2, b3⟩ := st_four h
  intro x hx
  simp only [List.mem_cons, List.not_mem_nil, or_false] at hx
  rcases hx with rfl | rfl | rfl | rfl <;> assumption
end Go.Proofs.Ytpmfpgbpndobpaa
