/- Lemmas and walks of this proof, some texts one behind the other. No condition. -/
import Derived.Test.YtpmfpgbpndobpaaMarks
set_option linter.unusedSimpArgs false
set_option linter.unusedVariables false
/- Slices of numbers: copied, compared, measured, marked, sorted, made compact. No condition. -/
namespace Go.Proofs.Ytpmfpgbpndobpaa
open Go.RowKit
set_option linter.unusedVariables false
attribute [local go_sem] ext_cell ext_frozen ext_lt ext_le ext_le1 lt_s2 lt_s3 lt_s4 lt_s5 lt_s6 ext_lt1 ext_lt2 ext_lt3

theorem intInfo : (Try.prog.info? 3).map (fun i => (i.zero, i.size, i.bytes)) = some (some (.int .i64 0), 1, 8) := by kernel_rfl
theorem int_one (zs : List Int) : ∀ u ∈ ints .i64 zs, u.oneCell' = true := by
  intro u hu
  obtain ⟨x, _, rfl⟩ := List.mem_map.1 hu
  rfl









end Go.Proofs.Ytpmfpgbpndobpaa
/- Rows of numbers as answers: what the laws' walks use of them. No condition. -/
namespace Go.Proofs.Ytpmfpgbpndobpaa
open Go.RowKit
set_option linter.unusedVariables false

/-- The answer: a row of numbers of the call's own. -/
def RetIs (L : List Int) (w : World) (e : Ending) (w' : World) : Prop := ∃ a c, e = .returned (.slice a L.length c) ∧ w'.ownsRow w.heap.size 3 1 (.slice a L.length c) L.length (ints .i64 L) ∧ Grew w w'
theorem retIs_of {P : Program} {f : FuncId} {args : Array Value} {w : World} {L S : List Int} (h : Calls P f args w fun e w' => RetIs L w e w') (hS : L = S) : Calls P f args w fun e w' => RetIs S w e w' := hS ▸ h
end Go.Proofs.Ytpmfpgbpndobpaa
