/- The step at a place of a program: PrgAt, reference and program. No condition. -/
import Derived.Test.YtpmfpgbpndobpaaPrgOkI
import Derived.Test.YtpmfpgbpndobpaaState
namespace Go.Proofs.Ytpmfpgbpndobpaa
open Go.RowKit
set_option linter.unusedVariables false
attribute [local go_sem] ext_cell ext_frozen ext_lt ext_le ext_le1 lt_s2 lt_s3 lt_s4 lt_s5 lt_s6 ext_lt1 ext_lt2 ext_lt3

/-- The step at a place, if there is one. -/
def atO (ps : List Prc) (proc pc : Int) : Option Ins := if 0 ≤ proc ∧ 0 ≤ pc then (ps[proc.toNat]?).bind fun p => p.code[pc.toNat]? else none
def insOf (o : Option Ins) : Ins := o.getD ⟨0, 0, 0, 0, 0, 0, 0, 0⟩
theorem atO_neg (ps : List Prc) {proc pc : Int} (h : ¬ (0 ≤ proc ∧ 0 ≤ pc)) : atO ps proc pc = none := by rw [atO, if_neg h]
theorem atO_nat (ps : List Prc) (k j : Nat) : atO ps k j = (ps[k]?).bind fun p => p.code[j]? := by rw [atO, if_pos ⟨by omega, by omega⟩]; rfl
/-- The answer of PrgAt. -/
def RetAt (o : Option Ins) (w : World) (e : Ending) (w' : World) : Prop := e = .returned (.tuple #[(insOf o).v, .bool o.isSome]) ∧ Grew w w'

end Go.Proofs.Ytpmfpgbpndobpaa
