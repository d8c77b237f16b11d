/-
  No cell of these rows narrows 'for every input' (looked for: loops, veiled, ifaces, maps, wideKeys, modest, calm, conditions, laid).
  DERIVED. THE GIVEN ROWS OF THIS SEAT. 3 by the template 'for every input the law returns true; each argument reads behind the call as it read before'; 0 by the template 'total and deterministic' (their statements: YtpmfpgbpndobpaaGreatTotals.lean).
  GIVEN WITH THE SEED: the statements are not yours to turn. If you find one false, say at which input.
  Laid BY PROGRAM, IN A SANDBOX (cutbox-rows.mjs): the forced cells as the released guide's own fill.sh prints them over the translation 0a8756aa84bf9792… (all of the seat's roots in one cut). By AI agents, Wed Nov 11 2026. No macro, syntax, notation, axiom, sorry.
-/
import Derived.Test.YtpmfpgbpndobpaaGreatChecked
import GoSem.Claim
import GoSem.ClaimJoined
import GoSem.ClaimMapViews
import Derived.JoinedTies
import Derived.KernelRfl
namespace Go.Proofs.YtpmfpgbpndobpaaGreat
/- THE CELL 'sum', in the pinned program and in every row, IS THE sha256 OF THE DUMP (.gsa) THAT YtpmfpgbpndobpaaGreatProg.lean LOADS. Nothing in Lean hashes anything: it is a label: what it is worth is what the hold of that sum in a sandbox is worth. -/
noncomputable def Tryz.pinned : Pinned := { name := "ytpmfpgbpndobpaagreat", sum := "0a8756aa84bf979233bdafb53bfd556ebf84a860c0fb6d0b1adcf7c4556b5101", checked := Tryz.checked }
namespace Rows
def none {H : Type} : Left H := { results := [], args := [] }

/-- 'laws.FnAbsCall': WHATEVER THE INPUT: true; the input reads as it did. -/
def fnAbsCallSpec : ChangeSpec := { name := "fnAbsCall", fn := fun _ => fun
  | [d1, d2] => { results := [.lit (.bool true)], args := [d1, d2] }
  | _ => none }
def fnAbsCallRow : OpenClaim := { program := "ytpmfpgbpndobpaagreat", sum := "0a8756aa84bf979233bdafb53bfd556ebf84a860c0fb6d0b1adcf7c4556b5101", func := "loop.example/outwork/laws.FnAbsCall", spec := "fnAbsCall", unfollowed := true, recurses := true, apart := false }
def FnAbsCallSaid : Prop := fnAbsCallRow.holds Tryz.pinned (OpenSpec.ofChange fnAbsCallSpec)

/-- ITS FALSE NEIGHBOUR: 'it returns false'. Refute it at one input. -/
def fnAbsCallWrong : ChangeSpec := { name := "fnAbsCall", fn := fun _ => fun
  | [d1, d2] => { results := [.lit (.bool false)], args := [d1, d2] }
  | _ => none }
def FnAbsCallWrongFalsely : Prop := fnAbsCallRow.holds Tryz.pinned (OpenSpec.ofChange fnAbsCallWrong)

/-- 'laws.FnAbsMono': WHATEVER THE INPUT: true; the input reads as it did. -/
def fnAbsMonoSpec : ChangeSpec := { name := "fnAbsMono", fn := fun _ => fun
  | [d1, d2] => { results := [.lit (.bool true)], args := [d1, d2] }
  | _ => none }
def fnAbsMonoRow : OpenClaim := { program := "ytpmfpgbpndobpaagreat", sum := "0a8756aa84bf979233bdafb53bfd556ebf84a860c0fb6d0b1adcf7c4556b5101", func := "loop.example/outwork/laws.FnAbsMono", spec := "fnAbsMono", unfollowed := true, recurses := true, apart := false }
def FnAbsMonoSaid : Prop := fnAbsMonoRow.holds Tryz.pinned (OpenSpec.ofChange fnAbsMonoSpec)

/-- ITS FALSE NEIGHBOUR: 'it returns false'. Refute it at one input. -/
def fnAbsMonoWrong : ChangeSpec := { name := "fnAbsMono", fn := fun _ => fun
  | [d1, d2] => { results := [.lit (.bool false)], args := [d1, d2] }
  | _ => none }
def FnAbsMonoWrongFalsely : Prop := fnAbsMonoRow.holds Tryz.pinned (OpenSpec.ofChange fnAbsMonoWrong)

/-- 'laws.FnExactAbsStep': WHATEVER THE INPUT: true; the input reads as it did. -/
def fnExactAbsStepSpec : ChangeSpec := { name := "fnExactAbsStep", fn := fun _ => fun
  | [d1, d2, d3, d4, d5] => { results := [.lit (.bool true)], args := [d1, d2, d3, d4, d5] }
  | _ => none }
def fnExactAbsStepRow : OpenClaim := { program := "ytpmfpgbpndobpaagreat", sum := "0a8756aa84bf979233bdafb53bfd556ebf84a860c0fb6d0b1adcf7c4556b5101", func := "loop.example/outwork/laws.FnExactAbsStep", spec := "fnExactAbsStep", unfollowed := true, recurses := true, apart := false }
def FnExactAbsStepSaid : Prop := fnExactAbsStepRow.holds Tryz.pinned (OpenSpec.ofChange fnExactAbsStepSpec)

/-- ITS FALSE NEIGHBOUR: 'it returns false'. Refute it at one input. -/
def fnExactAbsStepWrong : ChangeSpec := { name := "fnExactAbsStep", fn := fun _ => fun
  | [d1, d2, d3, d4, d5] => { results := [.lit (.bool false)], args := [d1, d2, d3, d4, d5] }
  | _ => none }
def FnExactAbsStepWrongFalsely : Prop := fnExactAbsStepRow.holds Tryz.pinned (OpenSpec.ofChange fnExactAbsStepWrong)

/- THE SECOND FORM. 'bulk': how many values and letters a reading holds, each counted each time it is reached (what is shared counts as often as it is met; a slice's spare places count too). A statement '..UptoSaid' is the law's where the arguments, and the package variables that the reading takes, are together of bulk at most 1048576: NARROWER than '..Said'. Prove '..Said' where nothing that the law and all that it calls make is longer than what came in: it says more and counts as full. Else prove '..UptoSaid'. A law counts once. -/
mutual
def uptoBulk {H : Type} : DataW H → Nat
  | .lit (.string bytes) => bytes.length + 1
  | .lit _ => 1
  | .nil => 1
  | .ptr d => uptoBulk d + 1
  | .slice elems spare => uptoBulkAll elems + uptoBulkAll spare + 1
  | .agg parts => uptoBulkAll parts + 1
  | .iface _ d => uptoBulk d + 1
  | .map entries => uptoBulkEntries entries + 1
  | .held _ => 1
def uptoBulkAll {H : Type} : List (DataW H) → Nat
  | [] => 0
  | d :: r => uptoBulk d + uptoBulkAll r
def uptoBulkEntries {H : Type} : List (Lit × DataW H) → Nat
  | [] => 0
  | x :: r => uptoBulkEntry x + uptoBulkEntries r
def uptoBulkEntry {H : Type} : Lit × DataW H → Nat
  | (.string bytes, d) => bytes.length + uptoBulk d + 1
  | (_, d) => uptoBulk d + 1
 end
def uptoSmall : (H : Type) → List (DataW H) → Bool := fun _ ds => decide (uptoBulkAll ds ≤ 1048576)
def OpenSpec.upto (s : _root_.Go.ChangeSpec) : _root_.Go.OpenSpec := { _root_.Go.OpenSpec.ofChange s with cond := some uptoSmall }

/-- 'laws.FnAbsCall', WHERE WHAT IT READS IS OF BULK AT MOST 1048576: true; the input reads as it did. -/
def fnAbsCallUptoRow : OpenClaim := { program := "ytpmfpgbpndobpaagreat", sum := "0a8756aa84bf979233bdafb53bfd556ebf84a860c0fb6d0b1adcf7c4556b5101", func := "loop.example/outwork/laws.FnAbsCall", spec := "fnAbsCall", unfollowed := true, recurses := true, apart := false, narrowed := true }
def FnAbsCallUptoSaid : Prop := fnAbsCallUptoRow.holds Tryz.pinned (OpenSpec.upto fnAbsCallSpec)

/-- 'laws.FnAbsMono', WHERE WHAT IT READS IS OF BULK AT MOST 1048576: true; the input reads as it did. -/
def fnAbsMonoUptoRow : OpenClaim := { program := "ytpmfpgbpndobpaagreat", sum := "0a8756aa84bf979233bdafb53bfd556ebf84a860c0fb6d0b1adcf7c4556b5101", func := "loop.example/outwork/laws.FnAbsMono", spec := "fnAbsMono", unfollowed := true, recurses := true, apart := false, narrowed := true }
def FnAbsMonoUptoSaid : Prop := fnAbsMonoUptoRow.holds Tryz.pinned (OpenSpec.upto fnAbsMonoSpec)

/-- 'laws.FnExactAbsStep', WHERE WHAT IT READS IS OF BULK AT MOST 1048576: true; the input reads as it did. -/
def fnExactAbsStepUptoRow : OpenClaim := { program := "ytpmfpgbpndobpaagreat", sum := "0a8756aa84bf979233bdafb53bfd556ebf84a860c0fb6d0b1adcf7c4556b5101", func := "loop.example/outwork/laws.FnExactAbsStep", spec := "fnExactAbsStep", unfollowed := true, recurses := true, apart := false, narrowed := true }
def FnExactAbsStepUptoSaid : Prop := fnExactAbsStepUptoRow.holds Tryz.pinned (OpenSpec.upto fnExactAbsStepSpec)

end Rows
end Go.Proofs.YtpmfpgbpndobpaaGreat
