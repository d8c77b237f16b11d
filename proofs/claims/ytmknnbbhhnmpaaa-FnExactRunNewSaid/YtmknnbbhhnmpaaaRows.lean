/-
  No cell of these rows narrows 'for every input' (looked for: loops, veiled, ifaces, maps, wideKeys, modest, calm, conditions, laid).
  DERIVED. THE GIVEN ROWS OF THIS SEAT. 12 by the template 'for every input the law returns true; each argument reads behind the call as it read before'; 0 by the template 'total and deterministic' (their statements: YtmknnbbhhnmpaaaTotals.lean).
  GIVEN WITH THE SEED: the statements are not yours to turn. If you find one false, say at which input.
  Laid BY PROGRAM, IN A SANDBOX (cutbox-rows.mjs): the forced cells as the released guide's own fill.sh prints them over the translation f7ba8a9a8cb7f193… (all of the seat's roots in one cut). By AI agents, Wed Nov 11 2026. No macro, syntax, notation, axiom, sorry.
-/
import Derived.Test.YtmknnbbhhnmpaaaChecked
import GoSem.Claim
import GoSem.ClaimJoined
import GoSem.ClaimMapViews
import Derived.JoinedTies
import Derived.KernelRfl
namespace Go.Proofs.Ytmknnbbhhnmpaaa
/- THE CELL 'sum', in the pinned program and in every row, IS THE sha256 OF THE DUMP (.gsa) THAT YtmknnbbhhnmpaaaProg.lean LOADS. Nothing in Lean hashes anything: it is a label: what it is worth is what the hold of that sum in a sandbox is worth. -/
noncomputable def Try.pinned : Pinned := { name := "ytmknnbbhhnmpaaa", sum := "f7ba8a9a8cb7f193b87e87a3a07358eaaa12abac041f156d29881c06e7d417dc", checked := Try.checked }
namespace Rows
def none {H : Type} : Left H := { results := [], args := [] }

/-- 'laws.FnExactInsOk': WHATEVER THE INPUT: true; the input reads as it did. -/
def fnExactInsOkSpec : ChangeSpec := { name := "fnExactInsOk", fn := fun _ => fun
  | [d1, d2, d3] => { results := [.lit (.bool true)], args := [d1, d2, d3] }
  | _ => none }
def fnExactInsOkRow : OpenClaim := { program := "ytmknnbbhhnmpaaa", sum := "f7ba8a9a8cb7f193b87e87a3a07358eaaa12abac041f156d29881c06e7d417dc", func := "loop.example/outwork/laws.FnExactInsOk", spec := "fnExactInsOk", unfollowed := true, recurses := true, apart := false }
def FnExactInsOkSaid : Prop := fnExactInsOkRow.holds Try.pinned (OpenSpec.ofChange fnExactInsOkSpec)

/-- ITS FALSE NEIGHBOUR: 'it returns false'. Refute it at one input. -/
def fnExactInsOkWrong : ChangeSpec := { name := "fnExactInsOk", fn := fun _ => fun
  | [d1, d2, d3] => { results := [.lit (.bool false)], args := [d1, d2, d3] }
  | _ => none }
def FnExactInsOkWrongFalsely : Prop := fnExactInsOkRow.holds Try.pinned (OpenSpec.ofChange fnExactInsOkWrong)

/-- 'laws.FnExactPrgOk': WHATEVER THE INPUT: true; the input reads as it did. -/
def fnExactPrgOkSpec : ChangeSpec := { name := "fnExactPrgOk", fn := fun _ => fun
  | [d] => { results := [.lit (.bool true)], args := [d] }
  | _ => none }
def fnExactPrgOkRow : OpenClaim := { program := "ytmknnbbhhnmpaaa", sum := "f7ba8a9a8cb7f193b87e87a3a07358eaaa12abac041f156d29881c06e7d417dc", func := "loop.example/outwork/laws.FnExactPrgOk", spec := "fnExactPrgOk", unfollowed := true, recurses := true, apart := false }
def FnExactPrgOkSaid : Prop := fnExactPrgOkRow.holds Try.pinned (OpenSpec.ofChange fnExactPrgOkSpec)

/-- ITS FALSE NEIGHBOUR: 'it returns false'. Refute it at one input. -/
def fnExactPrgOkWrong : ChangeSpec := { name := "fnExactPrgOk", fn := fun _ => fun
  | [d] => { results := [.lit (.bool false)], args := [d] }
  | _ => none }
def FnExactPrgOkWrongFalsely : Prop := fnExactPrgOkRow.holds Try.pinned (OpenSpec.ofChange fnExactPrgOkWrong)

/-- 'laws.FnPrgAt': WHATEVER THE INPUT: true; the input reads as it did. -/
def fnPrgAtSpec : ChangeSpec := { name := "fnPrgAt", fn := fun _ => fun
  | [d] => { results := [.lit (.bool true)], args := [d] }
  | _ => none }
def fnPrgAtRow : OpenClaim := { program := "ytmknnbbhhnmpaaa", sum := "f7ba8a9a8cb7f193b87e87a3a07358eaaa12abac041f156d29881c06e7d417dc", func := "loop.example/outwork/laws.FnPrgAt", spec := "fnPrgAt", unfollowed := true, recurses := true, apart := false }
def FnPrgAtSaid : Prop := fnPrgAtRow.holds Try.pinned (OpenSpec.ofChange fnPrgAtSpec)

/-- ITS FALSE NEIGHBOUR: 'it returns false'. Refute it at one input. -/
def fnPrgAtWrong : ChangeSpec := { name := "fnPrgAt", fn := fun _ => fun
  | [d] => { results := [.lit (.bool false)], args := [d] }
  | _ => none }
def FnPrgAtWrongFalsely : Prop := fnPrgAtRow.holds Try.pinned (OpenSpec.ofChange fnPrgAtWrong)

/-- 'laws.FnExactSumsOk': WHATEVER THE INPUT: true; the input reads as it did. -/
def fnExactSumsOkSpec : ChangeSpec := { name := "fnExactSumsOk", fn := fun _ => fun
  | [d1, d2] => { results := [.lit (.bool true)], args := [d1, d2] }
  | _ => none }
def fnExactSumsOkRow : OpenClaim := { program := "ytmknnbbhhnmpaaa", sum := "f7ba8a9a8cb7f193b87e87a3a07358eaaa12abac041f156d29881c06e7d417dc", func := "loop.example/outwork/laws.FnExactSumsOk", spec := "fnExactSumsOk", unfollowed := true, recurses := true, apart := false }
def FnExactSumsOkSaid : Prop := fnExactSumsOkRow.holds Try.pinned (OpenSpec.ofChange fnExactSumsOkSpec)

/-- ITS FALSE NEIGHBOUR: 'it returns false'. Refute it at one input. -/
def fnExactSumsOkWrong : ChangeSpec := { name := "fnExactSumsOk", fn := fun _ => fun
  | [d1, d2] => { results := [.lit (.bool false)], args := [d1, d2] }
  | _ => none }
def FnExactSumsOkWrongFalsely : Prop := fnExactSumsOkRow.holds Try.pinned (OpenSpec.ofChange fnExactSumsOkWrong)

/-- 'laws.FnExactAbsEntry': WHATEVER THE INPUT: true; the input reads as it did. -/
def fnExactAbsEntrySpec : ChangeSpec := { name := "fnExactAbsEntry", fn := fun _ => fun
  | [d] => { results := [.lit (.bool true)], args := [d] }
  | _ => none }
def fnExactAbsEntryRow : OpenClaim := { program := "ytmknnbbhhnmpaaa", sum := "f7ba8a9a8cb7f193b87e87a3a07358eaaa12abac041f156d29881c06e7d417dc", func := "loop.example/outwork/laws.FnExactAbsEntry", spec := "fnExactAbsEntry", apart := false }
def FnExactAbsEntrySaid : Prop := fnExactAbsEntryRow.holds Try.pinned (OpenSpec.ofChange fnExactAbsEntrySpec)

/-- ITS FALSE NEIGHBOUR: 'it returns false'. Refute it at one input. -/
def fnExactAbsEntryWrong : ChangeSpec := { name := "fnExactAbsEntry", fn := fun _ => fun
  | [d] => { results := [.lit (.bool false)], args := [d] }
  | _ => none }
def FnExactAbsEntryWrongFalsely : Prop := fnExactAbsEntryRow.holds Try.pinned (OpenSpec.ofChange fnExactAbsEntryWrong)

/-- 'laws.FnAbsEntry': WHATEVER THE INPUT: true; the input reads as it did. -/
def fnAbsEntrySpec : ChangeSpec := { name := "fnAbsEntry", fn := fun _ => fun
  | [d1, d2] => { results := [.lit (.bool true)], args := [d1, d2] }
  | _ => none }
def fnAbsEntryRow : OpenClaim := { program := "ytmknnbbhhnmpaaa", sum := "f7ba8a9a8cb7f193b87e87a3a07358eaaa12abac041f156d29881c06e7d417dc", func := "loop.example/outwork/laws.FnAbsEntry", spec := "fnAbsEntry", unfollowed := true, recurses := true, apart := false }
def FnAbsEntrySaid : Prop := fnAbsEntryRow.holds Try.pinned (OpenSpec.ofChange fnAbsEntrySpec)

/-- ITS FALSE NEIGHBOUR: 'it returns false'. Refute it at one input. -/
def fnAbsEntryWrong : ChangeSpec := { name := "fnAbsEntry", fn := fun _ => fun
  | [d1, d2] => { results := [.lit (.bool false)], args := [d1, d2] }
  | _ => none }
def FnAbsEntryWrongFalsely : Prop := fnAbsEntryRow.holds Try.pinned (OpenSpec.ofChange fnAbsEntryWrong)

/-- 'laws.FnAbsHas': WHATEVER THE INPUT: true; the input reads as it did. -/
def fnAbsHasSpec : ChangeSpec := { name := "fnAbsHas", fn := fun _ => fun
  | [d1, d2] => { results := [.lit (.bool true)], args := [d1, d2] }
  | _ => none }
def fnAbsHasRow : OpenClaim := { program := "ytmknnbbhhnmpaaa", sum := "f7ba8a9a8cb7f193b87e87a3a07358eaaa12abac041f156d29881c06e7d417dc", func := "loop.example/outwork/laws.FnAbsHas", spec := "fnAbsHas", unfollowed := true, recurses := true, apart := false }
def FnAbsHasSaid : Prop := fnAbsHasRow.holds Try.pinned (OpenSpec.ofChange fnAbsHasSpec)

/-- ITS FALSE NEIGHBOUR: 'it returns false'. Refute it at one input. -/
def fnAbsHasWrong : ChangeSpec := { name := "fnAbsHas", fn := fun _ => fun
  | [d1, d2] => { results := [.lit (.bool false)], args := [d1, d2] }
  | _ => none }
def FnAbsHasWrongFalsely : Prop := fnAbsHasRow.holds Try.pinned (OpenSpec.ofChange fnAbsHasWrong)

/-- 'laws.FnExactRunNew': WHATEVER THE INPUT: true; the input reads as it did. -/
def fnExactRunNewSpec : ChangeSpec := { name := "fnExactRunNew", fn := fun _ => fun
  | [d1, d2, d3] => { results := [.lit (.bool true)], args := [d1, d2, d3] }
  | _ => none }
def fnExactRunNewRow : OpenClaim := { program := "ytmknnbbhhnmpaaa", sum := "f7ba8a9a8cb7f193b87e87a3a07358eaaa12abac041f156d29881c06e7d417dc", func := "loop.example/outwork/laws.FnExactRunNew", spec := "fnExactRunNew", unfollowed := true, recurses := true, apart := false }
def FnExactRunNewSaid : Prop := fnExactRunNewRow.holds Try.pinned (OpenSpec.ofChange fnExactRunNewSpec)

/-- ITS FALSE NEIGHBOUR: 'it returns false'. Refute it at one input. -/
def fnExactRunNewWrong : ChangeSpec := { name := "fnExactRunNew", fn := fun _ => fun
  | [d1, d2, d3] => { results := [.lit (.bool false)], args := [d1, d2, d3] }
  | _ => none }
def FnExactRunNewWrongFalsely : Prop := fnExactRunNewRow.holds Try.pinned (OpenSpec.ofChange fnExactRunNewWrong)

/-- 'laws.FnRunNew': WHATEVER THE INPUT: true; the input reads as it did. -/
def fnRunNewSpec : ChangeSpec := { name := "fnRunNew", fn := fun _ => fun
  | [d] => { results := [.lit (.bool true)], args := [d] }
  | _ => none }
def fnRunNewRow : OpenClaim := { program := "ytmknnbbhhnmpaaa", sum := "f7ba8a9a8cb7f193b87e87a3a07358eaaa12abac041f156d29881c06e7d417dc", func := "loop.example/outwork/laws.FnRunNew", spec := "fnRunNew", unfollowed := true, recurses := true, apart := false }
def FnRunNewSaid : Prop := fnRunNewRow.holds Try.pinned (OpenSpec.ofChange fnRunNewSpec)

/-- ITS FALSE NEIGHBOUR: 'it returns false'. Refute it at one input. -/
def fnRunNewWrong : ChangeSpec := { name := "fnRunNew", fn := fun _ => fun
  | [d] => { results := [.lit (.bool false)], args := [d] }
  | _ => none }
def FnRunNewWrongFalsely : Prop := fnRunNewRow.holds Try.pinned (OpenSpec.ofChange fnRunNewWrong)

/-- 'laws.FnExactRunOk': WHATEVER THE INPUT: true; the input reads as it did. -/
def fnExactRunOkSpec : ChangeSpec := { name := "fnExactRunOk", fn := fun _ => fun
  | [d1, d2] => { results := [.lit (.bool true)], args := [d1, d2] }
  | _ => none }
def fnExactRunOkRow : OpenClaim := { program := "ytmknnbbhhnmpaaa", sum := "f7ba8a9a8cb7f193b87e87a3a07358eaaa12abac041f156d29881c06e7d417dc", func := "loop.example/outwork/laws.FnExactRunOk", spec := "fnExactRunOk", unfollowed := true, recurses := true, apart := false }
def FnExactRunOkSaid : Prop := fnExactRunOkRow.holds Try.pinned (OpenSpec.ofChange fnExactRunOkSpec)

/-- ITS FALSE NEIGHBOUR: 'it returns false'. Refute it at one input. -/
def fnExactRunOkWrong : ChangeSpec := { name := "fnExactRunOk", fn := fun _ => fun
  | [d1, d2] => { results := [.lit (.bool false)], args := [d1, d2] }
  | _ => none }
def FnExactRunOkWrongFalsely : Prop := fnExactRunOkRow.holds Try.pinned (OpenSpec.ofChange fnExactRunOkWrong)

/-- 'laws.FnExactRunDepth': WHATEVER THE INPUT: true; the input reads as it did. -/
def fnExactRunDepthSpec : ChangeSpec := { name := "fnExactRunDepth", fn := fun _ => fun
  | [d1, d2] => { results := [.lit (.bool true)], args := [d1, d2] }
  | _ => none }
def fnExactRunDepthRow : OpenClaim := { program := "ytmknnbbhhnmpaaa", sum := "f7ba8a9a8cb7f193b87e87a3a07358eaaa12abac041f156d29881c06e7d417dc", func := "loop.example/outwork/laws.FnExactRunDepth", spec := "fnExactRunDepth", unfollowed := true, recurses := true, apart := false }
def FnExactRunDepthSaid : Prop := fnExactRunDepthRow.holds Try.pinned (OpenSpec.ofChange fnExactRunDepthSpec)

/-- ITS FALSE NEIGHBOUR: 'it returns false'. Refute it at one input. -/
def fnExactRunDepthWrong : ChangeSpec := { name := "fnExactRunDepth", fn := fun _ => fun
  | [d1, d2] => { results := [.lit (.bool false)], args := [d1, d2] }
  | _ => none }
def FnExactRunDepthWrongFalsely : Prop := fnExactRunDepthRow.holds Try.pinned (OpenSpec.ofChange fnExactRunDepthWrong)

/-- 'laws.FnExactInsNext': WHATEVER THE INPUT: true; the input reads as it did. -/
def fnExactInsNextSpec : ChangeSpec := { name := "fnExactInsNext", fn := fun _ => fun
  | [d1, d2] => { results := [.lit (.bool true)], args := [d1, d2] }
  | _ => none }
def fnExactInsNextRow : OpenClaim := { program := "ytmknnbbhhnmpaaa", sum := "f7ba8a9a8cb7f193b87e87a3a07358eaaa12abac041f156d29881c06e7d417dc", func := "loop.example/outwork/laws.FnExactInsNext", spec := "fnExactInsNext", unfollowed := true, recurses := true, apart := false }
def FnExactInsNextSaid : Prop := fnExactInsNextRow.holds Try.pinned (OpenSpec.ofChange fnExactInsNextSpec)

/-- ITS FALSE NEIGHBOUR: 'it returns false'. Refute it at one input. -/
def fnExactInsNextWrong : ChangeSpec := { name := "fnExactInsNext", fn := fun _ => fun
  | [d1, d2] => { results := [.lit (.bool false)], args := [d1, d2] }
  | _ => none }
def FnExactInsNextWrongFalsely : Prop := fnExactInsNextRow.holds Try.pinned (OpenSpec.ofChange fnExactInsNextWrong)

/- THE SECOND FORM. 'bulk': how many values and letters a reading holds, each counted each time it is reached (what is shared counts as often as it is met; a slice's spare places count too). A statement '..UptoSaid' is the law's where the arguments, and the package variables that the reading takes, are together of bulk at most 1048576: NARROWER than '..Said'. Prove '..Said' where nothing that the law and all that it calls make is longer than what came in: it says more and counts as full. Else prove '..UptoSaid'. A law counts once. -/
mutual
def uptoBulk {H : Type} : DataW H → Nat
  | .lit (.string bytes) => bytes.length + 1
  | .lit _ => 1
  | .nil => 1
  | .ptr d => uptoBulk d + 1
  | .slice elems spare => uptoBulkAll elems + uptoBulkAll spare + 1
  | .agg parts => uptoBulkAll parts + 1
  | .iface _ d => uptoBulk d + 1
  | .map entries => uptoBulkEntries entries + 1
  | .held _ => 1
def uptoBulkAll {H : Type} : List (DataW H) → Nat
  | [] => 0
  | d :: r => uptoBulk d + uptoBulkAll r
def uptoBulkEntries {H : Type} : List (Lit × DataW H) → Nat
  | [] => 0
  | x :: r => uptoBulkEntry x + uptoBulkEntries r
def uptoBulkEntry {H : Type} : Lit × DataW H → Nat
  | (.string bytes, d) => bytes.length + uptoBulk d + 1
  | (_, d) => uptoBulk d + 1
 end
def uptoSmall : (H : Type) → List (DataW H) → Bool := fun _ ds => decide (uptoBulkAll ds ≤ 1048576)
def OpenSpec.upto (s : _root_.Go.ChangeSpec) : _root_.Go.OpenSpec := { _root_.Go.OpenSpec.ofChange s with cond := some uptoSmall }

/-- 'laws.FnExactInsOk', WHERE WHAT IT READS IS OF BULK AT MOST 1048576: true; the input reads as it did. -/
def fnExactInsOkUptoRow : OpenClaim := { program := "ytmknnbbhhnmpaaa", sum := "f7ba8a9a8cb7f193b87e87a3a07358eaaa12abac041f156d29881c06e7d417dc", func := "loop.example/outwork/laws.FnExactInsOk", spec := "fnExactInsOk", unfollowed := true, recurses := true, apart := false, narrowed := true }
def FnExactInsOkUptoSaid : Prop := fnExactInsOkUptoRow.holds Try.pinned (OpenSpec.upto fnExactInsOkSpec)

/-- 'laws.FnExactPrgOk', WHERE WHAT IT READS IS OF BULK AT MOST 1048576: true; the input reads as it did. -/
def fnExactPrgOkUptoRow : OpenClaim := { program := "ytmknnbbhhnmpaaa", sum := "f7ba8a9a8cb7f193b87e87a3a07358eaaa12abac041f156d29881c06e7d417dc", func := "loop.example/outwork/laws.FnExactPrgOk", spec := "fnExactPrgOk", unfollowed := true, recurses := true, apart := false, narrowed := true }
def FnExactPrgOkUptoSaid : Prop := fnExactPrgOkUptoRow.holds Try.pinned (OpenSpec.upto fnExactPrgOkSpec)

/-- 'laws.FnPrgAt', WHERE WHAT IT READS IS OF BULK AT MOST 1048576: true; the input reads as it did. -/
def fnPrgAtUptoRow : OpenClaim := { program := "ytmknnbbhhnmpaaa", sum := "f7ba8a9a8cb7f193b87e87a3a07358eaaa12abac041f156d29881c06e7d417dc", func := "loop.example/outwork/laws.FnPrgAt", spec := "fnPrgAt", unfollowed := true, recurses := true, apart := false, narrowed := true }
def FnPrgAtUptoSaid : Prop := fnPrgAtUptoRow.holds Try.pinned (OpenSpec.upto fnPrgAtSpec)

/-- 'laws.FnExactSumsOk', WHERE WHAT IT READS IS OF BULK AT MOST 1048576: true; the input reads as it did. -/
def fnExactSumsOkUptoRow : OpenClaim := { program := "ytmknnbbhhnmpaaa", sum := "f7ba8a9a8cb7f193b87e87a3a07358eaaa12abac041f156d29881c06e7d417dc", func := "loop.example/outwork/laws.FnExactSumsOk", spec := "fnExactSumsOk", unfollowed := true, recurses := true, apart := false, narrowed := true }
def FnExactSumsOkUptoSaid : Prop := fnExactSumsOkUptoRow.holds Try.pinned (OpenSpec.upto fnExactSumsOkSpec)

/-- 'laws.FnExactAbsEntry', WHERE WHAT IT READS IS OF BULK AT MOST 1048576: true; the input reads as it did. -/
def fnExactAbsEntryUptoRow : OpenClaim := { program := "ytmknnbbhhnmpaaa", sum := "f7ba8a9a8cb7f193b87e87a3a07358eaaa12abac041f156d29881c06e7d417dc", func := "loop.example/outwork/laws.FnExactAbsEntry", spec := "fnExactAbsEntry", apart := false, narrowed := true }
def FnExactAbsEntryUptoSaid : Prop := fnExactAbsEntryUptoRow.holds Try.pinned (OpenSpec.upto fnExactAbsEntrySpec)

/-- 'laws.FnAbsEntry', WHERE WHAT IT READS IS OF BULK AT MOST 1048576: true; the input reads as it did. -/
def fnAbsEntryUptoRow : OpenClaim := { program := "ytmknnbbhhnmpaaa", sum := "f7ba8a9a8cb7f193b87e87a3a07358eaaa12abac041f156d29881c06e7d417dc", func := "loop.example/outwork/laws.FnAbsEntry", spec := "fnAbsEntry", unfollowed := true, recurses := true, apart := false, narrowed := true }
def FnAbsEntryUptoSaid : Prop := fnAbsEntryUptoRow.holds Try.pinned (OpenSpec.upto fnAbsEntrySpec)

/-- 'laws.FnAbsHas', WHERE WHAT IT READS IS OF BULK AT MOST 1048576: true; the input reads as it did. -/
def fnAbsHasUptoRow : OpenClaim := { program := "ytmknnbbhhnmpaaa", sum := "f7ba8a9a8cb7f193b87e87a3a07358eaaa12abac041f156d29881c06e7d417dc", func := "loop.example/outwork/laws.FnAbsHas", spec := "fnAbsHas", unfollowed := true, recurses := true, apart := false, narrowed := true }
def FnAbsHasUptoSaid : Prop := fnAbsHasUptoRow.holds Try.pinned (OpenSpec.upto fnAbsHasSpec)

/-- 'laws.FnExactRunNew', WHERE WHAT IT READS IS OF BULK AT MOST 1048576: true; the input reads as it did. -/
def fnExactRunNewUptoRow : OpenClaim := { program := "ytmknnbbhhnmpaaa", sum := "f7ba8a9a8cb7f193b87e87a3a07358eaaa12abac041f156d29881c06e7d417dc", func := "loop.example/outwork/laws.FnExactRunNew", spec := "fnExactRunNew", unfollowed := true, recurses := true, apart := false, narrowed := true }
def FnExactRunNewUptoSaid : Prop := fnExactRunNewUptoRow.holds Try.pinned (OpenSpec.upto fnExactRunNewSpec)

/-- 'laws.FnRunNew', WHERE WHAT IT READS IS OF BULK AT MOST 1048576: true; the input reads as it did. -/
def fnRunNewUptoRow : OpenClaim := { program := "ytmknnbbhhnmpaaa", sum := "f7ba8a9a8cb7f193b87e87a3a07358eaaa12abac041f156d29881c06e7d417dc", func := "loop.example/outwork/laws.FnRunNew", spec := "fnRunNew", unfollowed := true, recurses := true, apart := false, narrowed := true }
def FnRunNewUptoSaid : Prop := fnRunNewUptoRow.holds Try.pinned (OpenSpec.upto fnRunNewSpec)

/-- 'laws.FnExactRunOk', WHERE WHAT IT READS IS OF BULK AT MOST 1048576: true; the input reads as it did. -/
def fnExactRunOkUptoRow : OpenClaim := { program := "ytmknnbbhhnmpaaa", sum := "f7ba8a9a8cb7f193b87e87a3a07358eaaa12abac041f156d29881c06e7d417dc", func := "loop.example/outwork/laws.FnExactRunOk", spec := "fnExactRunOk", unfollowed := true, recurses := true, apart := false, narrowed := true }
def FnExactRunOkUptoSaid : Prop := fnExactRunOkUptoRow.holds Try.pinned (OpenSpec.upto fnExactRunOkSpec)

/-- 'laws.FnExactRunDepth', WHERE WHAT IT READS IS OF BULK AT MOST 1048576: true; the input reads as it did. -/
def fnExactRunDepthUptoRow : OpenClaim := { program := "ytmknnbbhhnmpaaa", sum := "f7ba8a9a8cb7f193b87e87a3a07358eaaa12abac041f156d29881c06e7d417dc", func := "loop.example/outwork/laws.FnExactRunDepth", spec := "fnExactRunDepth", unfollowed := true, recurses := true, apart := false, narrowed := true }
def FnExactRunDepthUptoSaid : Prop := fnExactRunDepthUptoRow.holds Try.pinned (OpenSpec.upto fnExactRunDepthSpec)

/-- 'laws.FnExactInsNext', WHERE WHAT IT READS IS OF BULK AT MOST 1048576: true; the input reads as it did. -/
def fnExactInsNextUptoRow : OpenClaim := { program := "ytmknnbbhhnmpaaa", sum := "f7ba8a9a8cb7f193b87e87a3a07358eaaa12abac041f156d29881c06e7d417dc", func := "loop.example/outwork/laws.FnExactInsNext", spec := "fnExactInsNext", unfollowed := true, recurses := true, apart := false, narrowed := true }
def FnExactInsNextUptoSaid : Prop := fnExactInsNextUptoRow.holds Try.pinned (OpenSpec.upto fnExactInsNextSpec)

end Rows
end Go.Proofs.Ytmknnbbhhnmpaaa
