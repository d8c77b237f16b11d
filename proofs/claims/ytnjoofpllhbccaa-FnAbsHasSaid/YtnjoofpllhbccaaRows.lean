/-
  No cell of these rows narrows 'for every input' (looked for: loops, veiled, ifaces, maps, wideKeys, modest, calm, conditions, laid).
  DERIVED. THE GIVEN ROWS OF THIS SEAT. 9 by the template 'for every input the law returns true; each argument reads behind the call as it read before'; 0 by the template 'total and deterministic' (their statements: YtnjoofpllhbccaaTotals.lean).
  GIVEN WITH THE SEED: the statements are not yours to turn. If you find one false, say at which input.
  Laid BY PROGRAM, IN A SANDBOX (cutbox-rows.mjs): the forced cells as the released guide's own fill.sh prints them over the translation b6e94f06f8df4aa0… (all of the seat's roots in one cut). By AI agents, Wed Nov 11 2026. No macro, syntax, notation, axiom, sorry.
-/
import Derived.Test.YtnjoofpllhbccaaChecked
import GoSem.Claim
import GoSem.ClaimJoined
import GoSem.ClaimMapViews
import Derived.JoinedTies
import Derived.KernelRfl
namespace Go.Proofs.Ytnjoofpllhbccaa
/- THE CELL 'sum', in the pinned program and in every row, IS THE sha256 OF THE DUMP (.gsa) THAT YtnjoofpllhbccaaProg.lean LOADS. Nothing in Lean hashes anything: it is a label: what it is worth is what the hold of that sum in a sandbox is worth. -/
noncomputable def Try.pinned : Pinned := { name := "ytnjoofpllhbccaa", sum := "b6e94f06f8df4aa04e02fd045edd4e52e0a824db905fcb3a770d120c35f9c481", checked := Try.checked }
namespace Rows
def none {H : Type} : Left H := { results := [], args := [] }

/-- 'laws.FnAbsEntry': WHATEVER THE INPUT: true; the input reads as it did. -/
def fnAbsEntrySpec : ChangeSpec := { name := "fnAbsEntry", fn := fun _ => fun
  | [d1, d2] => { results := [.lit (.bool true)], args := [d1, d2] }
  | _ => none }
def fnAbsEntryRow : OpenClaim := { program := "ytnjoofpllhbccaa", sum := "b6e94f06f8df4aa04e02fd045edd4e52e0a824db905fcb3a770d120c35f9c481", func := "loop.example/outwork/laws.FnAbsEntry", spec := "fnAbsEntry", unfollowed := true, recurses := true, plainKeys := false, apart := false }
def FnAbsEntrySaid : Prop := fnAbsEntryRow.holds Try.pinned (OpenSpec.ofChange fnAbsEntrySpec)

/-- ITS FALSE NEIGHBOUR: 'it returns false'. Refute it at one input. -/
def fnAbsEntryWrong : ChangeSpec := { name := "fnAbsEntry", fn := fun _ => fun
  | [d1, d2] => { results := [.lit (.bool false)], args := [d1, d2] }
  | _ => none }
def FnAbsEntryWrongFalsely : Prop := fnAbsEntryRow.holds Try.pinned (OpenSpec.ofChange fnAbsEntryWrong)

/-- 'laws.FnAbsHas': WHATEVER THE INPUT: true; the input reads as it did. -/
def fnAbsHasSpec : ChangeSpec := { name := "fnAbsHas", fn := fun _ => fun
  | [d1, d2] => { results := [.lit (.bool true)], args := [d1, d2] }
  | _ => none }
def fnAbsHasRow : OpenClaim := { program := "ytnjoofpllhbccaa", sum := "b6e94f06f8df4aa04e02fd045edd4e52e0a824db905fcb3a770d120c35f9c481", func := "loop.example/outwork/laws.FnAbsHas", spec := "fnAbsHas", unfollowed := true, recurses := true, plainKeys := false, apart := false }
def FnAbsHasSaid : Prop := fnAbsHasRow.holds Try.pinned (OpenSpec.ofChange fnAbsHasSpec)

/-- ITS FALSE NEIGHBOUR: 'it returns false'. Refute it at one input. -/
def fnAbsHasWrong : ChangeSpec := { name := "fnAbsHas", fn := fun _ => fun
  | [d1, d2] => { results := [.lit (.bool false)], args := [d1, d2] }
  | _ => none }
def FnAbsHasWrongFalsely : Prop := fnAbsHasRow.holds Try.pinned (OpenSpec.ofChange fnAbsHasWrong)

/-- 'laws.FnPrgAt': WHATEVER THE INPUT: true; the input reads as it did. -/
def fnPrgAtSpec : ChangeSpec := { name := "fnPrgAt", fn := fun _ => fun
  | [d] => { results := [.lit (.bool true)], args := [d] }
  | _ => none }
def fnPrgAtRow : OpenClaim := { program := "ytnjoofpllhbccaa", sum := "b6e94f06f8df4aa04e02fd045edd4e52e0a824db905fcb3a770d120c35f9c481", func := "loop.example/outwork/laws.FnPrgAt", spec := "fnPrgAt", unfollowed := true, recurses := true, plainKeys := false, apart := false }
def FnPrgAtSaid : Prop := fnPrgAtRow.holds Try.pinned (OpenSpec.ofChange fnPrgAtSpec)

/-- ITS FALSE NEIGHBOUR: 'it returns false'. Refute it at one input. -/
def fnPrgAtWrong : ChangeSpec := { name := "fnPrgAt", fn := fun _ => fun
  | [d] => { results := [.lit (.bool false)], args := [d] }
  | _ => none }
def FnPrgAtWrongFalsely : Prop := fnPrgAtRow.holds Try.pinned (OpenSpec.ofChange fnPrgAtWrong)

/-- 'laws.FnExactRunNew': WHATEVER THE INPUT: true; the input reads as it did. -/
def fnExactRunNewSpec : ChangeSpec := { name := "fnExactRunNew", fn := fun _ => fun
  | [d1, d2, d3] => { results := [.lit (.bool true)], args := [d1, d2, d3] }
  | _ => none }
def fnExactRunNewRow : OpenClaim := { program := "ytnjoofpllhbccaa", sum := "b6e94f06f8df4aa04e02fd045edd4e52e0a824db905fcb3a770d120c35f9c481", func := "loop.example/outwork/laws.FnExactRunNew", spec := "fnExactRunNew", unfollowed := true, recurses := true, plainKeys := false, apart := false }
def FnExactRunNewSaid : Prop := fnExactRunNewRow.holds Try.pinned (OpenSpec.ofChange fnExactRunNewSpec)

/-- ITS FALSE NEIGHBOUR: 'it returns false'. Refute it at one input. -/
def fnExactRunNewWrong : ChangeSpec := { name := "fnExactRunNew", fn := fun _ => fun
  | [d1, d2, d3] => { results := [.lit (.bool false)], args := [d1, d2, d3] }
  | _ => none }
def FnExactRunNewWrongFalsely : Prop := fnExactRunNewRow.holds Try.pinned (OpenSpec.ofChange fnExactRunNewWrong)

/-- 'laws.FnRunNew': WHATEVER THE INPUT: true; the input reads as it did. -/
def fnRunNewSpec : ChangeSpec := { name := "fnRunNew", fn := fun _ => fun
  | [d] => { results := [.lit (.bool true)], args := [d] }
  | _ => none }
def fnRunNewRow : OpenClaim := { program := "ytnjoofpllhbccaa", sum := "b6e94f06f8df4aa04e02fd045edd4e52e0a824db905fcb3a770d120c35f9c481", func := "loop.example/outwork/laws.FnRunNew", spec := "fnRunNew", unfollowed := true, recurses := true, plainKeys := false, apart := false }
def FnRunNewSaid : Prop := fnRunNewRow.holds Try.pinned (OpenSpec.ofChange fnRunNewSpec)

/-- ITS FALSE NEIGHBOUR: 'it returns false'. Refute it at one input. -/
def fnRunNewWrong : ChangeSpec := { name := "fnRunNew", fn := fun _ => fun
  | [d] => { results := [.lit (.bool false)], args := [d] }
  | _ => none }
def FnRunNewWrongFalsely : Prop := fnRunNewRow.holds Try.pinned (OpenSpec.ofChange fnRunNewWrong)

/-- 'laws.FnGrfCalls': WHATEVER THE INPUT: true; the input reads as it did. -/
def fnGrfCallsSpec : ChangeSpec := { name := "fnGrfCalls", fn := fun _ => fun
  | [d] => { results := [.lit (.bool true)], args := [d] }
  | _ => none }
def fnGrfCallsRow : OpenClaim := { program := "ytnjoofpllhbccaa", sum := "b6e94f06f8df4aa04e02fd045edd4e52e0a824db905fcb3a770d120c35f9c481", func := "loop.example/outwork/laws.FnGrfCalls", spec := "fnGrfCalls", unfollowed := true, recurses := true, plainKeys := false, apart := false }
def FnGrfCallsSaid : Prop := fnGrfCallsRow.holds Try.pinned (OpenSpec.ofChange fnGrfCallsSpec)

/-- ITS FALSE NEIGHBOUR: 'it returns false'. Refute it at one input. -/
def fnGrfCallsWrong : ChangeSpec := { name := "fnGrfCalls", fn := fun _ => fun
  | [d] => { results := [.lit (.bool false)], args := [d] }
  | _ => none }
def FnGrfCallsWrongFalsely : Prop := fnGrfCallsRow.holds Try.pinned (OpenSpec.ofChange fnGrfCallsWrong)

/-- 'laws.FnGrfReach': WHATEVER THE INPUT: true; the input reads as it did. -/
def fnGrfReachSpec : ChangeSpec := { name := "fnGrfReach", fn := fun _ => fun
  | [d] => { results := [.lit (.bool true)], args := [d] }
  | _ => none }
def fnGrfReachRow : OpenClaim := { program := "ytnjoofpllhbccaa", sum := "b6e94f06f8df4aa04e02fd045edd4e52e0a824db905fcb3a770d120c35f9c481", func := "loop.example/outwork/laws.FnGrfReach", spec := "fnGrfReach", unfollowed := true, recurses := true, plainKeys := false, apart := false }
def FnGrfReachSaid : Prop := fnGrfReachRow.holds Try.pinned (OpenSpec.ofChange fnGrfReachSpec)

/-- ITS FALSE NEIGHBOUR: 'it returns false'. Refute it at one input. -/
def fnGrfReachWrong : ChangeSpec := { name := "fnGrfReach", fn := fun _ => fun
  | [d] => { results := [.lit (.bool false)], args := [d] }
  | _ => none }
def FnGrfReachWrongFalsely : Prop := fnGrfReachRow.holds Try.pinned (OpenSpec.ofChange fnGrfReachWrong)

/-- 'laws.FnGrfPart': WHATEVER THE INPUT: true; the input reads as it did. -/
def fnGrfPartSpec : ChangeSpec := { name := "fnGrfPart", fn := fun _ => fun
  | [d] => { results := [.lit (.bool true)], args := [d] }
  | _ => none }
def fnGrfPartRow : OpenClaim := { program := "ytnjoofpllhbccaa", sum := "b6e94f06f8df4aa04e02fd045edd4e52e0a824db905fcb3a770d120c35f9c481", func := "loop.example/outwork/laws.FnGrfPart", spec := "fnGrfPart", unfollowed := true, recurses := true, plainKeys := false, apart := false }
def FnGrfPartSaid : Prop := fnGrfPartRow.holds Try.pinned (OpenSpec.ofChange fnGrfPartSpec)

/-- ITS FALSE NEIGHBOUR: 'it returns false'. Refute it at one input. -/
def fnGrfPartWrong : ChangeSpec := { name := "fnGrfPart", fn := fun _ => fun
  | [d] => { results := [.lit (.bool false)], args := [d] }
  | _ => none }
def FnGrfPartWrongFalsely : Prop := fnGrfPartRow.holds Try.pinned (OpenSpec.ofChange fnGrfPartWrong)

/-- 'laws.FnGrfParts': WHATEVER THE INPUT: true; the input reads as it did. -/
def fnGrfPartsSpec : ChangeSpec := { name := "fnGrfParts", fn := fun _ => fun
  | [d] => { results := [.lit (.bool true)], args := [d] }
  | _ => none }
def fnGrfPartsRow : OpenClaim := { program := "ytnjoofpllhbccaa", sum := "b6e94f06f8df4aa04e02fd045edd4e52e0a824db905fcb3a770d120c35f9c481", func := "loop.example/outwork/laws.FnGrfParts", spec := "fnGrfParts", unfollowed := true, recurses := true, plainKeys := false, apart := false }
def FnGrfPartsSaid : Prop := fnGrfPartsRow.holds Try.pinned (OpenSpec.ofChange fnGrfPartsSpec)

/-- ITS FALSE NEIGHBOUR: 'it returns false'. Refute it at one input. -/
def fnGrfPartsWrong : ChangeSpec := { name := "fnGrfParts", fn := fun _ => fun
  | [d] => { results := [.lit (.bool false)], args := [d] }
  | _ => none }
def FnGrfPartsWrongFalsely : Prop := fnGrfPartsRow.holds Try.pinned (OpenSpec.ofChange fnGrfPartsWrong)

/- THE SECOND FORM. 'bulk': how many values and letters a reading holds, each counted each time it is reached (what is shared counts as often as it is met; a slice's spare places count too). A statement '..UptoSaid' is the law's where the arguments, and the package variables that the reading takes, are together of bulk at most 1048576: NARROWER than '..Said'. Prove '..Said' where nothing that the law and all that it calls make is longer than what came in: it says more and counts as full. Else prove '..UptoSaid'. A law counts once. -/
mutual
def uptoBulk {H : Type} : DataW H → Nat
  | .lit (.string bytes) => bytes.length + 1
  | .lit _ => 1
  | .nil => 1
  | .ptr d => uptoBulk d + 1
  | .slice elems spare => uptoBulkAll elems + uptoBulkAll spare + 1
  | .agg parts => uptoBulkAll parts + 1
  | .iface _ d => uptoBulk d + 1
  | .map entries => uptoBulkEntries entries + 1
  | .held _ => 1
def uptoBulkAll {H : Type} : List (DataW H) → Nat
  | [] => 0
  | d :: r => uptoBulk d + uptoBulkAll r
def uptoBulkEntries {H : Type} : List (Lit × DataW H) → Nat
  | [] => 0
  | x :: r => uptoBulkEntry x + uptoBulkEntries r
def uptoBulkEntry {H : Type} : Lit × DataW H → Nat
  | (.string bytes, d) => bytes.length + uptoBulk d + 1
  | (_, d) => uptoBulk d + 1
 end
def uptoSmall : (H : Type) → List (DataW H) → Bool := fun _ ds => decide (uptoBulkAll ds ≤ 1048576)
def OpenSpec.upto (s : _root_.Go.ChangeSpec) : _root_.Go.OpenSpec := { _root_.Go.OpenSpec.ofChange s with cond := some uptoSmall }

/-- 'laws.FnAbsEntry', WHERE WHAT IT READS IS OF BULK AT MOST 1048576: true; the input reads as it did. -/
def fnAbsEntryUptoRow : OpenClaim := { program := "ytnjoofpllhbccaa", sum := "b6e94f06f8df4aa04e02fd045edd4e52e0a824db905fcb3a770d120c35f9c481", func := "loop.example/outwork/laws.FnAbsEntry", spec := "fnAbsEntry", unfollowed := true, recurses := true, plainKeys := false, apart := false, narrowed := true }
def FnAbsEntryUptoSaid : Prop := fnAbsEntryUptoRow.holds Try.pinned (OpenSpec.upto fnAbsEntrySpec)

/-- 'laws.FnAbsHas', WHERE WHAT IT READS IS OF BULK AT MOST 1048576: true; the input reads as it did. -/
def fnAbsHasUptoRow : OpenClaim := { program := "ytnjoofpllhbccaa", sum := "b6e94f06f8df4aa04e02fd045edd4e52e0a824db905fcb3a770d120c35f9c481", func := "loop.example/outwork/laws.FnAbsHas", spec := "fnAbsHas", unfollowed := true, recurses := true, plainKeys := false, apart := false, narrowed := true }
def FnAbsHasUptoSaid : Prop := fnAbsHasUptoRow.holds Try.pinned (OpenSpec.upto fnAbsHasSpec)

/-- 'laws.FnPrgAt', WHERE WHAT IT READS IS OF BULK AT MOST 1048576: true; the input reads as it did. -/
def fnPrgAtUptoRow : OpenClaim := { program := "ytnjoofpllhbccaa", sum := "b6e94f06f8df4aa04e02fd045edd4e52e0a824db905fcb3a770d120c35f9c481", func := "loop.example/outwork/laws.FnPrgAt", spec := "fnPrgAt", unfollowed := true, recurses := true, plainKeys := false, apart := false, narrowed := true }
def FnPrgAtUptoSaid : Prop := fnPrgAtUptoRow.holds Try.pinned (OpenSpec.upto fnPrgAtSpec)

/-- 'laws.FnExactRunNew', WHERE WHAT IT READS IS OF BULK AT MOST 1048576: true; the input reads as it did. -/
def fnExactRunNewUptoRow : OpenClaim := { program := "ytnjoofpllhbccaa", sum := "b6e94f06f8df4aa04e02fd045edd4e52e0a824db905fcb3a770d120c35f9c481", func := "loop.example/outwork/laws.FnExactRunNew", spec := "fnExactRunNew", unfollowed := true, recurses := true, plainKeys := false, apart := false, narrowed := true }
def FnExactRunNewUptoSaid : Prop := fnExactRunNewUptoRow.holds Try.pinned (OpenSpec.upto fnExactRunNewSpec)

/-- 'laws.FnRunNew', WHERE WHAT IT READS IS OF BULK AT MOST 1048576: true; the input reads as it did. -/
def fnRunNewUptoRow : OpenClaim := { program := "ytnjoofpllhbccaa", sum := "b6e94f06f8df4aa04e02fd045edd4e52e0a824db905fcb3a770d120c35f9c481", func := "loop.example/outwork/laws.FnRunNew", spec := "fnRunNew", unfollowed := true, recurses := true, plainKeys := false, apart := false, narrowed := true }
def FnRunNewUptoSaid : Prop := fnRunNewUptoRow.holds Try.pinned (OpenSpec.upto fnRunNewSpec)

/-- 'laws.FnGrfCalls', WHERE WHAT IT READS IS OF BULK AT MOST 1048576: true; the input reads as it did. -/
def fnGrfCallsUptoRow : OpenClaim := { program := "ytnjoofpllhbccaa", sum := "b6e94f06f8df4aa04e02fd045edd4e52e0a824db905fcb3a770d120c35f9c481", func := "loop.example/outwork/laws.FnGrfCalls", spec := "fnGrfCalls", unfollowed := true, recurses := true, plainKeys := false, apart := false, narrowed := true }
def FnGrfCallsUptoSaid : Prop := fnGrfCallsUptoRow.holds Try.pinned (OpenSpec.upto fnGrfCallsSpec)

/-- 'laws.FnGrfReach', WHERE WHAT IT READS IS OF BULK AT MOST 1048576: true; the input reads as it did. -/
def fnGrfReachUptoRow : OpenClaim := { program := "ytnjoofpllhbccaa", sum := "b6e94f06f8df4aa04e02fd045edd4e52e0a824db905fcb3a770d120c35f9c481", func := "loop.example/outwork/laws.FnGrfReach", spec := "fnGrfReach", unfollowed := true, recurses := true, plainKeys := false, apart := false, narrowed := true }
def FnGrfReachUptoSaid : Prop := fnGrfReachUptoRow.holds Try.pinned (OpenSpec.upto fnGrfReachSpec)

/-- 'laws.FnGrfPart', WHERE WHAT IT READS IS OF BULK AT MOST 1048576: true; the input reads as it did. -/
def fnGrfPartUptoRow : OpenClaim := { program := "ytnjoofpllhbccaa", sum := "b6e94f06f8df4aa04e02fd045edd4e52e0a824db905fcb3a770d120c35f9c481", func := "loop.example/outwork/laws.FnGrfPart", spec := "fnGrfPart", unfollowed := true, recurses := true, plainKeys := false, apart := false, narrowed := true }
def FnGrfPartUptoSaid : Prop := fnGrfPartUptoRow.holds Try.pinned (OpenSpec.upto fnGrfPartSpec)

/-- 'laws.FnGrfParts', WHERE WHAT IT READS IS OF BULK AT MOST 1048576: true; the input reads as it did. -/
def fnGrfPartsUptoRow : OpenClaim := { program := "ytnjoofpllhbccaa", sum := "b6e94f06f8df4aa04e02fd045edd4e52e0a824db905fcb3a770d120c35f9c481", func := "loop.example/outwork/laws.FnGrfParts", spec := "fnGrfParts", unfollowed := true, recurses := true, plainKeys := false, apart := false, narrowed := true }
def FnGrfPartsUptoSaid : Prop := fnGrfPartsUptoRow.holds Try.pinned (OpenSpec.upto fnGrfPartsSpec)

end Rows
end Go.Proofs.Ytnjoofpllhbccaa
