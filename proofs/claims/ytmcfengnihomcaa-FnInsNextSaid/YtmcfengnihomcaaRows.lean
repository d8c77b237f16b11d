/-
  No cell of these rows narrows 'for every input' (looked for: loops, veiled, ifaces, maps, wideKeys, modest, calm, conditions, laid).
  DERIVED. THE GIVEN ROWS OF THIS SEAT. 10 by the template 'for every input the law returns true; each argument reads behind the call as it read before'; 0 by the template 'total and deterministic' (their statements: YtmcfengnihomcaaTotals.lean).
  GIVEN WITH THE SEED: the statements are not yours to turn. If you find one false, say at which input.
  Laid BY PROGRAM, IN A SANDBOX (cutbox-rows.mjs): the forced cells as the released guide's own fill.sh prints them over the translation db67e14cc5d7af9f… (all of the seat's roots in one cut). By AI agents, Wed Nov 11 2026. No macro, syntax, notation, axiom, sorry.
-/
import Derived.Test.YtmcfengnihomcaaChecked
import GoSem.Claim
import GoSem.ClaimJoined
import GoSem.ClaimMapViews
import Derived.JoinedTies
import Derived.KernelRfl
namespace Go.Proofs.Ytmcfengnihomcaa
/- THE CELL 'sum', in the pinned program and in every row, IS THE sha256 OF THE DUMP (.gsa) THAT YtmcfengnihomcaaProg.lean LOADS. Nothing in Lean hashes anything: it is a label: what it is worth is what the hold of that sum in a sandbox is worth. -/
noncomputable def Try.pinned : Pinned := { name := "ytmcfengnihomcaa", sum := "db67e14cc5d7af9f9c75041af24f75b88d838fb9909fe6966443ce3e647e2083", checked := Try.checked }
namespace Rows
def none {H : Type} : Left H := { results := [], args := [] }

/-- 'laws.FnExactGrfCalls': WHATEVER THE INPUT: true; the input reads as it did. -/
def fnExactGrfCallsSpec : ChangeSpec := { name := "fnExactGrfCalls", fn := fun _ => fun
  | [d1, d2] => { results := [.lit (.bool true)], args := [d1, d2] }
  | _ => none }
def fnExactGrfCallsRow : OpenClaim := { program := "ytmcfengnihomcaa", sum := "db67e14cc5d7af9f9c75041af24f75b88d838fb9909fe6966443ce3e647e2083", func := "loop.example/outwork/laws.FnExactGrfCalls", spec := "fnExactGrfCalls", unfollowed := true, recurses := true, plainKeys := false, apart := false }
def FnExactGrfCallsSaid : Prop := fnExactGrfCallsRow.holds Try.pinned (OpenSpec.ofChange fnExactGrfCallsSpec)

/-- ITS FALSE NEIGHBOUR: 'it returns false'. Refute it at one input. -/
def fnExactGrfCallsWrong : ChangeSpec := { name := "fnExactGrfCalls", fn := fun _ => fun
  | [d1, d2] => { results := [.lit (.bool false)], args := [d1, d2] }
  | _ => none }
def FnExactGrfCallsWrongFalsely : Prop := fnExactGrfCallsRow.holds Try.pinned (OpenSpec.ofChange fnExactGrfCallsWrong)

/-- 'laws.FnExactGrfReach': WHATEVER THE INPUT: true; the input reads as it did. -/
def fnExactGrfReachSpec : ChangeSpec := { name := "fnExactGrfReach", fn := fun _ => fun
  | [d1, d2] => { results := [.lit (.bool true)], args := [d1, d2] }
  | _ => none }
def fnExactGrfReachRow : OpenClaim := { program := "ytmcfengnihomcaa", sum := "db67e14cc5d7af9f9c75041af24f75b88d838fb9909fe6966443ce3e647e2083", func := "loop.example/outwork/laws.FnExactGrfReach", spec := "fnExactGrfReach", unfollowed := true, recurses := true, plainKeys := false, apart := false }
def FnExactGrfReachSaid : Prop := fnExactGrfReachRow.holds Try.pinned (OpenSpec.ofChange fnExactGrfReachSpec)

/-- ITS FALSE NEIGHBOUR: 'it returns false'. Refute it at one input. -/
def fnExactGrfReachWrong : ChangeSpec := { name := "fnExactGrfReach", fn := fun _ => fun
  | [d1, d2] => { results := [.lit (.bool false)], args := [d1, d2] }
  | _ => none }
def FnExactGrfReachWrongFalsely : Prop := fnExactGrfReachRow.holds Try.pinned (OpenSpec.ofChange fnExactGrfReachWrong)

/-- 'laws.FnExactGrfPart': WHATEVER THE INPUT: true; the input reads as it did. -/
def fnExactGrfPartSpec : ChangeSpec := { name := "fnExactGrfPart", fn := fun _ => fun
  | [d1, d2] => { results := [.lit (.bool true)], args := [d1, d2] }
  | _ => none }
def fnExactGrfPartRow : OpenClaim := { program := "ytmcfengnihomcaa", sum := "db67e14cc5d7af9f9c75041af24f75b88d838fb9909fe6966443ce3e647e2083", func := "loop.example/outwork/laws.FnExactGrfPart", spec := "fnExactGrfPart", unfollowed := true, recurses := true, plainKeys := false, apart := false }
def FnExactGrfPartSaid : Prop := fnExactGrfPartRow.holds Try.pinned (OpenSpec.ofChange fnExactGrfPartSpec)

/-- ITS FALSE NEIGHBOUR: 'it returns false'. Refute it at one input. -/
def fnExactGrfPartWrong : ChangeSpec := { name := "fnExactGrfPart", fn := fun _ => fun
  | [d1, d2] => { results := [.lit (.bool false)], args := [d1, d2] }
  | _ => none }
def FnExactGrfPartWrongFalsely : Prop := fnExactGrfPartRow.holds Try.pinned (OpenSpec.ofChange fnExactGrfPartWrong)

/-- 'laws.FnExactGrfParts': WHATEVER THE INPUT: true; the input reads as it did. -/
def fnExactGrfPartsSpec : ChangeSpec := { name := "fnExactGrfParts", fn := fun _ => fun
  | [d] => { results := [.lit (.bool true)], args := [d] }
  | _ => none }
def fnExactGrfPartsRow : OpenClaim := { program := "ytmcfengnihomcaa", sum := "db67e14cc5d7af9f9c75041af24f75b88d838fb9909fe6966443ce3e647e2083", func := "loop.example/outwork/laws.FnExactGrfParts", spec := "fnExactGrfParts", unfollowed := true, recurses := true, plainKeys := false, apart := false }
def FnExactGrfPartsSaid : Prop := fnExactGrfPartsRow.holds Try.pinned (OpenSpec.ofChange fnExactGrfPartsSpec)

/-- ITS FALSE NEIGHBOUR: 'it returns false'. Refute it at one input. -/
def fnExactGrfPartsWrong : ChangeSpec := { name := "fnExactGrfParts", fn := fun _ => fun
  | [d] => { results := [.lit (.bool false)], args := [d] }
  | _ => none }
def FnExactGrfPartsWrongFalsely : Prop := fnExactGrfPartsRow.holds Try.pinned (OpenSpec.ofChange fnExactGrfPartsWrong)

/-- 'laws.FnExactGrfNeeds': WHATEVER THE INPUT: true; the input reads as it did. -/
def fnExactGrfNeedsSpec : ChangeSpec := { name := "fnExactGrfNeeds", fn := fun _ => fun
  | [d1, d2] => { results := [.lit (.bool true)], args := [d1, d2] }
  | _ => none }
def fnExactGrfNeedsRow : OpenClaim := { program := "ytmcfengnihomcaa", sum := "db67e14cc5d7af9f9c75041af24f75b88d838fb9909fe6966443ce3e647e2083", func := "loop.example/outwork/laws.FnExactGrfNeeds", spec := "fnExactGrfNeeds", unfollowed := true, recurses := true, plainKeys := false, apart := false }
def FnExactGrfNeedsSaid : Prop := fnExactGrfNeedsRow.holds Try.pinned (OpenSpec.ofChange fnExactGrfNeedsSpec)

/-- ITS FALSE NEIGHBOUR: 'it returns false'. Refute it at one input. -/
def fnExactGrfNeedsWrong : ChangeSpec := { name := "fnExactGrfNeeds", fn := fun _ => fun
  | [d1, d2] => { results := [.lit (.bool false)], args := [d1, d2] }
  | _ => none }
def FnExactGrfNeedsWrongFalsely : Prop := fnExactGrfNeedsRow.holds Try.pinned (OpenSpec.ofChange fnExactGrfNeedsWrong)

/-- 'laws.FnInsNext': WHATEVER THE INPUT: true; the input reads as it did. -/
def fnInsNextSpec : ChangeSpec := { name := "fnInsNext", fn := fun _ => fun
  | [d] => { results := [.lit (.bool true)], args := [d] }
  | _ => none }
def fnInsNextRow : OpenClaim := { program := "ytmcfengnihomcaa", sum := "db67e14cc5d7af9f9c75041af24f75b88d838fb9909fe6966443ce3e647e2083", func := "loop.example/outwork/laws.FnInsNext", spec := "fnInsNext", unfollowed := true, recurses := true, plainKeys := false, apart := false }
def FnInsNextSaid : Prop := fnInsNextRow.holds Try.pinned (OpenSpec.ofChange fnInsNextSpec)

/-- ITS FALSE NEIGHBOUR: 'it returns false'. Refute it at one input. -/
def fnInsNextWrong : ChangeSpec := { name := "fnInsNext", fn := fun _ => fun
  | [d] => { results := [.lit (.bool false)], args := [d] }
  | _ => none }
def FnInsNextWrongFalsely : Prop := fnInsNextRow.holds Try.pinned (OpenSpec.ofChange fnInsNextWrong)

/-- 'laws.FnGrfCalls': WHATEVER THE INPUT: true; the input reads as it did. -/
def fnGrfCallsSpec : ChangeSpec := { name := "fnGrfCalls", fn := fun _ => fun
  | [d] => { results := [.lit (.bool true)], args := [d] }
  | _ => none }
def fnGrfCallsRow : OpenClaim := { program := "ytmcfengnihomcaa", sum := "db67e14cc5d7af9f9c75041af24f75b88d838fb9909fe6966443ce3e647e2083", func := "loop.example/outwork/laws.FnGrfCalls", spec := "fnGrfCalls", unfollowed := true, recurses := true, plainKeys := false, apart := false }
def FnGrfCallsSaid : Prop := fnGrfCallsRow.holds Try.pinned (OpenSpec.ofChange fnGrfCallsSpec)

/-- ITS FALSE NEIGHBOUR: 'it returns false'. Refute it at one input. -/
def fnGrfCallsWrong : ChangeSpec := { name := "fnGrfCalls", fn := fun _ => fun
  | [d] => { results := [.lit (.bool false)], args := [d] }
  | _ => none }
def FnGrfCallsWrongFalsely : Prop := fnGrfCallsRow.holds Try.pinned (OpenSpec.ofChange fnGrfCallsWrong)

/-- 'laws.FnGrfReach': WHATEVER THE INPUT: true; the input reads as it did. -/
def fnGrfReachSpec : ChangeSpec := { name := "fnGrfReach", fn := fun _ => fun
  | [d] => { results := [.lit (.bool true)], args := [d] }
  | _ => none }
def fnGrfReachRow : OpenClaim := { program := "ytmcfengnihomcaa", sum := "db67e14cc5d7af9f9c75041af24f75b88d838fb9909fe6966443ce3e647e2083", func := "loop.example/outwork/laws.FnGrfReach", spec := "fnGrfReach", unfollowed := true, recurses := true, plainKeys := false, apart := false }
def FnGrfReachSaid : Prop := fnGrfReachRow.holds Try.pinned (OpenSpec.ofChange fnGrfReachSpec)

/-- ITS FALSE NEIGHBOUR: 'it returns false'. Refute it at one input. -/
def fnGrfReachWrong : ChangeSpec := { name := "fnGrfReach", fn := fun _ => fun
  | [d] => { results := [.lit (.bool false)], args := [d] }
  | _ => none }
def FnGrfReachWrongFalsely : Prop := fnGrfReachRow.holds Try.pinned (OpenSpec.ofChange fnGrfReachWrong)

/-- 'laws.FnGrfPart': WHATEVER THE INPUT: true; the input reads as it did. -/
def fnGrfPartSpec : ChangeSpec := { name := "fnGrfPart", fn := fun _ => fun
  | [d] => { results := [.lit (.bool true)], args := [d] }
  | _ => none }
def fnGrfPartRow : OpenClaim := { program := "ytmcfengnihomcaa", sum := "db67e14cc5d7af9f9c75041af24f75b88d838fb9909fe6966443ce3e647e2083", func := "loop.example/outwork/laws.FnGrfPart", spec := "fnGrfPart", unfollowed := true, recurses := true, plainKeys := false, apart := false }
def FnGrfPartSaid : Prop := fnGrfPartRow.holds Try.pinned (OpenSpec.ofChange fnGrfPartSpec)

/-- ITS FALSE NEIGHBOUR: 'it returns false'. Refute it at one input. -/
def fnGrfPartWrong : ChangeSpec := { name := "fnGrfPart", fn := fun _ => fun
  | [d] => { results := [.lit (.bool false)], args := [d] }
  | _ => none }
def FnGrfPartWrongFalsely : Prop := fnGrfPartRow.holds Try.pinned (OpenSpec.ofChange fnGrfPartWrong)

/-- 'laws.FnGrfParts': WHATEVER THE INPUT: true; the input reads as it did. -/
def fnGrfPartsSpec : ChangeSpec := { name := "fnGrfParts", fn := fun _ => fun
  | [d] => { results := [.lit (.bool true)], args := [d] }
  | _ => none }
def fnGrfPartsRow : OpenClaim := { program := "ytmcfengnihomcaa", sum := "db67e14cc5d7af9f9c75041af24f75b88d838fb9909fe6966443ce3e647e2083", func := "loop.example/outwork/laws.FnGrfParts", spec := "fnGrfParts", unfollowed := true, recurses := true, plainKeys := false, apart := false }
def FnGrfPartsSaid : Prop := fnGrfPartsRow.holds Try.pinned (OpenSpec.ofChange fnGrfPartsSpec)

/-- ITS FALSE NEIGHBOUR: 'it returns false'. Refute it at one input. -/
def fnGrfPartsWrong : ChangeSpec := { name := "fnGrfParts", fn := fun _ => fun
  | [d] => { results := [.lit (.bool false)], args := [d] }
  | _ => none }
def FnGrfPartsWrongFalsely : Prop := fnGrfPartsRow.holds Try.pinned (OpenSpec.ofChange fnGrfPartsWrong)

/- THE SECOND FORM. 'bulk': how many values and letters a reading holds, each counted each time it is reached (what is shared counts as often as it is met; a slice's spare places count too). A statement '..UptoSaid' is the law's where the arguments, and the package variables that the reading takes, are together of bulk at most 1048576: NARROWER than '..Said'. Prove '..Said' where nothing that the law and all that it calls make is longer than what came in: it says more and counts as full. Else prove '..UptoSaid'. A law counts once. -/
mutual
def uptoBulk {H : Type} : DataW H → Nat
  | .lit (.string bytes) => bytes.length + 1
  | .lit _ => 1
  | .nil => 1
  | .ptr d => uptoBulk d + 1
  | .slice elems spare => uptoBulkAll elems + uptoBulkAll spare + 1
  | .agg parts => uptoBulkAll parts + 1
  | .iface _ d => uptoBulk d + 1
  | .map entries => uptoBulkEntries entries + 1
  | .held _ => 1
def uptoBulkAll {H : Type} : List (DataW H) → Nat
  | [] => 0
  | d :: r => uptoBulk d + uptoBulkAll r
def uptoBulkEntries {H : Type} : List (Lit × DataW H) → Nat
  | [] => 0
  | x :: r => uptoBulkEntry x + uptoBulkEntries r
def uptoBulkEntry {H : Type} : Lit × DataW H → Nat
  | (.string bytes, d) => bytes.length + uptoBulk d + 1
  | (_, d) => uptoBulk d + 1
 end
def uptoSmall : (H : Type) → List (DataW H) → Bool := fun _ ds => decide (uptoBulkAll ds ≤ 1048576)
def OpenSpec.upto (s : _root_.Go.ChangeSpec) : _root_.Go.OpenSpec := { _root_.Go.OpenSpec.ofChange s with cond := some uptoSmall }

/-- 'laws.FnExactGrfCalls', WHERE WHAT IT READS IS OF BULK AT MOST 1048576: true; the input reads as it did. -/
def fnExactGrfCallsUptoRow : OpenClaim := { program := "ytmcfengnihomcaa", sum := "db67e14cc5d7af9f9c75041af24f75b88d838fb9909fe6966443ce3e647e2083", func := "loop.example/outwork/laws.FnExactGrfCalls", spec := "fnExactGrfCalls", unfollowed := true, recurses := true, plainKeys := false, apart := false, narrowed := true }
def FnExactGrfCallsUptoSaid : Prop := fnExactGrfCallsUptoRow.holds Try.pinned (OpenSpec.upto fnExactGrfCallsSpec)

/-- 'laws.FnExactGrfReach', WHERE WHAT IT READS IS OF BULK AT MOST 1048576: true; the input reads as it did. -/
def fnExactGrfReachUptoRow : OpenClaim := { program := "ytmcfengnihomcaa", sum := "db67e14cc5d7af9f9c75041af24f75b88d838fb9909fe6966443ce3e647e2083", func := "loop.example/outwork/laws.FnExactGrfReach", spec := "fnExactGrfReach", unfollowed := true, recurses := true, plainKeys := false, apart := false, narrowed := true }
def FnExactGrfReachUptoSaid : Prop := fnExactGrfReachUptoRow.holds Try.pinned (OpenSpec.upto fnExactGrfReachSpec)

/-- 'laws.FnExactGrfPart', WHERE WHAT IT READS IS OF BULK AT MOST 1048576: true; the input reads as it did. -/
def fnExactGrfPartUptoRow : OpenClaim := { program := "ytmcfengnihomcaa", sum := "db67e14cc5d7af9f9c75041af24f75b88d838fb9909fe6966443ce3e647e2083", func := "loop.example/outwork/laws.FnExactGrfPart", spec := "fnExactGrfPart", unfollowed := true, recurses := true, plainKeys := false, apart := false, narrowed := true }
def FnExactGrfPartUptoSaid : Prop := fnExactGrfPartUptoRow.holds Try.pinned (OpenSpec.upto fnExactGrfPartSpec)

/-- 'laws.FnExactGrfParts', WHERE WHAT IT READS IS OF BULK AT MOST 1048576: true; the input reads as it did. -/
def fnExactGrfPartsUptoRow : OpenClaim := { program := "ytmcfengnihomcaa", sum := "db67e14cc5d7af9f9c75041af24f75b88d838fb9909fe6966443ce3e647e2083", func := "loop.example/outwork/laws.FnExactGrfParts", spec := "fnExactGrfParts", unfollowed := true, recurses := true, plainKeys := false, apart := false, narrowed := true }
def FnExactGrfPartsUptoSaid : Prop := fnExactGrfPartsUptoRow.holds Try.pinned (OpenSpec.upto fnExactGrfPartsSpec)

/-- 'laws.FnExactGrfNeeds', WHERE WHAT IT READS IS OF BULK AT MOST 1048576: true; the input reads as it did. -/
def fnExactGrfNeedsUptoRow : OpenClaim := { program := "ytmcfengnihomcaa", sum := "db67e14cc5d7af9f9c75041af24f75b88d838fb9909fe6966443ce3e647e2083", func := "loop.example/outwork/laws.FnExactGrfNeeds", spec := "fnExactGrfNeeds", unfollowed := true, recurses := true, plainKeys := false, apart := false, narrowed := true }
def FnExactGrfNeedsUptoSaid : Prop := fnExactGrfNeedsUptoRow.holds Try.pinned (OpenSpec.upto fnExactGrfNeedsSpec)

/-- 'laws.FnInsNext', WHERE WHAT IT READS IS OF BULK AT MOST 1048576: true; the input reads as it did. -/
def fnInsNextUptoRow : OpenClaim := { program := "ytmcfengnihomcaa", sum := "db67e14cc5d7af9f9c75041af24f75b88d838fb9909fe6966443ce3e647e2083", func := "loop.example/outwork/laws.FnInsNext", spec := "fnInsNext", unfollowed := true, recurses := true, plainKeys := false, apart := false, narrowed := true }
def FnInsNextUptoSaid : Prop := fnInsNextUptoRow.holds Try.pinned (OpenSpec.upto fnInsNextSpec)

/-- 'laws.FnGrfCalls', WHERE WHAT IT READS IS OF BULK AT MOST 1048576: true; the input reads as it did. -/
def fnGrfCallsUptoRow : OpenClaim := { program := "ytmcfengnihomcaa", sum := "db67e14cc5d7af9f9c75041af24f75b88d838fb9909fe6966443ce3e647e2083", func := "loop.example/outwork/laws.FnGrfCalls", spec := "fnGrfCalls", unfollowed := true, recurses := true, plainKeys := false, apart := false, narrowed := true }
def FnGrfCallsUptoSaid : Prop := fnGrfCallsUptoRow.holds Try.pinned (OpenSpec.upto fnGrfCallsSpec)

/-- 'laws.FnGrfReach', WHERE WHAT IT READS IS OF BULK AT MOST 1048576: true; the input reads as it did. -/
def fnGrfReachUptoRow : OpenClaim := { program := "ytmcfengnihomcaa", sum := "db67e14cc5d7af9f9c75041af24f75b88d838fb9909fe6966443ce3e647e2083", func := "loop.example/outwork/laws.FnGrfReach", spec := "fnGrfReach", unfollowed := true, recurses := true, plainKeys := false, apart := false, narrowed := true }
def FnGrfReachUptoSaid : Prop := fnGrfReachUptoRow.holds Try.pinned (OpenSpec.upto fnGrfReachSpec)

/-- 'laws.FnGrfPart', WHERE WHAT IT READS IS OF BULK AT MOST 1048576: true; the input reads as it did. -/
def fnGrfPartUptoRow : OpenClaim := { program := "ytmcfengnihomcaa", sum := "db67e14cc5d7af9f9c75041af24f75b88d838fb9909fe6966443ce3e647e2083", func := "loop.example/outwork/laws.FnGrfPart", spec := "fnGrfPart", unfollowed := true, recurses := true, plainKeys := false, apart := false, narrowed := true }
def FnGrfPartUptoSaid : Prop := fnGrfPartUptoRow.holds Try.pinned (OpenSpec.upto fnGrfPartSpec)

/-- 'laws.FnGrfParts', WHERE WHAT IT READS IS OF BULK AT MOST 1048576: true; the input reads as it did. -/
def fnGrfPartsUptoRow : OpenClaim := { program := "ytmcfengnihomcaa", sum := "db67e14cc5d7af9f9c75041af24f75b88d838fb9909fe6966443ce3e647e2083", func := "loop.example/outwork/laws.FnGrfParts", spec := "fnGrfParts", unfollowed := true, recurses := true, plainKeys := false, apart := false, narrowed := true }
def FnGrfPartsUptoSaid : Prop := fnGrfPartsUptoRow.holds Try.pinned (OpenSpec.upto fnGrfPartsSpec)

end Rows
end Go.Proofs.Ytmcfengnihomcaa
