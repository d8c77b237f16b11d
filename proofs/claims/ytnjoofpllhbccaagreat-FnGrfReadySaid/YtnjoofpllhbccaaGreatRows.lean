/-
  No cell of these rows narrows 'for every input' (looked for: loops, veiled, ifaces, maps, wideKeys, modest, calm, conditions, laid).
  DERIVED. THE GIVEN ROWS OF THIS SEAT. 3 by the template 'for every input the law returns true; each argument reads behind the call as it read before'; 0 by the template 'total and deterministic' (their statements: YtnjoofpllhbccaaGreatTotals.lean).
  GIVEN WITH THE SEED: the statements are not yours to turn. If you find one false, say at which input.
  Laid BY PROGRAM, IN A SANDBOX (cutbox-rows.mjs): the forced cells as the released guide's own fill.sh prints them over the translation ac59fdfca7b14d31… (all of the seat's roots in one cut). By AI agents, Wed Nov 11 2026. No macro, syntax, notation, axiom, sorry.
-/
import Derived.Test.YtnjoofpllhbccaaGreatChecked
import GoSem.Claim
import GoSem.ClaimJoined
import GoSem.ClaimMapViews
import Derived.JoinedTies
import Derived.KernelRfl
namespace Go.Proofs.YtnjoofpllhbccaaGreat
/- THE CELL 'sum', in the pinned program and in every row, IS THE sha256 OF THE DUMP (.gsa) THAT YtnjoofpllhbccaaGreatProg.lean LOADS. Nothing in Lean hashes anything: it is a label: what it is worth is what the hold of that sum in a sandbox is worth. -/
noncomputable def Tryz.pinned : Pinned := { name := "ytnjoofpllhbccaagreat", sum := "ac59fdfca7b14d31de0f70a7783487a44d45aebe7949d8f307a46a84c45ff755", checked := Tryz.checked }
namespace Rows
def none {H : Type} : Left H := { results := [], args := [] }

/-- 'laws.FnGrfNeeds': WHATEVER THE INPUT: true; the input reads as it did. -/
def fnGrfNeedsSpec : ChangeSpec := { name := "fnGrfNeeds", fn := fun _ => fun
  | [d] => { results := [.lit (.bool true)], args := [d] }
  | _ => none }
def fnGrfNeedsRow : OpenClaim := { program := "ytnjoofpllhbccaagreat", sum := "ac59fdfca7b14d31de0f70a7783487a44d45aebe7949d8f307a46a84c45ff755", func := "loop.example/outwork/laws.FnGrfNeeds", spec := "fnGrfNeeds", unfollowed := true, recurses := true, plainKeys := false, apart := false }
def FnGrfNeedsSaid : Prop := fnGrfNeedsRow.holds Tryz.pinned (OpenSpec.ofChange fnGrfNeedsSpec)

/-- ITS FALSE NEIGHBOUR: 'it returns false'. Refute it at one input. -/
def fnGrfNeedsWrong : ChangeSpec := { name := "fnGrfNeeds", fn := fun _ => fun
  | [d] => { results := [.lit (.bool false)], args := [d] }
  | _ => none }
def FnGrfNeedsWrongFalsely : Prop := fnGrfNeedsRow.holds Tryz.pinned (OpenSpec.ofChange fnGrfNeedsWrong)

/-- 'laws.FnGrfReady': WHATEVER THE INPUT: true; the input reads as it did. -/
def fnGrfReadySpec : ChangeSpec := { name := "fnGrfReady", fn := fun _ => fun
  | [d] => { results := [.lit (.bool true)], args := [d] }
  | _ => none }
def fnGrfReadyRow : OpenClaim := { program := "ytnjoofpllhbccaagreat", sum := "ac59fdfca7b14d31de0f70a7783487a44d45aebe7949d8f307a46a84c45ff755", func := "loop.example/outwork/laws.FnGrfReady", spec := "fnGrfReady", unfollowed := true, recurses := true, plainKeys := false, apart := false }
def FnGrfReadySaid : Prop := fnGrfReadyRow.holds Tryz.pinned (OpenSpec.ofChange fnGrfReadySpec)

/-- ITS FALSE NEIGHBOUR: 'it returns false'. Refute it at one input. -/
def fnGrfReadyWrong : ChangeSpec := { name := "fnGrfReady", fn := fun _ => fun
  | [d] => { results := [.lit (.bool false)], args := [d] }
  | _ => none }
def FnGrfReadyWrongFalsely : Prop := fnGrfReadyRow.holds Tryz.pinned (OpenSpec.ofChange fnGrfReadyWrong)

/-- 'laws.FnGrfOrder': WHATEVER THE INPUT: true; the input reads as it did. -/
def fnGrfOrderSpec : ChangeSpec := { name := "fnGrfOrder", fn := fun _ => fun
  | [d] => { results := [.lit (.bool true)], args := [d] }
  | _ => none }
def fnGrfOrderRow : OpenClaim := { program := "ytnjoofpllhbccaagreat", sum := "ac59fdfca7b14d31de0f70a7783487a44d45aebe7949d8f307a46a84c45ff755", func := "loop.example/outwork/laws.FnGrfOrder", spec := "fnGrfOrder", unfollowed := true, recurses := true, plainKeys := false, apart := false }
def FnGrfOrderSaid : Prop := fnGrfOrderRow.holds Tryz.pinned (OpenSpec.ofChange fnGrfOrderSpec)

/-- ITS FALSE NEIGHBOUR: 'it returns false'. Refute it at one input. -/
def fnGrfOrderWrong : ChangeSpec := { name := "fnGrfOrder", fn := fun _ => fun
  | [d] => { results := [.lit (.bool false)], args := [d] }
  | _ => none }
def FnGrfOrderWrongFalsely : Prop := fnGrfOrderRow.holds Tryz.pinned (OpenSpec.ofChange fnGrfOrderWrong)

/- THE SECOND FORM. 'bulk': how many values and letters a reading holds, each counted each time it is reached (what is shared counts as often as it is met; a slice's spare places count too). A statement '..UptoSaid' is the law's where the arguments, and the package variables that the reading takes, are together of bulk at most 1048576: NARROWER than '..Said'. Prove '..Said' where nothing that the law and all that it calls make is longer than what came in: it says more and counts as full. Else prove '..UptoSaid'. A law counts once. -/
mutual
def uptoBulk {H : Type} : DataW H → Nat
  | .lit (.string bytes) => bytes.length + 1
  | .lit _ => 1
  | .nil => 1
  | .ptr d => uptoBulk d + 1
  | .slice elems spare => uptoBulkAll elems + uptoBulkAll spare + 1
  | .agg parts => uptoBulkAll parts + 1
  | .iface _ d => uptoBulk d + 1
  | .map entries => uptoBulkEntries entries + 1
  | .held _ => 1
def uptoBulkAll {H : Type} : List (DataW H) → Nat
  | [] => 0
  | d :: r => uptoBulk d + uptoBulkAll r
def uptoBulkEntries {H : Type} : List (Lit × DataW H) → Nat
  | [] => 0
  | x :: r => uptoBulkEntry x + uptoBulkEntries r
def uptoBulkEntry {H : Type} : Lit × DataW H → Nat
  | (.string bytes, d) => bytes.length + uptoBulk d + 1
  | (_, d) => uptoBulk d + 1
 end
def uptoSmall : (H : Type) → List (DataW H) → Bool := fun _ ds => decide (uptoBulkAll ds ≤ 1048576)
def OpenSpec.upto (s : _root_.Go.ChangeSpec) : _root_.Go.OpenSpec := { _root_.Go.OpenSpec.ofChange s with cond := some uptoSmall }

/-- 'laws.FnGrfNeeds', WHERE WHAT IT READS IS OF BULK AT MOST 1048576: true; the input reads as it did. -/
def fnGrfNeedsUptoRow : OpenClaim := { program := "ytnjoofpllhbccaagreat", sum := "ac59fdfca7b14d31de0f70a7783487a44d45aebe7949d8f307a46a84c45ff755", func := "loop.example/outwork/laws.FnGrfNeeds", spec := "fnGrfNeeds", unfollowed := true, recurses := true, plainKeys := false, apart := false, narrowed := true }
def FnGrfNeedsUptoSaid : Prop := fnGrfNeedsUptoRow.holds Tryz.pinned (OpenSpec.upto fnGrfNeedsSpec)

/-- 'laws.FnGrfReady', WHERE WHAT IT READS IS OF BULK AT MOST 1048576: true; the input reads as it did. -/
def fnGrfReadyUptoRow : OpenClaim := { program := "ytnjoofpllhbccaagreat", sum := "ac59fdfca7b14d31de0f70a7783487a44d45aebe7949d8f307a46a84c45ff755", func := "loop.example/outwork/laws.FnGrfReady", spec := "fnGrfReady", unfollowed := true, recurses := true, plainKeys := false, apart := false, narrowed := true }
def FnGrfReadyUptoSaid : Prop := fnGrfReadyUptoRow.holds Tryz.pinned (OpenSpec.upto fnGrfReadySpec)

/-- 'laws.FnGrfOrder', WHERE WHAT IT READS IS OF BULK AT MOST 1048576: true; the input reads as it did. -/
def fnGrfOrderUptoRow : OpenClaim := { program := "ytnjoofpllhbccaagreat", sum := "ac59fdfca7b14d31de0f70a7783487a44d45aebe7949d8f307a46a84c45ff755", func := "loop.example/outwork/laws.FnGrfOrder", spec := "fnGrfOrder", unfollowed := true, recurses := true, plainKeys := false, apart := false, narrowed := true }
def FnGrfOrderUptoSaid : Prop := fnGrfOrderUptoRow.holds Tryz.pinned (OpenSpec.upto fnGrfOrderSpec)

end Rows
end Go.Proofs.YtnjoofpllhbccaaGreat
