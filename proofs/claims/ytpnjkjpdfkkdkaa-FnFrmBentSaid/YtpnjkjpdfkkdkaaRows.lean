/-
  No cell of these rows narrows 'for every input' (looked for: loops, veiled, ifaces, maps, wideKeys, modest, calm, conditions, laid).
  DERIVED. THE GIVEN ROWS OF THIS SEAT. 9 by the template 'for every input the law returns true; each argument reads behind the call as it read before'; 0 by the template 'total and deterministic' (their statements: YtpnjkjpdfkkdkaaTotals.lean).
  GIVEN WITH THE SEED: the statements are not yours to turn. If you find one false, say at which input.
  Laid BY PROGRAM, IN A SANDBOX (cutbox-rows.mjs): the forced cells as the released guide's own fill.sh prints them over the translation b157cbb3832cdf7a… (all of the seat's roots in one cut). By AI agents, Wed Nov 11 2026. No macro, syntax, notation, axiom, sorry.
-/
import Derived.Test.YtpnjkjpdfkkdkaaChecked
import GoSem.Claim
import GoSem.ClaimJoined
import GoSem.ClaimMapViews
import Derived.JoinedTies
import Derived.KernelRfl
namespace Go.Proofs.Ytpnjkjpdfkkdkaa
/- THE CELL 'sum', in the pinned program and in every row, IS THE sha256 OF THE DUMP (.gsa) THAT YtpnjkjpdfkkdkaaProg.lean LOADS. Nothing in Lean hashes anything: it is a label: what it is worth is what the hold of that sum in a sandbox is worth. -/
noncomputable def Try.pinned : Pinned := { name := "ytpnjkjpdfkkdkaa", sum := "b157cbb3832cdf7a6027f7a16c15a0e36102814686350530fe0c95d8f8fa954a", checked := Try.checked }
namespace Rows
def none {H : Type} : Left H := { results := [], args := [] }

/-- 'laws.FnExactFrmSum': WHATEVER THE INPUT: true; the input reads as it did. -/
def fnExactFrmSumSpec : ChangeSpec := { name := "fnExactFrmSum", fn := fun _ => fun
  | [d] => { results := [.lit (.bool true)], args := [d] }
  | _ => none }
def fnExactFrmSumRow : OpenClaim := { program := "ytpnjkjpdfkkdkaa", sum := "b157cbb3832cdf7a6027f7a16c15a0e36102814686350530fe0c95d8f8fa954a", func := "loop.example/outwork/laws.FnExactFrmSum", spec := "fnExactFrmSum", apart := false }
def FnExactFrmSumSaid : Prop := fnExactFrmSumRow.holds Try.pinned (OpenSpec.ofChange fnExactFrmSumSpec)

/-- ITS FALSE NEIGHBOUR: 'it returns false'. Refute it at one input. -/
def fnExactFrmSumWrong : ChangeSpec := { name := "fnExactFrmSum", fn := fun _ => fun
  | [d] => { results := [.lit (.bool false)], args := [d] }
  | _ => none }
def FnExactFrmSumWrongFalsely : Prop := fnExactFrmSumRow.holds Try.pinned (OpenSpec.ofChange fnExactFrmSumWrong)

/-- 'laws.FnExactWirTake': WHATEVER THE INPUT: true; the input reads as it did. -/
def fnExactWirTakeSpec : ChangeSpec := { name := "fnExactWirTake", fn := fun _ => fun
  | [d1, d2] => { results := [.lit (.bool true)], args := [d1, d2] }
  | _ => none }
def fnExactWirTakeRow : OpenClaim := { program := "ytpnjkjpdfkkdkaa", sum := "b157cbb3832cdf7a6027f7a16c15a0e36102814686350530fe0c95d8f8fa954a", func := "loop.example/outwork/laws.FnExactWirTake", spec := "fnExactWirTake", apart := false }
def FnExactWirTakeSaid : Prop := fnExactWirTakeRow.holds Try.pinned (OpenSpec.ofChange fnExactWirTakeSpec)

/-- ITS FALSE NEIGHBOUR: 'it returns false'. Refute it at one input. -/
def fnExactWirTakeWrong : ChangeSpec := { name := "fnExactWirTake", fn := fun _ => fun
  | [d1, d2] => { results := [.lit (.bool false)], args := [d1, d2] }
  | _ => none }
def FnExactWirTakeWrongFalsely : Prop := fnExactWirTakeRow.holds Try.pinned (OpenSpec.ofChange fnExactWirTakeWrong)

/-- 'laws.FnExactWirPut': WHATEVER THE INPUT: true; the input reads as it did. -/
def fnExactWirPutSpec : ChangeSpec := { name := "fnExactWirPut", fn := fun _ => fun
  | [d1, d2] => { results := [.lit (.bool true)], args := [d1, d2] }
  | _ => none }
def fnExactWirPutRow : OpenClaim := { program := "ytpnjkjpdfkkdkaa", sum := "b157cbb3832cdf7a6027f7a16c15a0e36102814686350530fe0c95d8f8fa954a", func := "loop.example/outwork/laws.FnExactWirPut", spec := "fnExactWirPut", apart := false }
def FnExactWirPutSaid : Prop := fnExactWirPutRow.holds Try.pinned (OpenSpec.ofChange fnExactWirPutSpec)

/-- ITS FALSE NEIGHBOUR: 'it returns false'. Refute it at one input. -/
def fnExactWirPutWrong : ChangeSpec := { name := "fnExactWirPut", fn := fun _ => fun
  | [d1, d2] => { results := [.lit (.bool false)], args := [d1, d2] }
  | _ => none }
def FnExactWirPutWrongFalsely : Prop := fnExactWirPutRow.holds Try.pinned (OpenSpec.ofChange fnExactWirPutWrong)

/-- 'laws.FnExactFrmPut': WHATEVER THE INPUT: true; the input reads as it did. -/
def fnExactFrmPutSpec : ChangeSpec := { name := "fnExactFrmPut", fn := fun _ => fun
  | [d] => { results := [.lit (.bool true)], args := [d] }
  | _ => none }
def fnExactFrmPutRow : OpenClaim := { program := "ytpnjkjpdfkkdkaa", sum := "b157cbb3832cdf7a6027f7a16c15a0e36102814686350530fe0c95d8f8fa954a", func := "loop.example/outwork/laws.FnExactFrmPut", spec := "fnExactFrmPut", apart := false }
def FnExactFrmPutSaid : Prop := fnExactFrmPutRow.holds Try.pinned (OpenSpec.ofChange fnExactFrmPutSpec)

/-- ITS FALSE NEIGHBOUR: 'it returns false'. Refute it at one input. -/
def fnExactFrmPutWrong : ChangeSpec := { name := "fnExactFrmPut", fn := fun _ => fun
  | [d] => { results := [.lit (.bool false)], args := [d] }
  | _ => none }
def FnExactFrmPutWrongFalsely : Prop := fnExactFrmPutRow.holds Try.pinned (OpenSpec.ofChange fnExactFrmPutWrong)

/-- 'laws.FnFrmSum': WHATEVER THE INPUT: true; the input reads as it did. -/
def fnFrmSumSpec : ChangeSpec := { name := "fnFrmSum", fn := fun _ => fun
  | [d1, d2] => { results := [.lit (.bool true)], args := [d1, d2] }
  | _ => none }
def fnFrmSumRow : OpenClaim := { program := "ytpnjkjpdfkkdkaa", sum := "b157cbb3832cdf7a6027f7a16c15a0e36102814686350530fe0c95d8f8fa954a", func := "loop.example/outwork/laws.FnFrmSum", spec := "fnFrmSum", apart := false }
def FnFrmSumSaid : Prop := fnFrmSumRow.holds Try.pinned (OpenSpec.ofChange fnFrmSumSpec)

/-- ITS FALSE NEIGHBOUR: 'it returns false'. Refute it at one input. -/
def fnFrmSumWrong : ChangeSpec := { name := "fnFrmSum", fn := fun _ => fun
  | [d1, d2] => { results := [.lit (.bool false)], args := [d1, d2] }
  | _ => none }
def FnFrmSumWrongFalsely : Prop := fnFrmSumRow.holds Try.pinned (OpenSpec.ofChange fnFrmSumWrong)

/-- 'laws.FnExactFrmTake': WHATEVER THE INPUT: true; the input reads as it did. -/
def fnExactFrmTakeSpec : ChangeSpec := { name := "fnExactFrmTake", fn := fun _ => fun
  | [d] => { results := [.lit (.bool true)], args := [d] }
  | _ => none }
def fnExactFrmTakeRow : OpenClaim := { program := "ytpnjkjpdfkkdkaa", sum := "b157cbb3832cdf7a6027f7a16c15a0e36102814686350530fe0c95d8f8fa954a", func := "loop.example/outwork/laws.FnExactFrmTake", spec := "fnExactFrmTake", apart := false }
def FnExactFrmTakeSaid : Prop := fnExactFrmTakeRow.holds Try.pinned (OpenSpec.ofChange fnExactFrmTakeSpec)

/-- ITS FALSE NEIGHBOUR: 'it returns false'. Refute it at one input. -/
def fnExactFrmTakeWrong : ChangeSpec := { name := "fnExactFrmTake", fn := fun _ => fun
  | [d] => { results := [.lit (.bool false)], args := [d] }
  | _ => none }
def FnExactFrmTakeWrongFalsely : Prop := fnExactFrmTakeRow.holds Try.pinned (OpenSpec.ofChange fnExactFrmTakeWrong)

/-- 'laws.FnFrmBent': WHATEVER THE INPUT: true; the input reads as it did. -/
def fnFrmBentSpec : ChangeSpec := { name := "fnFrmBent", fn := fun _ => fun
  | [d1, d2] => { results := [.lit (.bool true)], args := [d1, d2] }
  | _ => none }
def fnFrmBentRow : OpenClaim := { program := "ytpnjkjpdfkkdkaa", sum := "b157cbb3832cdf7a6027f7a16c15a0e36102814686350530fe0c95d8f8fa954a", func := "loop.example/outwork/laws.FnFrmBent", spec := "fnFrmBent", apart := false }
def FnFrmBentSaid : Prop := fnFrmBentRow.holds Try.pinned (OpenSpec.ofChange fnFrmBentSpec)

/-- ITS FALSE NEIGHBOUR: 'it returns false'. Refute it at one input. -/
def fnFrmBentWrong : ChangeSpec := { name := "fnFrmBent", fn := fun _ => fun
  | [d1, d2] => { results := [.lit (.bool false)], args := [d1, d2] }
  | _ => none }
def FnFrmBentWrongFalsely : Prop := fnFrmBentRow.holds Try.pinned (OpenSpec.ofChange fnFrmBentWrong)

/-- 'laws.FnWirTake': WHATEVER THE INPUT: true; the input reads as it did. -/
def fnWirTakeSpec : ChangeSpec := { name := "fnWirTake", fn := fun _ => fun
  | [d1, d2] => { results := [.lit (.bool true)], args := [d1, d2] }
  | _ => none }
def fnWirTakeRow : OpenClaim := { program := "ytpnjkjpdfkkdkaa", sum := "b157cbb3832cdf7a6027f7a16c15a0e36102814686350530fe0c95d8f8fa954a", func := "loop.example/outwork/laws.FnWirTake", spec := "fnWirTake", apart := false }
def FnWirTakeSaid : Prop := fnWirTakeRow.holds Try.pinned (OpenSpec.ofChange fnWirTakeSpec)

/-- ITS FALSE NEIGHBOUR: 'it returns false'. Refute it at one input. -/
def fnWirTakeWrong : ChangeSpec := { name := "fnWirTake", fn := fun _ => fun
  | [d1, d2] => { results := [.lit (.bool false)], args := [d1, d2] }
  | _ => none }
def FnWirTakeWrongFalsely : Prop := fnWirTakeRow.holds Try.pinned (OpenSpec.ofChange fnWirTakeWrong)

/-- 'laws.FnFrmTake': WHATEVER THE INPUT: true; the input reads as it did. -/
def fnFrmTakeSpec : ChangeSpec := { name := "fnFrmTake", fn := fun _ => fun
  | [d1, d2] => { results := [.lit (.bool true)], args := [d1, d2] }
  | _ => none }
def fnFrmTakeRow : OpenClaim := { program := "ytpnjkjpdfkkdkaa", sum := "b157cbb3832cdf7a6027f7a16c15a0e36102814686350530fe0c95d8f8fa954a", func := "loop.example/outwork/laws.FnFrmTake", spec := "fnFrmTake", apart := false }
def FnFrmTakeSaid : Prop := fnFrmTakeRow.holds Try.pinned (OpenSpec.ofChange fnFrmTakeSpec)

/-- ITS FALSE NEIGHBOUR: 'it returns false'. Refute it at one input. -/
def fnFrmTakeWrong : ChangeSpec := { name := "fnFrmTake", fn := fun _ => fun
  | [d1, d2] => { results := [.lit (.bool false)], args := [d1, d2] }
  | _ => none }
def FnFrmTakeWrongFalsely : Prop := fnFrmTakeRow.holds Try.pinned (OpenSpec.ofChange fnFrmTakeWrong)

/- THE SECOND FORM. 'bulk': how many values and letters a reading holds, each counted each time it is reached (what is shared counts as often as it is met; a slice's spare places count too). A statement '..UptoSaid' is the law's where the arguments, and the package variables that the reading takes, are together of bulk at most 1048576: NARROWER than '..Said'. Prove '..Said' where nothing that the law and all that it calls make is longer than what came in: it says more and counts as full. Else prove '..UptoSaid'. A law counts once. -/
mutual
def uptoBulk {H : Type} : DataW H → Nat
  | .lit (.string bytes) => bytes.length + 1
  | .lit _ => 1
  | .nil => 1
  | .ptr d => uptoBulk d + 1
  | .slice elems spare => uptoBulkAll elems + uptoBulkAll spare + 1
  | .agg parts => uptoBulkAll parts + 1
  | .iface _ d => uptoBulk d + 1
  | .map entries => uptoBulkEntries entries + 1
  | .held _ => 1
def uptoBulkAll {H : Type} : List (DataW H) → Nat
  | [] => 0
  | d :: r => uptoBulk d + uptoBulkAll r
def uptoBulkEntries {H : Type} : List (Lit × DataW H) → Nat
  | [] => 0
  | x :: r => uptoBulkEntry x + uptoBulkEntries r
def uptoBulkEntry {H : Type} : Lit × DataW H → Nat
  | (.string bytes, d) => bytes.length + uptoBulk d + 1
  | (_, d) => uptoBulk d + 1
 end
def uptoSmall : (H : Type) → List (DataW H) → Bool := fun _ ds => decide (uptoBulkAll ds ≤ 1048576)
def OpenSpec.upto (s : _root_.Go.ChangeSpec) : _root_.Go.OpenSpec := { _root_.Go.OpenSpec.ofChange s with cond := some uptoSmall }

/-- 'laws.FnExactFrmSum', WHERE WHAT IT READS IS OF BULK AT MOST 1048576: true; the input reads as it did. -/
def fnExactFrmSumUptoRow : OpenClaim := { program := "ytpnjkjpdfkkdkaa", sum := "b157cbb3832cdf7a6027f7a16c15a0e36102814686350530fe0c95d8f8fa954a", func := "loop.example/outwork/laws.FnExactFrmSum", spec := "fnExactFrmSum", apart := false, narrowed := true }
def FnExactFrmSumUptoSaid : Prop := fnExactFrmSumUptoRow.holds Try.pinned (OpenSpec.upto fnExactFrmSumSpec)

/-- 'laws.FnExactWirTake', WHERE WHAT IT READS IS OF BULK AT MOST 1048576: true; the input reads as it did. -/
def fnExactWirTakeUptoRow : OpenClaim := { program := "ytpnjkjpdfkkdkaa", sum := "b157cbb3832cdf7a6027f7a16c15a0e36102814686350530fe0c95d8f8fa954a", func := "loop.example/outwork/laws.FnExactWirTake", spec := "fnExactWirTake", apart := false, narrowed := true }
def FnExactWirTakeUptoSaid : Prop := fnExactWirTakeUptoRow.holds Try.pinned (OpenSpec.upto fnExactWirTakeSpec)

/-- 'laws.FnExactWirPut', WHERE WHAT IT READS IS OF BULK AT MOST 1048576: true; the input reads as it did. -/
def fnExactWirPutUptoRow : OpenClaim := { program := "ytpnjkjpdfkkdkaa", sum := "b157cbb3832cdf7a6027f7a16c15a0e36102814686350530fe0c95d8f8fa954a", func := "loop.example/outwork/laws.FnExactWirPut", spec := "fnExactWirPut", apart := false, narrowed := true }
def FnExactWirPutUptoSaid : Prop := fnExactWirPutUptoRow.holds Try.pinned (OpenSpec.upto fnExactWirPutSpec)

/-- 'laws.FnExactFrmPut', WHERE WHAT IT READS IS OF BULK AT MOST 1048576: true; the input reads as it did. -/
def fnExactFrmPutUptoRow : OpenClaim := { program := "ytpnjkjpdfkkdkaa", sum := "b157cbb3832cdf7a6027f7a16c15a0e36102814686350530fe0c95d8f8fa954a", func := "loop.example/outwork/laws.FnExactFrmPut", spec := "fnExactFrmPut", apart := false, narrowed := true }
def FnExactFrmPutUptoSaid : Prop := fnExactFrmPutUptoRow.holds Try.pinned (OpenSpec.upto fnExactFrmPutSpec)

/-- 'laws.FnFrmSum', WHERE WHAT IT READS IS OF BULK AT MOST 1048576: true; the input reads as it did. -/
def fnFrmSumUptoRow : OpenClaim := { program := "ytpnjkjpdfkkdkaa", sum := "b157cbb3832cdf7a6027f7a16c15a0e36102814686350530fe0c95d8f8fa954a", func := "loop.example/outwork/laws.FnFrmSum", spec := "fnFrmSum", apart := false, narrowed := true }
def FnFrmSumUptoSaid : Prop := fnFrmSumUptoRow.holds Try.pinned (OpenSpec.upto fnFrmSumSpec)

/-- 'laws.FnExactFrmTake', WHERE WHAT IT READS IS OF BULK AT MOST 1048576: true; the input reads as it did. -/
def fnExactFrmTakeUptoRow : OpenClaim := { program := "ytpnjkjpdfkkdkaa", sum := "b157cbb3832cdf7a6027f7a16c15a0e36102814686350530fe0c95d8f8fa954a", func := "loop.example/outwork/laws.FnExactFrmTake", spec := "fnExactFrmTake", apart := false, narrowed := true }
def FnExactFrmTakeUptoSaid : Prop := fnExactFrmTakeUptoRow.holds Try.pinned (OpenSpec.upto fnExactFrmTakeSpec)

/-- 'laws.FnFrmBent', WHERE WHAT IT READS IS OF BULK AT MOST 1048576: true; the input reads as it did. -/
def fnFrmBentUptoRow : OpenClaim := { program := "ytpnjkjpdfkkdkaa", sum := "b157cbb3832cdf7a6027f7a16c15a0e36102814686350530fe0c95d8f8fa954a", func := "loop.example/outwork/laws.FnFrmBent", spec := "fnFrmBent", apart := false, narrowed := true }
def FnFrmBentUptoSaid : Prop := fnFrmBentUptoRow.holds Try.pinned (OpenSpec.upto fnFrmBentSpec)

/-- 'laws.FnWirTake', WHERE WHAT IT READS IS OF BULK AT MOST 1048576: true; the input reads as it did. -/
def fnWirTakeUptoRow : OpenClaim := { program := "ytpnjkjpdfkkdkaa", sum := "b157cbb3832cdf7a6027f7a16c15a0e36102814686350530fe0c95d8f8fa954a", func := "loop.example/outwork/laws.FnWirTake", spec := "fnWirTake", apart := false, narrowed := true }
def FnWirTakeUptoSaid : Prop := fnWirTakeUptoRow.holds Try.pinned (OpenSpec.upto fnWirTakeSpec)

/-- 'laws.FnFrmTake', WHERE WHAT IT READS IS OF BULK AT MOST 1048576: true; the input reads as it did. -/
def fnFrmTakeUptoRow : OpenClaim := { program := "ytpnjkjpdfkkdkaa", sum := "b157cbb3832cdf7a6027f7a16c15a0e36102814686350530fe0c95d8f8fa954a", func := "loop.example/outwork/laws.FnFrmTake", spec := "fnFrmTake", apart := false, narrowed := true }
def FnFrmTakeUptoSaid : Prop := fnFrmTakeUptoRow.holds Try.pinned (OpenSpec.upto fnFrmTakeSpec)

end Rows
end Go.Proofs.Ytpnjkjpdfkkdkaa
