/-
  No cell of these rows narrows 'for every input' (looked for: loops, veiled, ifaces, maps, wideKeys, modest, calm, conditions, laid).
  DERIVED. THE GIVEN ROWS OF THIS SEAT. 2 by the template 'for every input the law returns true; each argument reads behind the call as it read before'; 0 by the template 'total and deterministic' (their statements: YtmcfengnihomcaaGreatTotals.lean).
  GIVEN WITH THE SEED: the statements are not yours to turn. If you find one false, say at which input.
  Laid BY PROGRAM, IN A SANDBOX (cutbox-rows.mjs): the forced cells as the released guide's own fill.sh prints them over the translation 15971961d3b042ad… (all of the seat's roots in one cut). By AI agents, Wed Nov 11 2026. No macro, syntax, notation, axiom, sorry.
-/
import Derived.Test.YtmcfengnihomcaaGreatChecked
import GoSem.Claim
import GoSem.ClaimJoined
import GoSem.ClaimMapViews
import Derived.JoinedTies
import Derived.KernelRfl
namespace Go.Proofs.YtmcfengnihomcaaGreat
/- THE CELL 'sum', in the pinned program and in every row, IS THE sha256 OF THE DUMP (.gsa) THAT YtmcfengnihomcaaGreatProg.lean LOADS. Nothing in Lean hashes anything: it is a label: what it is worth is what the hold of that sum in a sandbox is worth. -/
noncomputable def Tryz.pinned : Pinned := { name := "ytmcfengnihomcaagreat", sum := "15971961d3b042adc0190ecfa98586e1ad7991f4a3c441ede4709f87756cb7b1", checked := Tryz.checked }
namespace Rows
def none {H : Type} : Left H := { results := [], args := [] }

/-- 'laws.FnExactGrfOrder': WHATEVER THE INPUT: true; the input reads as it did. -/
def fnExactGrfOrderSpec : ChangeSpec := { name := "fnExactGrfOrder", fn := fun _ => fun
  | [d] => { results := [.lit (.bool true)], args := [d] }
  | _ => none }
def fnExactGrfOrderRow : OpenClaim := { program := "ytmcfengnihomcaagreat", sum := "15971961d3b042adc0190ecfa98586e1ad7991f4a3c441ede4709f87756cb7b1", func := "loop.example/outwork/laws.FnExactGrfOrder", spec := "fnExactGrfOrder", unfollowed := true, recurses := true, plainKeys := false, apart := false }
def FnExactGrfOrderSaid : Prop := fnExactGrfOrderRow.holds Tryz.pinned (OpenSpec.ofChange fnExactGrfOrderSpec)

/-- ITS FALSE NEIGHBOUR: 'it returns false'. Refute it at one input. -/
def fnExactGrfOrderWrong : ChangeSpec := { name := "fnExactGrfOrder", fn := fun _ => fun
  | [d] => { results := [.lit (.bool false)], args := [d] }
  | _ => none }
def FnExactGrfOrderWrongFalsely : Prop := fnExactGrfOrderRow.holds Tryz.pinned (OpenSpec.ofChange fnExactGrfOrderWrong)

/-- 'laws.FnExactGrfReady': WHATEVER THE INPUT: true; the input reads as it did. -/
def fnExactGrfReadySpec : ChangeSpec := { name := "fnExactGrfReady", fn := fun _ => fun
  | [d1, d2] => { results := [.lit (.bool true)], args := [d1, d2] }
  | _ => none }
def fnExactGrfReadyRow : OpenClaim := { program := "ytmcfengnihomcaagreat", sum := "15971961d3b042adc0190ecfa98586e1ad7991f4a3c441ede4709f87756cb7b1", func := "loop.example/outwork/laws.FnExactGrfReady", spec := "fnExactGrfReady", unfollowed := true, recurses := true, plainKeys := false, apart := false }
def FnExactGrfReadySaid : Prop := fnExactGrfReadyRow.holds Tryz.pinned (OpenSpec.ofChange fnExactGrfReadySpec)

/-- ITS FALSE NEIGHBOUR: 'it returns false'. Refute it at one input. -/
def fnExactGrfReadyWrong : ChangeSpec := { name := "fnExactGrfReady", fn := fun _ => fun
  | [d1, d2] => { results := [.lit (.bool false)], args := [d1, d2] }
  | _ => none }
def FnExactGrfReadyWrongFalsely : Prop := fnExactGrfReadyRow.holds Tryz.pinned (OpenSpec.ofChange fnExactGrfReadyWrong)

/- THE SECOND FORM. 'bulk': how many values and letters a reading holds, each counted each time it is reached (what is shared counts as often as it is met; a slice's spare places count too). A statement '..UptoSaid' is the law's where the arguments, and the package variables that the reading takes, are together of bulk at most 1048576: NARROWER than '..Said'. Prove '..Said' where nothing that the law and all that it calls make is longer than what came in: it says more and counts as full. Else prove '..UptoSaid'. A law counts once. -/
mutual
def uptoBulk {H : Type} : DataW H → Nat
  | .lit (.string bytes) => bytes.length + 1
  | .lit _ => 1
  | .nil => 1
  | .ptr d => uptoBulk d + 1
  | .slice elems spare => uptoBulkAll elems + uptoBulkAll spare + 1
  | .agg parts => uptoBulkAll parts + 1
  | .iface _ d => uptoBulk d + 1
  | .map entries => uptoBulkEntries entries + 1
  | .held _ => 1
def uptoBulkAll {H : Type} : List (DataW H) → Nat
  | [] => 0
  | d :: r => uptoBulk d + uptoBulkAll r
def uptoBulkEntries {H : Type} : List (Lit × DataW H) → Nat
  | [] => 0
  | x :: r => uptoBulkEntry x + uptoBulkEntries r
def uptoBulkEntry {H : Type} : Lit × DataW H → Nat
  | (.string bytes, d) => bytes.length + uptoBulk d + 1
  | (_, d) => uptoBulk d + 1
 end
def uptoSmall : (H : Type) → List (DataW H) → Bool := fun _ ds => decide (uptoBulkAll ds ≤ 1048576)
def OpenSpec.upto (s : _root_.Go.ChangeSpec) : _root_.Go.OpenSpec := { _root_.Go.OpenSpec.ofChange s with cond := some uptoSmall }

/-- 'laws.FnExactGrfOrder', WHERE WHAT IT READS IS OF BULK AT MOST 1048576: true; the input reads as it did. -/
def fnExactGrfOrderUptoRow : OpenClaim := { program := "ytmcfengnihomcaagreat", sum := "15971961d3b042adc0190ecfa98586e1ad7991f4a3c441ede4709f87756cb7b1", func := "loop.example/outwork/laws.FnExactGrfOrder", spec := "fnExactGrfOrder", unfollowed := true, recurses := true, plainKeys := false, apart := false, narrowed := true }
def FnExactGrfOrderUptoSaid : Prop := fnExactGrfOrderUptoRow.holds Tryz.pinned (OpenSpec.upto fnExactGrfOrderSpec)

/-- 'laws.FnExactGrfReady', WHERE WHAT IT READS IS OF BULK AT MOST 1048576: true; the input reads as it did. -/
def fnExactGrfReadyUptoRow : OpenClaim := { program := "ytmcfengnihomcaagreat", sum := "15971961d3b042adc0190ecfa98586e1ad7991f4a3c441ede4709f87756cb7b1", func := "loop.example/outwork/laws.FnExactGrfReady", spec := "fnExactGrfReady", unfollowed := true, recurses := true, plainKeys := false, apart := false, narrowed := true }
def FnExactGrfReadyUptoSaid : Prop := fnExactGrfReadyUptoRow.holds Tryz.pinned (OpenSpec.upto fnExactGrfReadySpec)

end Rows
end Go.Proofs.YtmcfengnihomcaaGreat
