/- What copies of programs are in memory. No condition. -/
import Derived.Test.YtcdfomoglkhboaaDoorPrgMark
import Derived.Test.YtcdfomoglkhboaaDoorProgEq
namespace Go.Proofs.YtcdfomoglkhboaaDoor
open Go.RowKit
set_option linter.unusedVariables false

theorem int_is {P : Program} {f : FuncId} {args : Array Value} {w : World} {X b : Int} {R : World → Prop} (c : Calls P f args w fun e w' => e = .returned (.int .i64 X) ∧ R w') (h : X = b) :
    Calls P f args w fun e w' => e = .returned (.int .i64 b) ∧ R w' := by subst h; exact c
theorem prg_rd {w : World} {B n cap : Nat} {a : Option Addr} {ms : List (Prc × Value)} {ps : List Prc} (h : OwnP w B (.slice a n cap) n ms) (e : ms.map (·.1) = ps) : RdP w a n ps := by subst e; exact h.rd
end Go.Proofs.YtcdfomoglkhboaaDoor
