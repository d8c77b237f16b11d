/- What copies of programs and runs are in memory. No condition. -/
import Derived.Test.YtmknnbbhhnmpaaaRunOkT
import Derived.Test.YtmknnbbhhnmpaaaPrgMark
namespace Go.Proofs.Ytmknnbbhhnmpaaa
open Go.RowKit
set_option linter.unusedVariables false

theorem int_is {P : Program} {f : FuncId} {args : Array Value} {w : World} {X b : Int} {R : World → Prop} (c : Calls P f args w fun e w' => e = .returned (.int .i64 X) ∧ R w') (h : X = b) :
    Calls P f args w fun e w' => e = .returned (.int .i64 b) ∧ R w' := by subst h; exact c
theorem prg_rd {w : World} {B n cap : Nat} {a : Option Addr} {ms : List (Prc × Value)} {ps : List Prc} (h : OwnP w B (.slice a n cap) n ms) (e : ms.map (·.1) = ps) : RdP w a n ps := by subst e; exact h.rd
theorem frs_rd {w : World} {B n cap : Nat} {a : Option Addr} {ms : List (Fr × Value × Value)} {fs : List Fr} (h : OwnF w B (.slice a n cap) n ms) (e : ms.map (·.1) = fs) : RdF w a n fs := by subst e; exact h.rd
/-- Where a copy lies. -/
theorem ownP_blk {w : World} {B n : Nat} {v : Value} {ms : List (Prc × Value)} (h : OwnP w B v n ms) : True := trivial
theorem ownF_blk {w : World} {B n : Nat} {v : Value} {ms : List (Fr × Value × Value)} (h : OwnF w B v n ms) : True := trivial
end Go.Proofs.Ytmknnbbhhnmpaaa
