/- Instructions and programs as data: how they lie in memory, how arguments of these types are opened. No condition. -/
import Derived.Test.YtcdfomoglkhboaaGreatDoorData
import Derived.Test.YtcdfomoglkhboaaGreatDoorIns
namespace Go.Proofs.YtcdfomoglkhboaaGreatDoor
open Go.RowKit Go.ChangeShapes Go.WideShapes Go.Deep
set_option linter.unusedVariables false

def Ins.cells (i : Ins) : List Value := [.int .i64 i.op, .int .i64 i.d, .int .i64 i.a, .int .i64 i.b, .int .i64 i.rel, .int .i64 i.lo, .int .i64 i.hi, .int .i64 i.to]
def EIns : World → List Value → Ins → Prop := fun _ cs i => cs = i.cells
theorem stays_ins : Stays EIns := fun _ _ _ _ _ h => h

/-- A procedure; a program is a list of these. -/
structure Prc where
  lo : Int
  hi : Int
  code : List Ins
  deriving DecidableEq
def EPrc : World → List Value → Prc → Prop := fun w cs p =>
  ∃ a c, cs = [.int .i64 p.lo, .int .i64 p.hi, .slice a p.code.length c] ∧ RdL EIns 8 w a p.code.length p.code ∧ p.code.length ≤ c ∧ c ≤ maxLen
theorem stays_prc : Stays EPrc := fun w w' cs p hg ⟨a, c, h1, h2, h3⟩ => ⟨a, c, h1, h2.grew stays_ins hg, h3⟩
/-- A slice of procedures. -/
abbrev RdP (w : World) (a : Option Addr) (n : Nat) (ps : List Prc) : Prop := RdL EPrc 3 w a n ps
theorem RdP.grew {w w' : World} {a : Option Addr} {n : Nat} {ps : List Prc} (h : RdP w a n ps) (hg : Grew w w') : RdP w' a n ps := RdL.grew stays_prc h hg

section
variable {H : Type} {enc : TypeId × Value → H} {w : World} {base : Nat} {spare : Nat → Bool} {held : Bool}
end
end Go.Proofs.YtcdfomoglkhboaaGreatDoor
