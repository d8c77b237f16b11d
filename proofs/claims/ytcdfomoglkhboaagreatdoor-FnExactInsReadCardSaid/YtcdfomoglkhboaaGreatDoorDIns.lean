/- Instructions and programs as data: how they lie in memory, how arguments of these types are opened. No condition. -/
import Derived.Test.YtcdfomoglkhboaaGreatDoorData
import Derived.Test.YtcdfomoglkhboaaGreatDoorIns
namespace Go.Proofs.YtcdfomoglkhboaaGreatDoor
open Go.RowKit Go.ChangeShapes Go.WideShapes Go.Deep
set_option linter.unusedVariables false

/-- A number of Go's int. -/
def I64 (x : Int) : Prop := -9223372036854775808 ≤ x ∧ x ≤ 9223372036854775807
def Ins.cells (i : Ins) : List Value := [.int .i64 i.op, .int .i64 i.d, .int .i64 i.a, .int .i64 i.b, .int .i64 i.rel, .int .i64 i.lo, .int .i64 i.hi, .int .i64 i.to]
def EIns : World → List Value → Ins → Prop := fun _ cs i => cs = i.cells
structure InsWf (i : Ins) : Prop where
  op : I64 i.op
  d : I64 i.d
  a : I64 i.a
  b : I64 i.b
  rel : I64 i.rel
  lo : I64 i.lo
  hi : I64 i.hi
  to : I64 i.to
theorem stays_ins : Stays EIns := fun _ _ _ _ _ h => h

/-- A procedure; a program is a list of these. -/
structure Prc where
  lo : Int
  hi : Int
  code : List Ins
  deriving DecidableEq
def EPrc : World → List Value → Prc → Prop := fun w cs p =>
  ∃ a c, cs = [.int .i64 p.lo, .int .i64 p.hi, .slice a p.code.length c] ∧ RdL EIns 8 w a p.code.length p.code ∧ p.code.length ≤ c ∧ c ≤ maxLen
structure PrcWf (p : Prc) : Prop where
  lo : I64 p.lo
  hi : I64 p.hi
  code : ∀ i, i ∈ p.code → InsWf i
theorem stays_prc : Stays EPrc := fun w w' cs p hg ⟨a, c, h1, h2, h3⟩ => ⟨a, c, h1, h2.grew stays_ins hg, h3⟩
/-- A slice of procedures. -/
abbrev RdP (w : World) (a : Option Addr) (n : Nat) (ps : List Prc) : Prop := RdL EPrc 3 w a n ps
abbrev PrgWf (ps : List Prc) : Prop := ∀ p, p ∈ ps → PrcWf p
theorem RdP.grew {w w' : World} {a : Option Addr} {n : Nat} {ps : List Prc} (h : RdP w a n ps) (hg : Grew w w') : RdP w' a n ps := RdL.grew stays_prc h hg

section
variable {H : Type} {enc : TypeId × Value → H} {w : World} {base : Nat} {spare : Nat → Bool} {held : Bool}
theorem trod_i64 {fuel : Nat} {cs : List Value} {x : DataW H × List MemPlace} (h : DataW.trod enc Tryz.prog w base spare held fuel 3 cs = some x) : ∃ n, cs = [.int .i64 n] ∧ I64 n := by
  obtain ⟨n, h1, _, h2⟩ := DataW.trod_int Tryz.underlying3 h
  exact ⟨n, h1, i64_of_wf h2⟩
end
end Go.Proofs.YtcdfomoglkhboaaGreatDoor
