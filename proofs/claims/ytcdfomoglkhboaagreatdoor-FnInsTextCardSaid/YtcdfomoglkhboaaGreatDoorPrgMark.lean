/- Lemmas and walks of this proof, some texts one behind the other. No condition. -/
import Derived.Test.YtcdfomoglkhboaaGreatDoorDrE
import Derived.Test.YtcdfomoglkhboaaGreatDoorInsOk
import Derived.Deep.Light
import Derived.Test.YtcdfomoglkhboaaGreatDoorLawInsOk
import Derived.Outline
import Derived.Test.YtcdfomoglkhboaaGreatDoorBlk
set_option linter.unusedSimpArgs false
set_option linter.unusedVariables false
/- Slices of bounds and of sums: copied, compared, measured, searched. No condition. -/
namespace Go.Proofs.YtcdfomoglkhboaaGreatDoor
open Go.RowKit Go.ChangeShapes Go.WideShapes Go.Deep
set_option linter.unusedVariables false
attribute [local go_sem] ext_cell ext_frozen ext_lt ext_le ext_le1 lt_s2 lt_s3 lt_s4 lt_s5 lt_s6 ext_lt1 ext_lt2 ext_lt3

/-- Bounds. -/
structure Itv where
  lo : Int
  hi : Int
  deriving DecidableEq
/-- A sum. -/
structure Sum where
  on : Bool
  lo : Int
  hi : Int
  deriving DecidableEq
abbrev Itv.v (x : Itv) : Value := .agg #[.int .i64 x.lo, .int .i64 x.hi]
abbrev Sum.v (x : Sum) : Value := .agg #[.bool x.on, .int .i64 x.lo, .int .i64 x.hi]
def Itv.cells (x : Itv) : List Value := [.int .i64 x.lo, .int .i64 x.hi]
def Sum.cells (x : Sum) : List Value := [.bool x.on, .int .i64 x.lo, .int .i64 x.hi]
end Go.Proofs.YtcdfomoglkhboaaGreatDoor
/- Boxes whose cells are known, and the marking of a procedure. No condition. -/
namespace Go.Proofs.YtcdfomoglkhboaaGreatDoor
open Go.RowKit
set_option linter.unusedVariables false
attribute [local go_sem] ext_cell ext_frozen ext_lt ext_le ext_le1 lt_s2 lt_s3 lt_s4 lt_s5 lt_s6 ext_lt1 ext_lt2 ext_lt3

/-- A box: a block whose cells are known. -/
def Boxd (w : World) (b : Nat) (cs : Array Value) : Prop := b < w.heap.size ∧ ∀ (j : Nat) (u : Value), cs[j]? = some u → w.cell? ⟨b, j, none⟩ = some u
theorem Boxd.new (w : World) (t : TypeId) (cs : Array Value) : Boxd (w.alloc (.cells cs t)) w.heap.size cs := ⟨by simp, fun j u hu => by rw [World.cell?_alloc_new]; exact hu⟩
theorem Boxd.grew {w w' : World} {b : Nat} {cs : Array Value} (h : Boxd w b cs) (g : Grew w w') : Boxd w' b cs := ⟨Nat.lt_of_lt_of_le h.1 g.size, fun j u hu => (g.cell (p := ⟨b, j, none⟩) h.1).trans (h.2 j u hu)⟩
theorem Boxd.chg {F : Nat → Prop} {w w' : World} {b : Nat} {cs : Array Value} (h : Boxd w b cs) (c : Chg F w w') (hF : ¬ F b) : Boxd w' b cs :=
  ⟨Nat.lt_of_lt_of_le h.1 c.size, fun j u hu => (World.cell?_of_block (w := w) (w' := w') (a := ⟨b, j, none⟩) (c.block b h.1 hF)).trans (h.2 j u hu)⟩

end Go.Proofs.YtcdfomoglkhboaaGreatDoor
