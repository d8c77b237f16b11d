/- A class of worlds for regions that draw their order: what has grown out of a world. No condition. -/
import Derived.Test.YtcdfomoglkhboaaGreatDoorBase
import Derived.Deep.RegionHeld3
namespace Go.Proofs.YtcdfomoglkhboaaGreatDoor
open Go.RowKit
set_option linter.unusedVariables false

/-- What a world has grown into. -/
structure Gw (w : World) where
  val : World
  grew : Grew w val
instance (w : World) : Nonempty (Gw w) := ⟨⟨w, Below.refl _ _⟩⟩
/-- A world that has grown out of another one. -/
def ext (w : World) (x : Gw w) : World := x.val
theorem ext_grew (w : World) (x : Gw w) : Grew w (ext w x) := x.grew
theorem ext_cell (w : World) (x : Gw w) (a : Addr) (h : a.block < w.heap.size) : (ext w x).cell? a = w.cell? a := (ext_grew w x).cell h
theorem ext_frozen (w : World) (x : Gw w) (a : Addr) (h : a.block < w.heap.size) : (ext w x).frozen? a = w.frozen? a := (ext_grew w x).frozen h

theorem ext_of {w w' : World} (h : Grew w w') : ∃ x, w' = ext w x := ⟨⟨w', h⟩, rfl⟩
theorem ext_size (w : World) (x : Gw w) : w.heap.size ≤ (ext w x).heap.size := (ext_grew w x).size
theorem ext_lt (w : World) (x : Gw w) (b : Nat) (h : b < w.heap.size) : b < (ext w x).heap.size := Nat.lt_of_lt_of_le h (ext_size w x)
theorem ext_le (w : World) (x : Gw w) (b : Nat) (h : b < w.heap.size) : b ≤ (ext w x).heap.size := Nat.le_of_lt (ext_lt w x b h)
theorem ext_le1 (w : World) (x : Gw w) (b k : Nat) (h : b < w.heap.size) : b ≤ (ext w x).heap.size + k := Nat.le_trans (ext_le w x b h) (Nat.le_add_right _ _)

theorem lt_s2 (n : Nat) : n < n + 1 + 1 := by omega
theorem lt_s3 (n : Nat) : n < n + 1 + 1 + 1 := by omega
theorem lt_s4 (n : Nat) : n < n + 1 + 1 + 1 + 1 := by omega
theorem lt_s5 (n : Nat) : n < n + 1 + 1 + 1 + 1 + 1 := by omega
theorem lt_s6 (n : Nat) : n < n + 1 + 1 + 1 + 1 + 1 + 1 := by omega
theorem ext_lt1 (w : World) (x : Gw w) (b i : Nat) (h : b < w.heap.size) : b < (ext w x).heap.size + i := Nat.lt_of_lt_of_le (ext_lt w x b h) (Nat.le_add_right _ _)
theorem ext_lt2 (w : World) (x : Gw w) (b i j : Nat) (h : b < w.heap.size) : b < (ext w x).heap.size + i + j := Nat.lt_of_lt_of_le (ext_lt1 w x b i h) (Nat.le_add_right _ _)
theorem ext_lt3 (w : World) (x : Gw w) (b i j k : Nat) (h : b < w.heap.size) : b < (ext w x).heap.size + i + j + k := Nat.lt_of_lt_of_le (ext_lt2 w x b i j h) (Nat.le_add_right _ _)
/-- What grows out of a grown world has grown out of the first. -/
theorem ext_col {w w' : World} {x : Gw w} (h : Grew (ext w x) w') : ∃ y, w' = ext w y := ⟨⟨w', x.grew.trans (h.mono x.grew.size)⟩, rfl⟩
theorem ext_cold {w w' : World} {x : Gw w} (h : Grew (ext w x).drew w') : ∃ y, w' = ext w y :=
  ext_col (w := w) (x := ⟨(ext w x).drew, x.grew.trans ((grew_drewN (ext w x) 1).mono x.grew.size)⟩) h
/-! What has grown: goals 'Grew w W', W written out, close by 'grew_ext', 'grew_al', 'grew_dn', 'grew_set'. -/
theorem grew_ext {w W : World} (h : Grew w W) (x : Gw W) : Grew w (ext W x) := h.trans ((ext_grew W x).mono h.size)
theorem grew_al {w W : World} (h : Grew w W) (o : Obj) : Grew w (W.alloc o) := h.alloc h.size o
theorem grew_dn {w W : World} (h : Grew w W) (n : Nat) : Grew w (W.drewN n) := h.trans ((grew_drewN W n).mono h.size)
theorem grew_d {w W : World} (h : Grew w W) : Grew w W.drew := grew_dn h 1
theorem grew_set {w W : World} {b o : Nat} {s : Option Nat} (h : Grew w W) (hp : w.heap.size ≤ b) (u : Value) : Grew w (W.setCell ⟨b, o, s⟩ u) := h.setCell (p := ⟨b, o, s⟩) hp u
theorem grew_tr {w W W' : World} (h : Grew w W) (k : Grew W W') : Grew w W' := h.trans (k.mono h.size)
theorem le_ext {n : Nat} {W : World} (x : Gw W) (h : n ≤ W.heap.size) : n ≤ (ext W x).heap.size := Nat.le_trans h (ext_size W x)
theorem le_al {n : Nat} {W : World} (o : Obj) (h : n ≤ W.heap.size) : n ≤ (W.alloc o).heap.size := by simp; omega
theorem le_pl {n m k : Nat} (h : n ≤ m) : n ≤ m + k := Nat.le_trans h (Nat.le_add_right _ _)

section
variable {P : Program} {f : FuncId} {args : Array Value} {w : World} {x : Gw w} {v : Value}
theorem ext_same (h : Calls P f args (ext w x) fun e w' => e = .returned v ∧ ext w x = w') : Calls P f args (ext w x) fun e w'' => e = .returned v ∧ ∃ y, w'' = ext w y :=
  h.mono fun _ _ ⟨he, hw⟩ => ⟨he, x, hw.symm⟩
theorem ext_grow (h : Calls P f args (ext w x) fun e w' => e = .returned v ∧ Grew (ext w x) w') : Calls P f args (ext w x) fun e w'' => e = .returned v ∧ ∃ y, w'' = ext w y :=
  h.mono fun _ w' ⟨he, hg⟩ => ⟨he, ⟨w', x.grew.trans (hg.mono x.grew.size)⟩, rfl⟩
end

/-- A region that draws its order, whose operations read and whose calls make new memory at most: one walk, in the order of the text. -/
theorem wp_region_ext {P : Program} {id : Nat} {Q : Exit → Act → World → Prop} {a : Act} {w : World} {l : List Oper} (hm : P.follows .mixedOrders = true) (hB : Region.lexB .any l.toArray = true)
    (h : wpQuiet P l.toArray (fun w' => ∃ x, w' = ext w x) (fun a' => ∀ w', (∃ x, w' = ext w x) → Q .normal a' w') l a) : (Code.region id l.toArray true).wp P Q a w :=
  wp_region_quiet (C := fun w' => ∃ x, w' = ext w x) hm hB ⟨⟨w.drewN 1, grew_drewN w 1⟩, rfl⟩ (by simpa using h)
/-- What has grown, by the words above. -/
theorem gr {w W : World} (h : Grew w W := by repeat (first | with_reducible exact Below.refl _ _ | with_reducible assumption | with_reducible apply grew_ext | with_reducible apply grew_al | with_reducible apply grew_dn | with_reducible apply grew_d | (with_reducible refine grew_set ?_ (by first | omega | (repeat (first | with_reducible exact Nat.le_refl _ | with_reducible apply le_pl | with_reducible apply le_ext | with_reducible apply le_al))) _))) : Grew w W := h
end Go.Proofs.YtcdfomoglkhboaaGreatDoor
