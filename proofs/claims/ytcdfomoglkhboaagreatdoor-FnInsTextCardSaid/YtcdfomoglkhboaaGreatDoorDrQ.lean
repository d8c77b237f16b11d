/- One round of l20Proc's loop: a step is drawn and put behind. No condition. -/
import Derived.Test.YtcdfomoglkhboaaGreatDoorDrN
import Derived.Test.YtcdfomoglkhboaaGreatDoorDrE
import Derived.Test.YtcdfomoglkhboaaGreatDoorPrgMark
import Derived.Test.YtcdfomoglkhboaaGreatDoorInsOk
import Derived.Deep.Light
namespace Go.Proofs.YtcdfomoglkhboaaGreatDoor
open Go.RowKit
set_option linter.unusedVariables false
set_option linter.unusedSimpArgs false

def OneI (F : Nat → Prop) (W : World) (v : Value) : Prop := ∃ (i : Ins) (b : Nat), v = .slice (some ⟨b, 0, none⟩) 1 1 ∧ Blk W b 38 i.cells.toArray ∧ ¬ F b
def NewI (B : Nat) (F : Nat → Prop) (k : Nat) (is : List Ins) (W : World) (v : Value) : Prop := ∃ (a : Option Addr) (cap : Nat) (i : Ins), v = .slice a (k + 1) cap ∧ W.ownsRow B 38 8 (.slice a (k + 1) cap) (k + 1) ((is ++ [i]).flatMap Ins.cells) ∧ ∀ b, (Value.slice a (k + 1) cap).ownBlock = some b → ¬ F b
def AppN (B b6 : Nat) (y0 y1 : Int) (k : Nat) (is : List Ins) (W : World) : Prop := ∃ (a : Option Addr) (cap : Nat) (i : Ins), Blk W b6 56 #[.int .i64 y0, .int .i64 y1, .slice a (k + 1) cap] ∧ W.ownsRow B 38 8 (.slice a (k + 1) cap) (k + 1) ((is ++ [i]).flatMap Ins.cells)
theorem OneI.chg {F G : Nat → Prop} {W W' : World} {v : Value} (h : OneI F W v) (c : Chg G W W') (hG : ∀ b, G b → F b) : OneI F W' v := by
  obtain ⟨i, b, h1, h2, h3⟩ := h
  exact ⟨i, b, h1, h2.chg c (fun e => h3 (hG b e)), h3⟩
theorem NewI.chg {B : Nat} {F G : Nat → Prop} {k : Nat} {is : List Ins} {W W' : World} {v : Value} (h : NewI B F k is W v) (c : Chg G W W') (hG : ∀ b, B ≤ b → G b → F b) : NewI B F k is W' v := by
  obtain ⟨a, cap, i, h1, h2, h3⟩ := h
  exact ⟨a, cap, i, h1, owns_chg h2 c (fun b hb e => h3 b hb (hG b (h2.lt b hb).1 e)), h3⟩
def cR : List Nat := [0, 0, 0, 0, 0, 27, 0, 0, 0, 0]
/-- What stands while the round's operations run. -/
structure PII (g p0 : Nat) (w : World) (b6 : Nat) (y0 y1 : Int) (k : Nat) (is : List Ins) (a : Option Addr) (cap : Nat) (L : Array Bool) (W : World) : Prop where
  c : ChgG g w W
  r : RdLe W g (p0 + costL (cOf cR) L)
  s : L.size = 10
  z : Blk W w.heap.size 56 #[.int .i64 0, .int .i64 0, .slice none 0 0]
  o : L.getD 7 false = false → W.ownsRow w.heap.size 38 8 (.slice a k cap) k (is.flatMap Ins.cells)
  b : L.getD 9 false = false → Blk W b6 56 #[.int .i64 y0, .int .i64 y1, .slice a k cap]
  n : L.getD 9 false = true → AppN w.heap.size b6 y0 y1 k is W
section
variable {g p0 : Nat} {w : World} {b6 : Nat} {y0 y1 : Int} {k : Nat} {is : List Ins} {a : Option Addr} {cap : Nat} {L : Array Bool} {W W' : World}
theorem PII.store (h : PII g p0 w b6 y0 y1 k is a cap L W) (hL : L.getD 9 true = false) (h9 : L.getD 9 false = false) (h7 : L.getD 7 false = true) {a2 : Option Addr} {cap2 : Nat} {i : Ins} (ho : W.ownsRow w.heap.size 38 8 (.slice a2 (k + 1) cap2) (k + 1) ((is ++ [i]).flatMap Ins.cells)) (hn : ∀ b, (Value.slice a2 (k + 1) cap2).ownBlock = some b → ¬ (b = b6 ∨ b = w.heap.size)) (hg : g < w.heap.size) (h6 : w.heap.size < b6) : PII g p0 w b6 y0 y1 k is a cap (L.setIfInBounds 9 true) (W.setCell ⟨b6, 2, none⟩ (.slice a2 (k + 1) cap2)) := by
  have hc := costL_set (cOf cR) L (i := 9) (by rw [h.s]; omega) hL
  refine ⟨chg_set h.c (by simp only; omega) _, (rd_set h.r (by simp only; omega) _).mono (by omega), by simp [h.s], h.z.far (by simp only; omega) _, ?_, ?_, ?_⟩
  · rw [getD_set (by omega), h7]
    intro e
    cases e
  · rw [getD_set1 (by rw [h.s]; omega)]
    intro e
    cases e
  · intro _
    exact ⟨a2, cap2, i, (h.b h9).set_ 2 _, owns_far ho (fun e => hn _ e (.inl rfl)) _⟩
end
end Go.Proofs.YtcdfomoglkhboaaGreatDoor
