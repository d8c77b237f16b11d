/- Lemmas and walks of this proof, some texts one behind the other. No condition. -/
import Derived.Test.YtcdfomoglkhboaaGreatDoorPrgOkI
import Derived.Test.YtcdfomoglkhboaaGreatDoorData
import Derived.Test.YtcdfomoglkhboaaGreatDoorDrE
import Derived.Test.YtcdfomoglkhboaaGreatDoorInsOk
import Derived.Deep.Light
import Derived.Test.YtcdfomoglkhboaaGreatDoorDrN
set_option linter.unusedSimpArgs false
set_option linter.unusedVariables false
/- Slices of bounds and of sums: copied, compared, measured, searched. No condition. -/
namespace Go.Proofs.YtcdfomoglkhboaaGreatDoor
open Go.RowKit Go.ChangeShapes Go.WideShapes Go.Deep
set_option linter.unusedVariables false
attribute [local go_sem] ext_cell ext_frozen ext_lt ext_le ext_le1 lt_s2 lt_s3 lt_s4 lt_s5 lt_s6 ext_lt1 ext_lt2 ext_lt3

/-- Bounds. -/
structure Itv where
  lo : Int
  hi : Int
  deriving DecidableEq
/-- A sum. -/
structure Sum where
  on : Bool
  lo : Int
  hi : Int
  deriving DecidableEq
abbrev Itv.v (x : Itv) : Value := .agg #[.int .i64 x.lo, .int .i64 x.hi]
abbrev Sum.v (x : Sum) : Value := .agg #[.bool x.on, .int .i64 x.lo, .int .i64 x.hi]
def Itv.cells (x : Itv) : List Value := [.int .i64 x.lo, .int .i64 x.hi]
def Sum.cells (x : Sum) : List Value := [.bool x.on, .int .i64 x.lo, .int .i64 x.hi]
end Go.Proofs.YtcdfomoglkhboaaGreatDoor
/- Boxes whose cells are known, and the marking of a procedure. No condition. -/
namespace Go.Proofs.YtcdfomoglkhboaaGreatDoor
open Go.RowKit
set_option linter.unusedVariables false
attribute [local go_sem] ext_cell ext_frozen ext_lt ext_le ext_le1 lt_s2 lt_s3 lt_s4 lt_s5 lt_s6 ext_lt1 ext_lt2 ext_lt3

/-- A box: a block whose cells are known. -/
def Boxd (w : World) (b : Nat) (cs : Array Value) : Prop := b < w.heap.size ∧ ∀ (j : Nat) (u : Value), cs[j]? = some u → w.cell? ⟨b, j, none⟩ = some u
theorem Boxd.new (w : World) (t : TypeId) (cs : Array Value) : Boxd (w.alloc (.cells cs t)) w.heap.size cs := ⟨by simp, fun j u hu => by rw [World.cell?_alloc_new]; exact hu⟩
theorem Boxd.grew {w w' : World} {b : Nat} {cs : Array Value} (h : Boxd w b cs) (g : Grew w w') : Boxd w' b cs := ⟨Nat.lt_of_lt_of_le h.1 g.size, fun j u hu => (g.cell (p := ⟨b, j, none⟩) h.1).trans (h.2 j u hu)⟩
theorem Boxd.chg {F : Nat → Prop} {w w' : World} {b : Nat} {cs : Array Value} (h : Boxd w b cs) (c : Chg F w w') (hF : ¬ F b) : Boxd w' b cs :=
  ⟨Nat.lt_of_lt_of_le h.1 c.size, fun j u hu => (World.cell?_of_block (w := w) (w' := w') (a := ⟨b, j, none⟩) (c.block b h.1 hF)).trans (h.2 j u hu)⟩

end Go.Proofs.YtcdfomoglkhboaaGreatDoor

/- The marking of a program. No condition. -/
namespace Go.Proofs.YtcdfomoglkhboaaGreatDoor
open Go.RowKit
set_option linter.unusedVariables false
attribute [local go_sem] ext_cell ext_frozen ext_lt ext_le ext_le1 lt_s2 lt_s3 lt_s4 lt_s5 lt_s6 ext_lt1 ext_lt2 ext_lt3

/-- The blocks of a copy lie between. -/
def BlkP (B N : Nat) (v : Value) (ms : List (Prc × Value)) : Prop := ∀ b, (v.ownBlock = some b ∨ ∃ m, m ∈ ms ∧ m.2.ownBlock = some b) → B ≤ b ∧ b < N
theorem OwnP.blk {w : World} {B n : Nat} {v : Value} {ms : List (Prc × Value)} (h : OwnP w B v n ms) : BlkP B w.heap.size v ms := by
  rintro b (hb | ⟨m, hm, hb⟩)
  · exact h.2.1.lt b hb
  · exact (h.2.2 m hm).lt b hb
end Go.Proofs.YtcdfomoglkhboaaGreatDoor

/- The beginning of a call. No condition. -/
namespace Go.Proofs.YtcdfomoglkhboaaGreatDoor
open Go.RowKit
set_option linter.unusedVariables false
set_option linter.unusedSimpArgs false
attribute [local go_sem] ext_cell ext_frozen ext_lt ext_le ext_le1 lt_s2 lt_s3 lt_s4 lt_s5 lt_s6 ext_lt1 ext_lt2 ext_lt3

theorem Blk.new' {w : World} {t : TypeId} {cs : Array Value} {g : Nat} (h : g = w.heap.size) : Blk (w.alloc (.cells cs t)) g t cs := by subst h; exact Blk.new _ _ _
end Go.Proofs.YtcdfomoglkhboaaGreatDoor

/- One round of l20Proc's loop: a step is drawn and put behind. No condition. -/
namespace Go.Proofs.YtcdfomoglkhboaaGreatDoor
open Go.RowKit
set_option linter.unusedVariables false
set_option linter.unusedSimpArgs false

/-- append to a row, as one operation: its run known ahead. -/
theorem op_append {P : Program} {Q : Exit → Act → World → Prop} {o : Oper} {a : Act} {K : Act → World → Prop} {w w' : World} {v y v' : Value} {t : TypeId} (s x : Operand) (ho : o.op = .call { callee := .builtin .append, args := #[s, x], argTypes := #[t, t] }) (hty : o.type = t) (hs : a.eval s = v) (hx : a.eval x = y)
    (hrun : (Builtin.append_ #[t, t] t #[v, y]).run P w = .ok v' w') (hK : K (a.put o.dst v') w') : o.wp P a w K Q := by
  unfold Oper.wp execOp
  simp only [ho, hty, resolve, invoke, builtin, Sem.run_bind, Sem.run_pure, Result.andThen_ok, List.map_toArray, List.map_cons, List.map_nil, hs, hx, hrun]
  exact hK
theorem op_enter {P : Program} {Q : Exit → Act → World → Prop} {o : Oper} {a : Act} {K : Act → World → Prop} {w : World} {f : FuncId} {vals : Array Value} (h : (execOp a.eval o).run P w = .ok (.enter f vals) w) (hC : Calls P f vals w fun e w' => ∃ v, e = .returned v ∧ K (a.put o.dst v) w') : o.wp P a w K Q := by
  unfold Oper.wp
  rw [h]
  refine Calls.mono hC ?_
  rintro e w' ⟨v, rfl, hK⟩
  exact hK
def OneI (F : Nat → Prop) (W : World) (v : Value) : Prop := ∃ (i : Ins) (b : Nat), v = .slice (some ⟨b, 0, none⟩) 1 1 ∧ Blk W b 38 i.cells.toArray ∧ ¬ F b
def NewI (B : Nat) (F : Nat → Prop) (k : Nat) (is : List Ins) (W : World) (v : Value) : Prop := ∃ (a : Option Addr) (cap : Nat) (i : Ins), v = .slice a (k + 1) cap ∧ W.ownsRow B 38 8 (.slice a (k + 1) cap) (k + 1) ((is ++ [i]).flatMap Ins.cells) ∧ ∀ b, (Value.slice a (k + 1) cap).ownBlock = some b → ¬ F b
def AppN (B b6 : Nat) (y0 y1 : Int) (k : Nat) (is : List Ins) (W : World) : Prop := ∃ (a : Option Addr) (cap : Nat) (i : Ins), Blk W b6 56 #[.int .i64 y0, .int .i64 y1, .slice a (k + 1) cap] ∧ W.ownsRow B 38 8 (.slice a (k + 1) cap) (k + 1) ((is ++ [i]).flatMap Ins.cells)
theorem OneI.chg {F G : Nat → Prop} {W W' : World} {v : Value} (h : OneI F W v) (c : Chg G W W') (hG : ∀ b, G b → F b) : OneI F W' v := by
  obtain ⟨i, b, h1, h2, h3⟩ := h
  exact ⟨i, b, h1, h2.chg c (fun e => h3 (hG b e)), h3⟩
theorem NewI.chg {B : Nat} {F G : Nat → Prop} {k : Nat} {is : List Ins} {W W' : World} {v : Value} (h : NewI B F k is W v) (c : Chg G W W') (hG : ∀ b, B ≤ b → G b → F b) : NewI B F k is W' v := by
  obtain ⟨a, cap, i, h1, h2, h3⟩ := h
  exact ⟨a, cap, i, h1, owns_chg h2 c (fun b hb e => h3 b hb (hG b (h2.lt b hb).1 e)), h3⟩
def cR : List Nat := [0, 0, 0, 0, 0, 27, 0, 0, 0, 0]
/-- What stands while the round's operations run. -/
structure PII (g p0 : Nat) (w : World) (b6 : Nat) (y0 y1 : Int) (k : Nat) (is : List Ins) (a : Option Addr) (cap : Nat) (L : Array Bool) (W : World) : Prop where
  c : ChgG g w W
  r : RdLe W g (p0 + costL (cOf cR) L)
  s : L.size = 10
  z : Blk W w.heap.size 56 #[.int .i64 0, .int .i64 0, .slice none 0 0]
  o : L.getD 7 false = false → W.ownsRow w.heap.size 38 8 (.slice a k cap) k (is.flatMap Ins.cells)
  b : L.getD 9 false = false → Blk W b6 56 #[.int .i64 y0, .int .i64 y1, .slice a k cap]
  n : L.getD 9 false = true → AppN w.heap.size b6 y0 y1 k is W
section
variable {g p0 : Nat} {w : World} {b6 : Nat} {y0 y1 : Int} {k : Nat} {is : List Ins} {a : Option Addr} {cap : Nat} {L : Array Bool} {W W' : World}
theorem PII.keep (h : PII g p0 w b6 y0 y1 k is a cap L W) {i : Nat} (hi : i < 10) (hL : L.getD i true = false) (h7 : i ≠ 7) (h9 : i ≠ 9) : PII g p0 w b6 y0 y1 k is a cap (L.setIfInBounds i true) W := by
  have hc := costL_set (cOf cR) L (i := i) (by rw [h.s]; exact hi) hL
  exact ⟨h.c, h.r.mono (by omega), by simp [h.s], h.z, by rw [getD_set h7]; exact h.o, by rw [getD_set h9]; exact h.b, by rw [getD_set h9]; exact h.n⟩
/-- A change of blocks that are none of ours: the reader's, or new. -/
theorem PII.go (h : PII g p0 w b6 y0 y1 k is a cap L W) {i : Nat} (hi : i < 10) (hL : L.getD i true = false) (h7 : i ≠ 7) (h9 : i ≠ 9) (h9L : L.getD 9 false = false) (c : ChgG g W W') (r : RdLe W' g (p0 + costL (cOf cR) L + cOf cR i)) (hg : g < w.heap.size) (h6 : w.heap.size < b6) : PII g p0 w b6 y0 y1 k is a cap (L.setIfInBounds i true) W' := by
  have hc := costL_set (cOf cR) L (i := i) (by rw [h.s]; exact hi) hL
  refine ⟨h.c.trans c, by rw [hc]; exact r.mono (by omega), by simp [h.s], h.z.chg c (by omega), ?_, ?_, ?_⟩
  · rw [getD_set h7]
    intro e
    exact owns_chg (h.o e) c (fun b hb e2 => by have := ((h.o e).lt b hb).1; omega)
  · rw [getD_set h9]
    intro e
    exact (h.b e).chg c (by omega)
  · rw [getD_set h9, h9L]
    intro e
    cases e
theorem blk_ne {w : World} {g base size n : Nat} {t e : TypeId} {cs : Array Value} {v : Value} {xs : List Value} (h : Blk w g t cs) (ho : w.ownsRow base e size v n xs) (hne : t ≠ e) : v.ownBlock ≠ some g := by
  intro hb
  rcases ho.2 with ⟨rfl, _⟩ | ⟨g', cap, cur, rfl, _, h3, _⟩
  · cases hb
  simp only [Value.ownBlock, Option.some.injEq] at hb
  subst hb
  have h1 : w.heap[g']? = _ := h
  rw [h1] at h3
  simp only [Option.some.injEq, Obj.cells.injEq] at h3
  exact hne h3.2.1
theorem rd_own {g P : Nat} {w w' : World} {base : Nat} {o : Option Nat} (h : RdLe w g P) (c : Chg (fun b => o = some b) w w') (ho : ∀ b, o = some b → base ≤ b) (hg : g < base) : RdLe w' g P :=
  h.chg c (fun b hb e => by have := ho b e; omega)
theorem chg_own {g : Nat} {w W W' : World} {o : Option Nat} (h : ChgG g w W) (c : Chg (fun b => o = some b) W W') (ho : ∀ b, o = some b → w.heap.size ≤ b) : ChgG g w W' :=
  Chg.trans h c (fun _ _ h => h) (fun i hi e => by have := ho i e; omega)
theorem PII.app (h : PII g p0 w b6 y0 y1 k is a cap L W) (hL : L.getD 7 true = false) (h7 : L.getD 7 false = false) (h9L : L.getD 9 false = false) (c : Chg (fun b => (Value.slice a k cap).ownBlock = some b) W W') (hg : g < w.heap.size) : PII g p0 w b6 y0 y1 k is a cap (L.setIfInBounds 7 true) W' := by
  have hc := costL_set (cOf cR) L (i := 7) (by rw [h.s]; omega) hL
  have ho := h.o h7
  have hlt := fun b hb => (ho.lt b hb).1
  refine ⟨chg_own h.c c hlt, (rd_own h.r c hlt hg).mono (by omega), by simp [h.s], h.z.chg c (blk_ne h.z ho (by decide)), ?_, ?_, ?_⟩
  · rw [getD_set1 (by rw [h.s]; omega)]
    intro e
    cases e
  · rw [getD_set (by omega)]
    intro e
    exact (h.b e).chg c (blk_ne (h.b e) ho (by decide))
  · rw [getD_set (by omega), h9L]
    intro e
    cases e
theorem PII.store (h : PII g p0 w b6 y0 y1 k is a cap L W) (hL : L.getD 9 true = false) (h9 : L.getD 9 false = false) (h7 : L.getD 7 false = true) {a2 : Option Addr} {cap2 : Nat} {i : Ins} (ho : W.ownsRow w.heap.size 38 8 (.slice a2 (k + 1) cap2) (k + 1) ((is ++ [i]).flatMap Ins.cells)) (hn : ∀ b, (Value.slice a2 (k + 1) cap2).ownBlock = some b → ¬ (b = b6 ∨ b = w.heap.size)) (hg : g < w.heap.size) (h6 : w.heap.size < b6) : PII g p0 w b6 y0 y1 k is a cap (L.setIfInBounds 9 true) (W.setCell ⟨b6, 2, none⟩ (.slice a2 (k + 1) cap2)) := by
  have hc := costL_set (cOf cR) L (i := 9) (by rw [h.s]; omega) hL
  refine ⟨chg_set h.c (by simp only; omega) _, (rd_set h.r (by simp only; omega) _).mono (by omega), by simp [h.s], h.z.far (by simp only; omega) _, ?_, ?_, ?_⟩
  · rw [getD_set (by omega), h7]
    intro e
    cases e
  · rw [getD_set1 (by rw [h.s]; omega)]
    intro e
    cases e
  · intro _
    exact ⟨a2, cap2, i, (h.b h9).set_ 2 _, owns_far ho (fun e => hn _ e (.inl rfl)) _⟩
end
end Go.Proofs.YtcdfomoglkhboaaGreatDoor
